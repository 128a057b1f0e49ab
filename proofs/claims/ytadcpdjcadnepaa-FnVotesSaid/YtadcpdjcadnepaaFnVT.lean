/-
  Trees, plainly: ways, the cheapest way that joins one more, all joined; ways that are drawn.
-/
import Derived.Test.YtadcpdjcadnepaaFnVP
namespace Go.Proofs.Ytadcpdjcadnepaa.Ab
open Go
set_option linter.unusedVariables false
set_option linter.unusedSimpArgs false
set_option maxRecDepth 100000

namespace tr
theorem idx_inj {n x y i k : Nat} (hy : y < n) (hk : k < n) (h : x * n + y = i * n + k) : x = i ∧ y = k := by
  have h1 : (x * n + y) / n = x := by rw [Nat.mul_comm, Nat.mul_add_div (by omega), Nat.div_eq_of_lt hy, Nat.add_zero]
  have h2 : (i * n + k) / n = i := by rw [Nat.mul_comm, Nat.mul_add_div (by omega), Nat.div_eq_of_lt hk, Nat.add_zero]
  have h3 : (x * n + y) % n = y := by rw [Nat.mul_comm, Nat.mul_add_mod, Nat.mod_eq_of_lt hy]
  have h4 : (i * n + k) % n = k := by rw [Nat.mul_comm, Nat.mul_add_mod, Nat.mod_eq_of_lt hk]
  rw [h] at h1 h3
  exact ⟨h1.symm.trans h2, h3.symm.trans h4⟩
theorem idx_lt {n i k : Nat} (hi : i < n) (hk : k < n) : i * n + k < n * n := by
  have : (i + 1) * n ≤ n * n := Nat.mul_le_mul_right n hi
  rw [Nat.succ_mul] at this
  omega
theorem idx_cast (i n k : Nat) : ((i : Int)) * (n : Int) + (k : Int) = ((i * n + k : Nat) : Int) := by simp
/-- Valid ways. -/
def ways.sp (p : Int) (cs : List Int) : Bool := decide (1 ≤ p ∧ p ≤ 5) && (decide (cs.length = (p.toNat + 1) * (p.toNat + 1)) && ((cs.all fun x => decide (0 ≤ x) && decide (x ≤ 1000)) &&
  ((List.range (p.toNat + 1)).all fun i => (List.range (p.toNat + 1)).all fun k => decide (gz cs (i * (p.toNat + 1) + k) = gz cs (k * (p.toNat + 1) + i)) && (!decide (i = k) || decide (gz cs (i * (p.toNat + 1) + k) = 0)))))
structure Ways (p : Nat) (cs : List Int) : Prop where
  p1 : 1 ≤ p
  p5 : p ≤ 5
  len : cs.length = (p + 1) * (p + 1)
  ran : ∀ x ∈ cs, 0 ≤ x ∧ x ≤ 1000
  sym : ∀ i k, i < p + 1 → k < p + 1 → gz cs (i * (p + 1) + k) = gz cs (k * (p + 1) + i)
  dia : ∀ i, i < p + 1 → gz cs (i * (p + 1) + i) = 0
theorem valid {p : Int} {cs : List Int} (h : ways.sp p cs = true) : ∃ q : Nat, p = q ∧ Ways q cs := by
  simp only [ways.sp, Bool.and_eq_true, decide_eq_true_eq, List.all_eq_true, List.mem_range, Bool.or_eq_true, Bool.not_eq_true', decide_eq_false_iff_not] at h
  obtain ⟨h1, h2, h3, h4⟩ := h
  obtain ⟨q, rfl⟩ : ∃ q : Nat, p = q := ⟨p.toNat, by omega⟩
  rw [Int.toNat_natCast] at h2 h4
  refine ⟨q, rfl, by omega, by omega, h2, h3, fun i k hi hk => (h4 i hi k hk).1, fun i hi => ?_⟩
  rcases (h4 i hi i hi).2 with h | h
  · exact absurd rfl h
  · exact h
theorem Ways.to {p : Nat} {cs : List Int} (h : Ways p cs) : ways.sp (p : Int) cs = true := by
  simp only [ways.sp, Bool.and_eq_true, decide_eq_true_eq, List.all_eq_true, List.mem_range, Bool.or_eq_true, Bool.not_eq_true', decide_eq_false_iff_not, Int.toNat_natCast]
  have h1 := h.p1
  have h5 := h.p5
  refine ⟨by omega, h.len, h.ran, fun i hi k hk => ⟨h.sym i k hi hk, ?_⟩⟩
  by_cases e : i = k
  · subst e; exact .inr (h.dia i hi)
  · exact .inl e
theorem Ways.c {p : Nat} {cs : List Int} (h : Ways p cs) (j : Nat) : 0 ≤ gz cs j ∧ gz cs j ≤ 1000 := by
  by_cases c : j < cs.length
  · exact h.ran _ (gz_mem c)
  · rw [gz_out (by omega)]; omega
/-- One look at a way: the place it leads to and its cost, if it is cheaper. -/
def stp (cs : List Int) (n J P i k : Nat) (a : Int × Int) : Int × Int :=
  bif (wo.off.sp J i || !wo.off.sp J k) || wo.off.sp P k then a else bif decide (a.1 < 0) || decide (gz cs (i * n + k) < a.2) then ((k : Int), gz cs (i * n + k)) else a
def inn.sv (cs : List Int) (n J P i : Nat) (a : Int × Int) : Nat → Int × Int
  | 0 => a
  | k + 1 => stp cs n J P i k (inn.sv cs n J P i a k)
def out.sv (cs : List Int) (n J P : Nat) : Nat → Int × Int
  | 0 => (-1, 0)
  | i + 1 => inn.sv cs n J P i (out.sv cs n J P i) n
/-- After t places have been joined: who is, and what they pay. -/
def jn.sv (cs : List Int) (n P : Nat) : Nat → Nat × List Int
  | 0 => (1, List.replicate n 0)
  | t + 1 => (wo.up.sv (jn.sv cs n P t).1 (out.sv cs n (jn.sv cs n P t).1 P n).1.toNat, (jn.sv cs n P t).2.set (out.sv cs n (jn.sv cs n P t).1 P n).1.toNat (out.sv cs n (jn.sv cs n P t).1 P n).2)
/-- Nothing yet, or a place that is to be joined. -/
def Good (n J P : Nat) (a : Int × Int) : Prop := (a.1 = -1 ∧ a.2 = 0) ∨ ∃ t : Nat, a.1 = t ∧ t < n ∧ wo.off.sp J t = true ∧ wo.off.sp P t = false ∧ 0 ≤ a.2 ∧ a.2 ≤ 1000
theorem stp_good {cs : List Int} (hc : ∀ j, 0 ≤ gz cs j ∧ gz cs j ≤ 1000) {n J P i k : Nat} (hk : k < n) {a : Int × Int} (h : Good n J P a) : Good n J P (stp cs n J P i k a) := by
  unfold stp
  cases e1 : wo.off.sp J i || !wo.off.sp J k || wo.off.sp P k with
  | true => exact h
  | false =>
    rw [cond_false]
    cases e2 : decide (a.1 < 0) || decide (gz cs (i * n + k) < a.2) with
    | false => exact h
    | true =>
      rw [cond_true]
      simp only [Bool.or_eq_false_iff, Bool.not_eq_false'] at e1
      exact .inr ⟨k, rfl, hk, e1.1.2, e1.2, hc _⟩
theorem stp_pos {cs : List Int} {n J P i k : Nat} {a : Int × Int} (h : 0 ≤ a.1) : 0 ≤ (stp cs n J P i k a).1 := by
  unfold stp
  cases wo.off.sp J i || !wo.off.sp J k || wo.off.sp P k
  · rw [cond_false]
    cases decide (a.1 < 0) || decide (gz cs (i * n + k) < a.2)
    · exact h
    · exact Int.natCast_nonneg _
  · exact h
theorem stp_take {cs : List Int} {n J P i k : Nat} {a : Int × Int} (h1 : wo.off.sp J i = false) (h2 : wo.off.sp J k = true) (h3 : wo.off.sp P k = false) : 0 ≤ (stp cs n J P i k a).1 := by
  unfold stp
  rw [h1, h2, h3]
  show 0 ≤ (bif decide (a.1 < 0) || decide (gz cs (i * n + k) < a.2) then ((k : Int), gz cs (i * n + k)) else a).1
  by_cases c : a.1 < 0
  · rw [decide_eq_true c]; exact Int.natCast_nonneg _
  · cases decide (a.1 < 0) || decide (gz cs (i * n + k) < a.2)
    · show 0 ≤ a.1; omega
    · exact Int.natCast_nonneg _
theorem stp_zero {cs : List Int} {n J P i : Nat} {a : Int × Int} (h : wo.off.sp J 0 = false) : stp cs n J P i 0 a = a := by
  unfold stp; rw [h]; simp
theorem inn_good {cs : List Int} (hc : ∀ j, 0 ≤ gz cs j ∧ gz cs j ≤ 1000) {n J P i : Nat} {a : Int × Int} (h : Good n J P a) : ∀ k, k ≤ n → Good n J P (inn.sv cs n J P i a k)
  | 0, _ => h
  | k + 1, hk => stp_good hc (by omega) (inn_good hc h k (by omega))
theorem inn_pos {cs : List Int} {n J P i : Nat} {a : Int × Int} (h : 0 ≤ a.1) : ∀ k, 0 ≤ (inn.sv cs n J P i a k).1
  | 0 => h
  | k + 1 => stp_pos (inn_pos h k)
theorem inn_take {cs : List Int} {n J P i q : Nat} {a : Int × Int} (h1 : wo.off.sp J i = false) (h2 : wo.off.sp J q = true) (h3 : wo.off.sp P q = false) : ∀ k, q < k → 0 ≤ (inn.sv cs n J P i a k).1
  | 0, h => by omega
  | k + 1, h => by
    by_cases e : q = k
    · subst e; exact stp_take h1 h2 h3
    · exact stp_pos (inn_take h1 h2 h3 k (by omega))
theorem out_good {cs : List Int} (hc : ∀ j, 0 ≤ gz cs j ∧ gz cs j ≤ 1000) {n J P : Nat} : ∀ i, Good n J P (out.sv cs n J P i)
  | 0 => .inl ⟨rfl, rfl⟩
  | i + 1 => inn_good hc (out_good hc i) n (Nat.le_refl _)
theorem out_pos {cs : List Int} {n J P q : Nat} (h1 : wo.off.sp J 0 = false) (h2 : wo.off.sp J q = true) (h3 : wo.off.sp P q = false) (hq : q < n) : ∀ i, 0 < i → 0 ≤ (out.sv cs n J P i).1
  | 0, h => by omega
  | 1, _ => inn_take h1 h2 h3 n hq
  | i + 2, _ => inn_pos (out_pos h1 h2 h3 hq (i + 1) (by omega)) n
/-- The place that is joined next. -/
theorem choice {cs : List Int} (hc : ∀ j, 0 ≤ gz cs j ∧ gz cs j ≤ 1000) {n J P q : Nat} (h1 : wo.off.sp J 0 = false) (h2 : wo.off.sp J q = true) (h3 : wo.off.sp P q = false) (hq : q < n) :
    ∃ t : Nat, (out.sv cs n J P n).1 = t ∧ t < n ∧ wo.off.sp J t = true ∧ wo.off.sp P t = false ∧ 0 ≤ (out.sv cs n J P n).2 ∧ (out.sv cs n J P n).2 ≤ 1000 := by
  rcases out_good hc (n := n) (J := J) (P := P) n with ⟨h, _⟩ | h
  · have := out_pos (cs := cs) h1 h2 h3 hq n (by omega)
    omega
  · exact h
theorem cnt_up : ∀ k < 64, ∀ i < 6, wo.off.sp k i = true → wo.cnt.sv (wo.up.sv k i) = wo.cnt.sv k + 1 := by decide +kernel
theorem up_off (k i j : Nat) : wo.off.sp (wo.up.sv k i) j = (wo.off.sp k j && !decide (i = j)) := by
  rw [vo.off_tb, vo.off_tb, wo.up_bit]
  cases k.testBit j <;> cases decide (i = j) <;> rfl
theorem sub_lt : ∀ J < 64, ∀ P < 64, (∀ i < 6, wo.off.sp P i = true → wo.off.sp J i = true) → J ≠ P → wo.cnt.sv J < wo.cnt.sv P ∧ ∃ q, q < 6 ∧ wo.off.sp J q = true ∧ wo.off.sp P q = false := by
  have main : ∀ J < 64, ∀ P < 64, ((List.range 6).all fun i => !wo.off.sp P i || wo.off.sp J i) = true → J ≠ P → (decide (wo.cnt.sv J < wo.cnt.sv P) && (List.range 6).any fun q => wo.off.sp J q && !wo.off.sp P q) = true := by decide +kernel
  intro J hJ P hP h hne
  have h1 : ((List.range 6).all fun i => !wo.off.sp P i || wo.off.sp J i) = true := by
    simp only [List.all_eq_true, List.mem_range]
    intro i hi
    have := h i hi
    revert this
    cases wo.off.sp P i <;> cases wo.off.sp J i <;> simp
  have := main J hJ P hP h1 hne
  simp only [Bool.and_eq_true, decide_eq_true_eq, List.any_eq_true, List.mem_range, Bool.not_eq_true'] at this
  obtain ⟨h2, q, h3, h4, h5⟩ := this
  exact ⟨h2, q, h3, h4, h5⟩
theorem off_one : ∀ i < 6, wo.off.sp 1 i = !decide (i = 0) := by decide +kernel
theorem cnt_odd : ∀ s < 32, wo.cnt.sv (2 * s + 1) = wo.cnt.sv s + 1 := by decide +kernel
theorem off_odd : ∀ s < 32, wo.off.sp (2 * s + 1) 0 = false := by decide +kernel
theorem off_odd_succ : ∀ s < 32, ∀ i < 5, wo.off.sp (2 * s + 1) (i + 1) = wo.off.sp s i := by decide +kernel
theorem odd_ior : ∀ s < 32, ior.sv .i64 (ishl.sv .i64 ((s : Nat) : Int) 1) 1 = ((2 * s + 1 : Nat) : Int) := by decide +kernel
theorem off_high : ∀ n < 7, ∀ k < 2 ^ n, ∀ i < 6, n ≤ i → wo.off.sp k i = true := by decide +kernel
/-- What holds when t places have been joined. -/
structure At (n P t : Nat) (r : Nat × List Int) : Prop where
  lt : r.1 < 2 ^ n
  sub : ∀ i, i < 6 → wo.off.sp P i = true → wo.off.sp r.1 i = true
  zero : wo.off.sp r.1 0 = false
  cnt : wo.cnt.sv r.1 = t + 1
  len : r.2.length = n
  first : gz r.2 0 = 0
  ran : ∀ x ∈ r.2, 0 ≤ x ∧ x ≤ 1000
theorem jn_at {cs : List Int} (hc : ∀ j, 0 ≤ gz cs j ∧ gz cs j ≤ 1000) {n P : Nat} (hn : 1 ≤ n ∧ n ≤ 6) (hP : P < 2 ^ n) (hP0 : wo.off.sp P 0 = false) : ∀ t, t + 1 ≤ wo.cnt.sv P → At n P t (jn.sv cs n P t)
  | 0, _ => by
    have h1 : 2 ≤ 2 ^ n := Nat.le_trans (by decide : 2 ≤ 2 ^ 1) (Nat.pow_le_pow_right (by decide) hn.1)
    refine ⟨?_, fun i hi h => ?_, ?_, ?_, List.length_replicate, ?_, fun x hx => ?_⟩
    · show 1 < 2 ^ n; omega
    · show wo.off.sp 1 i = true
      rw [off_one i hi]
      by_cases e : i = 0
      · subst e; rw [hP0] at h; cases h
      · rw [decide_eq_false e]; rfl
    · show wo.off.sp 1 0 = false; decide
    · show wo.cnt.sv 1 = 0 + 1; decide
    · show gz (List.replicate n 0) 0 = 0
      rw [gz_eq (by rw [List.length_replicate]; omega), List.getElem_replicate]
    · simp only [jn.sv, List.mem_replicate] at hx
      omega
  | t + 1, ht => by
    have ih := jn_at hc hn hP hP0 t (by omega)
    have h64 : 2 ^ n ≤ 64 := wo.pow_le hn.2
    have hJ := ih.lt
    have hne : (jn.sv cs n P t).1 ≠ P := fun e => by have := ih.cnt; rw [e] at this; omega
    obtain ⟨_, q, q1, q2, q3⟩ := sub_lt _ (by omega) P (by omega) ih.sub hne
    have hq : q < n := by
      rcases Nat.lt_or_ge q n with h | h
      · exact h
      · rw [off_high n (by omega) P hP q q1 h] at q3; cases q3
    obtain ⟨k, k1, k2, k3, k4, k5⟩ := choice (n := n) hc ih.zero q2 q3 hq
    have e : jn.sv cs n P (t + 1) = (wo.up.sv (jn.sv cs n P t).1 k, (jn.sv cs n P t).2.set k (out.sv cs n (jn.sv cs n P t).1 P n).2) := by rw [jn.sv, k1, Int.toNat_natCast]
    rw [e]
    have hk0 : k ≠ 0 := fun e => by subst e; rw [ih.zero] at k3; cases k3
    refine ⟨wo.up_lt hJ k2, fun i hi h => ?_, ?_, ?_, ?_, ?_, fun x hx => ?_⟩
    · rw [up_off, ih.sub i hi h, decide_eq_false (fun e => by subst e; rw [h] at k4; cases k4)]; rfl
    · rw [up_off, ih.zero]; rfl
    · rw [cnt_up _ (by omega) k (by omega) k3, ih.cnt]
    · rw [List.length_set, ih.len]
    · rw [gz_set (by rw [ih.len]; exact k2), if_neg hk0, ih.first]
    · rcases List.mem_or_eq_of_mem_set hx with h | rfl
      · exact ih.ran x h
      · exact k5
theorem jn_end {cs : List Int} (hc : ∀ j, 0 ≤ gz cs j ∧ gz cs j ≤ 1000) {n P : Nat} (hn : 1 ≤ n ∧ n ≤ 6) (hP : P < 2 ^ n) (hP0 : wo.off.sp P 0 = false) {t : Nat} (ht : t + 1 ≤ wo.cnt.sv P) :
    ((jn.sv cs n P t).1 = P ↔ t + 1 = wo.cnt.sv P) := by
  have h := jn_at (cs := cs) hc hn hP hP0 t ht
  have h64 : 2 ^ n ≤ 64 := wo.pow_le hn.2
  have hJ := h.lt
  constructor
  · intro e
    have := h.cnt
    rw [e] at this; exact this.symm
  · intro e
    apply Decidable.byContradiction
    intro hne
    have := (sub_lt _ (by omega) P (by omega) h.sub hne).1
    rw [h.cnt] at this; omega
/-- What all pay. -/
def pays.sv (cs : List Int) (p s : Nat) : List Int := (jn.sv cs (p + 1) (2 * s + 1) (wo.cnt.sv s)).2
def w.sv (cs : List Int) (p s : Nat) : Int := wo.ss.sv (pays.sv cs p s) (p + 1)
theorem odd_lt {p s : Nat} (h : s < 2 ^ p) : 2 * s + 1 < 2 ^ (p + 1) := by rw [Nat.pow_succ]; omega
theorem pays_at {cs : List Int} {p s : Nat} (h : Ways p cs) (hs : s < 2 ^ p) : At (p + 1) (2 * s + 1) (wo.cnt.sv s) (jn.sv cs (p + 1) (2 * s + 1) (wo.cnt.sv s)) := by
  have h5 := h.p5
  have h1 := h.p1
  have h32 : 2 ^ p ≤ 32 := Nat.pow_le_pow_right (by decide) h5
  exact jn_at h.c ⟨by omega, by omega⟩ (odd_lt hs) (off_odd s (by omega)) _ (by rw [cnt_odd s (by omega)]; omega)
theorem w_in {cs : List Int} {p s : Nat} (h : Ways p cs) (hs : s < 2 ^ p) : 0 ≤ w.sv cs p s ∧ w.sv cs p s ≤ 6000 := by
  have ha := pays_at h hs
  have h5 := h.p5
  have main : ∀ k : Nat, 0 ≤ wo.ss.sv (pays.sv cs p s) k ∧ wo.ss.sv (pays.sv cs p s) k ≤ 1000 * (k : Int) := by
    intro k
    induction k with
    | zero => simp [wo.ss.sv]
    | succ k ih =>
      have hk : 0 ≤ gz (pays.sv cs p s) k ∧ gz (pays.sv cs p s) k ≤ 1000 := by
        by_cases c : k < (pays.sv cs p s).length
        · exact ha.ran _ (gz_mem c)
        · rw [gz_out (by omega)]; omega
      simp only [wo.ss.sv]; omega
  have := main (p + 1)
  rw [w.sv]; omega
theorem w_zero (cs : List Int) (p : Nat) : w.sv cs p 0 = 0 := wo.ss_zero (p + 1) (p + 1)
theorem ss_tail {l : List Int} (h : gz l 0 = 0) : ∀ k, wo.ss.sv (l.drop 1) k = wo.ss.sv l (k + 1)
  | 0 => by simp [wo.ss.sv, h]
  | k + 1 => by
    rw [wo.ss.sv, ss_tail h k, wo.ss.sv]
    congr 1
    show (l.drop 1).getD k 0 = l.getD (k + 1) 0
    rw [List.getD_eq_getElem?_getD, List.getD_eq_getElem?_getD, List.getElem?_drop, Nat.add_comm]
/-- Who is joined, as truths. -/
def bl.sv (J : Nat) : Nat → List Bool
  | 0 => []
  | n + 1 => bl.sv J n ++ [!wo.off.sp J n]
theorem bl_length (J : Nat) : ∀ n, (bl.sv J n).length = n
  | 0 => rfl
  | n + 1 => by rw [bl.sv, List.length_append, bl_length J n, List.length_singleton]
theorem bl_get (J : Nat) : ∀ {n i : Nat}, i < n → (bl.sv J n)[i]? = some (!wo.off.sp J i)
  | 0, i, h => by omega
  | n + 1, i, h => by
    rw [bl.sv, List.getElem?_append, bl_length]
    by_cases c : i < n
    · rw [if_pos c]; exact bl_get J c
    · obtain rfl : i = n := by omega
      rw [if_neg c, Nat.sub_self]; rfl
theorem bl_set (J n k : Nat) (hk : k < n) : (bl.sv J n).set k true = bl.sv (wo.up.sv J k) n := by
  apply List.ext_getElem?
  intro i
  by_cases c : i < n
  · rw [List.getElem?_set, bl_get _ c, bl_get _ c, bl_length, up_off]
    by_cases e : k = i
    · subst e; rw [if_pos rfl, if_pos hk, decide_eq_true rfl]; simp
    · rw [if_neg e, decide_eq_false e]; simp
  · rw [List.getElem?_eq_none (by rw [List.length_set, bl_length]; omega), List.getElem?_eq_none (by rw [bl_length]; omega)]
/-- Ways that are drawn. -/
structure Rw where
  os : List Int
  a : Nat
  s : Int
def ci.sv (xs : List Int) (n i : Nat) (r : Rw) : Nat → Rw
  | 0 => r
  | k + 1 => ⟨((ci.sv xs n i r k).os.set (i * n + k) ((r8.nx.sv xs (ci.sv xs n i r k).a (ci.sv xs n i r k).s).tmod 9)).set (k * n + i) ((r8.nx.sv xs (ci.sv xs n i r k).a (ci.sv xs n i r k).s).tmod 9), (ci.sv xs n i r k).a + 1, r8.seed.sv xs (ci.sv xs n i r k).a (ci.sv xs n i r k).s⟩
def co.sv (xs : List Int) (n : Nat) : Nat → Rw
  | 0 => ⟨List.replicate (n * n) 0, 0, 0⟩
  | i + 1 => ci.sv xs n i (co.sv xs n i) i
structure Sym (n : Nat) (os : List Int) : Prop where
  len : os.length = n * n
  ran : ∀ x ∈ os, 0 ≤ x ∧ x ≤ 8
  sym : ∀ i k, i < n → k < n → gz os (i * n + k) = gz os (k * n + i)
  dia : ∀ i, i < n → gz os (i * n + i) = 0
theorem Sym.put {n : Nat} {os : List Int} (h : Sym n os) {i k : Nat} (hi : i < n) (hk : k < i) {v : Int} (hv : 0 ≤ v ∧ v ≤ 8) : Sym n ((os.set (i * n + k) v).set (k * n + i) v) := by
  have l1 : i * n + k < os.length := by rw [h.len]; exact idx_lt hi (by omega)
  have l2 : k * n + i < (os.set (i * n + k) v).length := by rw [List.length_set, h.len]; exact idx_lt (by omega) hi
  have key : ∀ x y, x < n → y < n → gz ((os.set (i * n + k) v).set (k * n + i) v) (x * n + y) = if (x = k ∧ y = i) ∨ (x = i ∧ y = k) then v else gz os (x * n + y) := by
    intro x y hx hy
    rw [gz_set l2, gz_set l1]
    by_cases e1 : k * n + i = x * n + y
    · obtain ⟨rfl, rfl⟩ := idx_inj hi hy e1
      rw [if_pos rfl, if_pos (.inl ⟨rfl, rfl⟩)]
    · rw [if_neg e1]
      by_cases e2 : i * n + k = x * n + y
      · obtain ⟨rfl, rfl⟩ := idx_inj (by omega) hy e2
        rw [if_pos rfl, if_pos (.inr ⟨rfl, rfl⟩)]
      · rw [if_neg e2, if_neg]
        rintro (⟨rfl, rfl⟩ | ⟨rfl, rfl⟩)
        · exact e1 rfl
        · exact e2 rfl
  refine ⟨by rw [List.length_set, List.length_set, h.len], fun x hx => ?_, fun x y hx hy => ?_, fun x hx => ?_⟩
  · rcases List.mem_or_eq_of_mem_set hx with hx | rfl
    · rcases List.mem_or_eq_of_mem_set hx with hx | rfl
      · exact h.ran x hx
      · exact hv
    · exact hv
  · rw [key x y hx hy, key y x hy hx, h.sym x y hx hy]
    by_cases c : (x = k ∧ y = i) ∨ (x = i ∧ y = k)
    · rw [if_pos c, if_pos (by rcases c with ⟨rfl, rfl⟩ | ⟨rfl, rfl⟩ <;> simp)]
    · rw [if_neg c, if_neg (by rintro (⟨rfl, rfl⟩ | ⟨rfl, rfl⟩) <;> simp at c)]
  · rw [key x x hx hx, if_neg (by rintro (⟨rfl, e⟩ | ⟨rfl, e⟩) <;> omega), h.dia x hx]
theorem ci_sym {xs : List Int} (hb : r8.bytes.sp xs = true) {n i : Nat} (hi : i < n) {r : Rw} (h : Sym n r.os) : ∀ k, k ≤ i → Sym n (ci.sv xs n i r k).os
  | 0, _ => h
  | k + 1, hk => by
    have ih := ci_sym hb hi h k (by omega)
    have h1 := r8.nx_ok hb (ci.sv xs n i r k).a (ci.sv xs n i r k).s
    have t1 := r8.tmod_in (n := 9) h1.1 (by omega)
    exact ih.put hi (by omega) ⟨by omega, by omega⟩
theorem co_sym {xs : List Int} (hb : r8.bytes.sp xs = true) {n : Nat} : ∀ i, i ≤ n → Sym n (co.sv xs n i).os
  | 0, _ => by
    have z : ∀ j, gz (List.replicate (n * n) (0 : Int)) j = 0 := fun j => by
      by_cases c : j < n * n
      · rw [gz_eq (by simpa using c), List.getElem_replicate]
      · rw [gz_out (by simpa using c)]
    refine ⟨List.length_replicate, fun x hx => ?_, fun i k _ _ => ?_, fun i _ => z _⟩
    · simp only [co.sv, List.mem_replicate] at hx
      omega
    · show gz (List.replicate (n * n) 0) _ = gz (List.replicate (n * n) 0) _
      rw [z, z]
  | i + 1, h => ci_sym hb (by omega) (co_sym hb i (by omega)) i (Nat.le_refl _)
theorem ci_a (xs : List Int) (n i : Nat) (r : Rw) : ∀ k, (ci.sv xs n i r k).a = r.a + k
  | 0 => rfl
  | k + 1 => by
    show (ci.sv xs n i r k).a + 1 = _
    rw [ci_a xs n i r k]; omega
theorem co_a (xs : List Int) (n : Nat) : ∀ i, i ≤ 8 → (co.sv xs n i).a ≤ 8 * i
  | 0, _ => Nat.le_refl _
  | i + 1, h => by
    have := co_a xs n i (by omega)
    rw [co.sv, ci_a]; omega
theorem co_ways {xs : List Int} (hb : r8.bytes.sp xs = true) {p : Nat} (h1 : 1 ≤ p) (h5 : p ≤ 5) : Ways p (co.sv xs (p + 1) (p + 1)).os := by
  have h := co_sym hb (n := p + 1) (p + 1) (Nat.le_refl _)
  exact ⟨h1, h5, h.len, fun x hx => by have := h.ran x hx; omega, h.sym, h.dia⟩
end tr

end Go.Proofs.Ytadcpdjcadnepaa.Ab
