/-
  Games: better steps, potentials, zero sums, in plain words.
-/
import Derived.Test.YtgblgofmdhekiaaFnVB
import Derived.Test.YtgblgofmdhekiaaFnGJ
namespace Go.Proofs.Ytgblgofmdhekiaa.Ab
open Go
set_option linter.unusedVariables false
set_option linter.unusedSimpArgs false

theorem gz_left {l : List Int} {x : Int} {j : Nat} (h : j < l.length) : gz (l ++ [x]) j = gz l j := by
  rw [gz_eq h, gz_eq (by simp; omega), List.getElem_append_left h]
theorem gz_last {l : List Int} {x : Int} : gz (l ++ [x]) l.length = x := by
  rw [gz_eq (by simp), List.getElem_append_right (by omega)]
  simp
theorem gz_mem {l : List Int} {j : Nat} (h : j < l.length) : gz l j ∈ l := by rw [gz_eq h]; exact List.getElem_mem h

namespace an
/-- Nobody gains by another choice. -/
def PE (r c : Nat) (xs ys : List Int) (i k : Nat) : Prop := (∀ j, j < r → gz xs (j * c + k) ≤ gz xs (i * c + k)) ∧ ∀ l, l < c → gz ys (i * c + l) ≤ gz ys (i * c + k)
theorem F_iff {f : Nat → Int} {n q : Nat} : q ∈ br.F f n ↔ q < n ∧ ∀ j, j < n → f j ≤ f q := by
  simp only [br.F, List.mem_filter, List.mem_range, br.P_iff]
theorem best_iff {r c : Nat} {xs : List Int} {k i : Nat} : pu.h.sp (br.sv r c xs k) (i : Int) = true ↔ i < r ∧ ∀ j, j < r → gz xs (j * c + k) ≤ gz xs (i * c + k) := by
  simp only [pu.h.sp, br.sv, br.up, List.any_map, List.any_eq_true, Function.comp, beq_iff_eq]
  constructor
  · rintro ⟨q, hq, e⟩
    obtain rfl : q = i := by omega
    exact F_iff.1 hq
  · intro h
    exact ⟨i, F_iff.2 h, rfl⟩
theorem p_iff {r c : Nat} {xs ys : List Int} {i k : Nat} (hi : i < r) (hk : k < c) : pu.p.sp r c xs ys i k = true ↔ PE r c xs ys i k := by
  simp only [pu.p.sp, Bool.and_eq_true, best_iff, PE]
  have e : ∀ l, l < c → gz (tn.sv r c ys) (l * r + i) = gz ys (i * c + l) := fun l hl => tn.sv_get hl hi
  constructor
  · rintro ⟨⟨_, h1⟩, _, h2⟩
    refine ⟨h1, fun l hl => ?_⟩
    have := h2 l hl
    rwa [e l hl, e k hk] at this
  · rintro ⟨h1, h2⟩
    refine ⟨⟨hi, h1⟩, hk, fun l hl => ?_⟩
    rw [e l hl, e k hk]
    exact h2 l hl
/-- A cell in which nobody gains by another choice. -/
def Pc (r c : Nat) (xs ys : List Int) (x : Int) : Prop := ∃ i k, i < r ∧ k < c ∧ x = ((i * c + k : Nat) : Int) ∧ PE r c xs ys i k
theorem pu_iff {r c : Nat} {xs ys : List Int} {x : Int} : x ∈ pu.sv r c xs ys ↔ Pc r c xs ys x := by
  simp only [pu.sv, pu.pre, pu.row, List.mem_append, List.mem_flatMap, List.mem_range, List.mem_map, List.mem_filter, List.range_zero, List.filter_nil, List.map_nil, List.not_mem_nil, or_false, Pc]
  constructor
  · rintro ⟨i, hi, k, ⟨hk, hp⟩, rfl⟩
    exact ⟨i, k, hi, hk, rfl, (p_iff hi hk).1 hp⟩
  · rintro ⟨i, k, hi, hk, rfl, hp⟩
    exact ⟨i, hi, k, ⟨hk, (p_iff hi hk).2 hp⟩, rfl⟩
theorem ix_inj {c i k j l : Nat} (hk : k < c) (hl : l < c) (h : i * c + k = j * c + l) : i = j ∧ k = l := by
  have h1 := congrArg (· % c) h
  simp only [po.mod_ix hk, po.mod_ix hl] at h1
  subst h1
  have h2 : i * c = j * c := by omega
  exact ⟨Nat.eq_of_mul_eq_mul_right (by omega) h2, rfl⟩
theorem Pc_ix {r c : Nat} {xs ys : List Int} {i k : Nat} (hk : k < c) : Pc r c xs ys ((i * c + k : Nat) : Int) → PE r c xs ys i k := by
  rintro ⟨j, l, hj, hl, e, h⟩
  obtain ⟨rfl, rfl⟩ := ix_inj hk hl (Int.natCast_inj.1 e)
  exact h
/-- One better answer. -/
def Stp (c : Nat) (xs ys : List Int) (a b : Int) : Prop :=
  (a.toNat / c = b.toNat / c ∧ gz ys a.toNat < gz ys b.toNat) ∨ (a.toNat / c ≠ b.toNat / c ∧ a.toNat % c = b.toNat % c ∧ gz xs a.toNat < gz xs b.toNat)
def Ch (c : Nat) (xs ys : List Int) (l : List Int) : Prop := ∀ j, j + 1 < l.length → Stp c xs ys (gz l j) (gz l (j + 1))
def Rg (N : Nat) (l : List Int) : Prop := ∀ y ∈ l, 0 ≤ y ∧ y < (N : Int)
theorem Ch.snoc {c : Nat} {xs ys l : List Int} {a x : Int} (h : Ch c xs ys (l ++ [a])) (hs : Stp c xs ys a x) : Ch c xs ys (l ++ [a] ++ [x]) := by
  intro j hj
  rw [List.length_append, List.length_append, List.length_singleton, List.length_singleton] at hj
  have hl : (l ++ [a]).length = l.length + 1 := by simp
  by_cases e : j = l.length
  · subst e
    rw [gz_left (by omega), gz_last, show l.length + 1 = (l ++ [a]).length from hl.symm, gz_last]
    exact hs
  · have a1 : gz (l ++ [a] ++ [x]) j = gz (l ++ [a]) j := gz_left (by omega)
    have a2 : gz (l ++ [a] ++ [x]) (j + 1) = gz (l ++ [a]) (j + 1) := gz_left (by omega)
    rw [a1, a2]
    exact h j (by omega)
theorem Rg.snoc {N : Nat} {l : List Int} {x : Nat} (h : Rg N l) (hx : x < N) : Rg N (l ++ [(x : Int)]) := by
  intro y hy
  rcases List.mem_append.1 hy with hy | hy
  · exact h y hy
  · simp only [List.mem_singleton] at hy; omega
theorem div_ix {i c k : Nat} (h : k < c) : (i * c + k) / c = i := by
  rw [Nat.add_comm, Nat.add_mul_div_right _ _ (by omega), Nat.div_eq_of_lt h, Nat.zero_add]
/-- What better steps come to. -/
def Fin (r c : Nat) (xs ys : List Int) (p : List Int) (R : List Int) : Prop := ∃ q e, R = q ++ [e] ∧ p <+: (q ++ [e]) ∧ Ch c xs ys (q ++ [e]) ∧ Rg (r * c) (q ++ [e]) ∧ (∀ y ∈ q, ¬ Pc r c xs ys y) ∧ (e ∈ q ∨ Pc r c xs ys e)
theorem go_ok {r c : Nat} {xs ys : List Int} : ∀ (m i k : Nat) (p : List Int), i < r → k < c → (p ++ [((i * c + k : Nat) : Int)]).Nodup → Ch c xs ys (p ++ [((i * c + k : Nat) : Int)]) → Rg (r * c) (p ++ [((i * c + k : Nat) : Int)]) →
    (∀ y ∈ p, ¬ Pc r c xs ys y) → r * c < p.length + 1 + m → Fin r c xs ys (p ++ [((i * c + k : Nat) : Int)]) (bs.go r c xs ys m i k (p ++ [((i * c + k : Nat) : Int)])) := by
  intro m
  induction m with
  | zero =>
    intro i k p hi hk hd hc hg hp hm
    have := bs.pigeon (r * c) _ hd hg
    rw [List.length_append, List.length_singleton] at this
    omega
  | succ m ih =>
    intro i k p hi hk hd hc hg hp hm
    have move : ∀ j l, j < r → l < c → Stp c xs ys ((i * c + k : Nat) : Int) ((j * c + l : Nat) : Int) → ¬ Pc r c xs ys ((i * c + k : Nat) : Int) →
        Fin r c xs ys (p ++ [((i * c + k : Nat) : Int)]) (bs.next (bs.go r c xs ys m) c j l (p ++ [((i * c + k : Nat) : Int)])) := by
      intro j l hj hl hs hn
      have hp2 : ∀ y ∈ p ++ [((i * c + k : Nat) : Int)], ¬ Pc r c xs ys y := by
        intro y hy
        rcases List.mem_append.1 hy with hy | hy
        · exact hp y hy
        · simp only [List.mem_singleton] at hy; subst hy; exact hn
      have hg2 := hg.snoc (gm.ix_lt hj hl)
      have hc2 := hc.snoc hs
      unfold bs.next
      cases hh : pu.h.sp (p ++ [((i * c + k : Nat) : Int)]) ((j * c + l : Nat) : Int)
      · rw [cond_false]
        obtain ⟨q, e, h1, h2, h3⟩ := ih j l (p ++ [((i * c + k : Nat) : Int)]) hj hl (bs.snoc_nodup hd (bs.mem_h hh)) hc2 hg2 hp2 (by rw [List.length_append, List.length_singleton]; omega)
        exact ⟨q, e, h1, (List.prefix_append _ _).trans h2, h3⟩
      · rw [cond_true]
        refine ⟨p ++ [((i * c + k : Nat) : Int)], ((j * c + l : Nat) : Int), rfl, List.prefix_append _ _, hc2, hg2, hp2, .inl ?_⟩
        simp only [pu.h.sp, List.any_eq_true, beq_iff_eq] at hh
        obtain ⟨y, hy, rfl⟩ := hh
        exact hy
    obtain ⟨g1, ht⟩ := bs.to_ok c xs k (r := r) (by omega)
    obtain ⟨g2, hs⟩ := bs.to_ok r (tn.sv r c ys) i (r := c) (by omega)
    have b1 : ∀ j, j < r → gz xs (j * c + k) ≤ gz xs (bs.to.sv r c xs k * c + k) := by
      have hp := br.sv_pos c xs k (r := r) (by omega)
      have : pu.h.sp (br.sv r c xs k) ((bs.to.sv r c xs k : Nat) : Int) = true := by
        simp only [pu.h.sp, List.any_eq_true, beq_iff_eq]
        exact ⟨_, gz_mem hp, g1⟩
      exact (best_iff.1 this).2
    have b2 : ∀ l, l < c → gz ys (i * c + l) ≤ gz ys (i * c + bs.to.sv c r (tn.sv r c ys) i) := by
      have hp := br.sv_pos r (tn.sv r c ys) i (r := c) (by omega)
      have : pu.h.sp (br.sv c r (tn.sv r c ys) i) ((bs.to.sv c r (tn.sv r c ys) i : Nat) : Int) = true := by
        simp only [pu.h.sp, List.any_eq_true, beq_iff_eq]
        exact ⟨_, gz_mem hp, g2⟩
      intro l hl
      have := (best_iff.1 this).2 l hl
      rwa [tn.sv_get hl hi, tn.sv_get hs hi] at this
    simp only [bs.go]
    generalize bs.to.sv r c xs k = t at ht b1 ⊢
    generalize bs.to.sv c r (tn.sv r c ys) i = s at hs b2 ⊢
    have e1 : br.col c xs k i = gz xs (i * c + k) := rfl
    have e2 : br.col c xs k t = gz xs (t * c + k) := rfl
    have e3 : br.col c ys k i = gz ys (i * c + k) := rfl
    have e4 : br.col c ys s i = gz ys (i * c + s) := rfl
    rw [e1, e2, e3, e4]
    by_cases c1 : gz xs (i * c + k) < gz xs (t * c + k)
    · rw [decide_eq_true c1, cond_true]
      refine move t k ht hk (.inr ?_) ?_
      · rw [Int.toNat_natCast, Int.toNat_natCast, div_ix hk, div_ix hk, po.mod_ix hk, po.mod_ix hk]
        exact ⟨fun e => by subst e; omega, rfl, c1⟩
      · intro h
        have := (Pc_ix hk h).1 t ht
        omega
    · rw [decide_eq_false c1, cond_false]
      by_cases c2 : gz ys (i * c + k) < gz ys (i * c + s)
      · rw [decide_eq_true c2, cond_true]
        refine move i s hi hs (.inl ?_) ?_
        · rw [Int.toNat_natCast, Int.toNat_natCast, div_ix hk, div_ix hs]
          exact ⟨rfl, c2⟩
        · intro h
          have := (Pc_ix hk h).2 s hs
          omega
      · rw [decide_eq_false c2, cond_false]
        refine ⟨p, _, rfl, List.prefix_refl _, hc, hg, hp, .inr ⟨i, k, hi, hk, rfl, fun j hj => ?_, fun l hl => ?_⟩⟩
        · have := b1 j hj; omega
        · have := b2 l hl; omega
theorem sv_ok {r c : Nat} {xs ys : List Int} {i k : Nat} (h36 : r * c ≤ 36) (hi : i < r) (hk : k < c) : Fin r c xs ys [((i * c + k : Nat) : Int)] (bs.sv r c xs ys i k) := by
  refine go_ok 40 i k [] hi hk (by simp) (fun j hj => ?_) (fun y hy => ?_) (fun y hy => by simp at hy) (by simp; omega)
  · simp at hj
  · simp only [List.nil_append, List.mem_singleton] at hy
    have := gm.ix_lt hi hk
    omega
/-- Potentials rise along better steps. -/
theorem rise {r c : Nat} {xs ys : List Int} (hp : po.sp r c xs ys = true) {a b : Int} (ha : 0 ≤ a ∧ a < ((r * c : Nat) : Int)) (hb : 0 ≤ b ∧ b < ((r * c : Nat) : Int)) (h : Stp c xs ys a b) :
    po.cell c xs ys a.toNat < po.cell c xs ys b.toNat := by
  unfold po.sp at hp
  obtain ⟨a, rfl⟩ : ∃ q : Nat, a = q := ⟨a.toNat, by omega⟩
  obtain ⟨b, rfl⟩ : ∃ q : Nat, b = q := ⟨b.toNat, by omega⟩
  rcases h with ⟨h1, h2⟩ | ⟨h0, h1, h2⟩
  · rw [Int.toNat_natCast, Int.toNat_natCast] at h1 h2 ⊢
    have e1 := po.chk_b hp a (by omega) (by omega)
    have e2 := po.chk_b hp b (by omega) (by omega)
    simp only [po.b, beq_iff_eq] at e1 e2
    have s1 : a - a % c = c * (a / c) := by have := Nat.div_add_mod a c; omega
    have s2 : b - b % c = c * (b / c) := by have := Nat.div_add_mod b c; omega
    rw [s1, h1] at e1
    rw [s2] at e2
    omega
  · rw [Int.toNat_natCast, Int.toNat_natCast] at h1 h2 ⊢
    unfold po.cell
    rw [h1]
    omega
theorem rises {r c : Nat} {xs ys l : List Int} (hp : po.sp r c xs ys = true) (hc : Ch c xs ys l) (hg : Rg (r * c) l) : ∀ d j, j + d + 1 < l.length → po.cell c xs ys (gz l j).toNat < po.cell c xs ys (gz l (j + d + 1)).toNat := by
  have one : ∀ j, j + 1 < l.length → po.cell c xs ys (gz l j).toNat < po.cell c xs ys (gz l (j + 1)).toNat := fun j hj =>
    rise hp (hg _ (gz_mem (by omega))) (hg _ (gz_mem hj)) (hc j hj)
  intro d
  induction d with
  | zero => intro j hj; exact one j (by omega)
  | succ d ih =>
    intro j hj
    have h1 := ih j (by omega)
    have h2 := one (j + d + 1) (by omega)
    have e : j + (d + 1) + 1 = j + d + 1 + 1 := by omega
    rw [e]
    omega
theorem fresh {r c : Nat} {xs ys q : List Int} {e : Int} (hp : po.sp r c xs ys = true) (hc : Ch c xs ys (q ++ [e])) (hg : Rg (r * c) (q ++ [e])) : e ∉ q := by
  intro h
  obtain ⟨j, hj, hje⟩ := List.getElem_of_mem h
  have := rises hp hc hg (q.length - 1 - j) j (by rw [List.length_append, List.length_singleton]; omega)
  rw [show j + (q.length - 1 - j) + 1 = q.length from by omega, gz_last, gz_left hj, gz_eq hj, hje] at this
  omega
/-! ### Zero sums -/
theorem pk_ok (bt : Int → Int → Bool) (le : Int → Int → Prop) (tr : ∀ a b c, le a b → le b c → le a c) (rf : ∀ a, le a a) (h1 : ∀ a b, bt a b = true → le b a) (h2 : ∀ a b, bt a b = false → le a b) (f : Nat → Int) :
    ∀ (d i w : Nat) (v : Int), (0 < i → w < i ∧ v = f w ∧ ∀ j, j < i → le (f j) v) → 0 < i + d → (pk.go bt f d i w v).1 < i + d ∧ (pk.go bt f d i w v).2 = f (pk.go bt f d i w v).1 ∧ ∀ j, j < i + d → le (f j) (pk.go bt f d i w v).2 := by
  intro d
  induction d with
  | zero => intro i w v h hi; exact h hi
  | succ d ih =>
    intro i w v h _
    rw [pk.go]
    rw [show i + (d + 1) = i + 1 + d from by omega]
    cases hb : ((i : Int) == 0) || bt (f i) v
    · rw [cond_false]
      simp only [Bool.or_eq_false_iff, beq_eq_false_iff_ne, ne_eq] at hb
      obtain ⟨a1, a2, a3⟩ := h (by omega)
      exact ih (i + 1) w v (fun _ => ⟨by omega, a2, fun j hj => by
        by_cases e : j = i
        · subst e; exact h2 _ _ hb.2
        · exact a3 j (by omega)⟩) (by omega)
    · rw [cond_true]
      refine ih (i + 1) i (f i) (fun _ => ⟨by omega, rfl, fun j hj => ?_⟩) (by omega)
      by_cases e : j = i
      · subst e; exact rf _
      · simp only [Bool.or_eq_true, beq_iff_eq] at hb
        rcases hb with hb | hb
        · omega
        · exact tr _ _ _ ((h (by omega)).2.2 j (by omega)) (h1 _ _ hb)
theorem lo_foldl : ∀ (l : List Int) (v : Int), (l.foldl lo.imin v = v ∨ l.foldl lo.imin v ∈ l) ∧ l.foldl lo.imin v ≤ v ∧ ∀ x ∈ l, l.foldl lo.imin v ≤ x := by
  intro l
  induction l with
  | nil => intro v; exact ⟨.inl rfl, Int.le_refl _, fun x hx => by cases hx⟩
  | cons y t ih =>
    intro v
    obtain ⟨h1, h2, h3⟩ := ih (lo.imin v y)
    rw [List.foldl_cons]
    have hm : (lo.imin v y = v ∨ lo.imin v y = y) ∧ lo.imin v y ≤ v ∧ lo.imin v y ≤ y := by
      unfold lo.imin
      split <;> omega
    refine ⟨?_, by omega, fun x hx => ?_⟩
    · rcases h1 with h1 | h1
      · rcases hm.1 with e | e
        · exact .inl (h1.trans e)
        · exact .inr (by rw [h1, e]; exact List.mem_cons_self)
      · exact .inr (List.mem_cons_of_mem _ h1)
    · rcases List.mem_cons.1 hx with rfl | hx
      · omega
      · exact h3 x hx
theorem lo_ok {l : List Int} (h : 0 < l.length) : lo.sv l ∈ l ∧ ∀ x ∈ l, lo.sv l ≤ x := by
  cases l with
  | nil => simp at h
  | cons y t =>
    obtain ⟨h1, h2, h3⟩ := lo_foldl t y
    have e : lo.sv (y :: t) = t.foldl lo.imin y := rfl
    rw [e]
    refine ⟨?_, fun x hx => ?_⟩
    · rcases h1 with h1 | h1
      · rw [h1]; exact List.mem_cons_self
      · exact List.mem_cons_of_mem _ h1
    · rcases List.mem_cons.1 hx with rfl | hx
      · exact h2
      · exact h3 x hx
theorem row_get {c i k : Nat} {xs : List Int} {r : Nat} (hx : xs.length = r * c) (hi : i < r) (hk : k < c) : k < ((xs.drop (i * c)).take c).length ∧ gz ((xs.drop (i * c)).take c) k = gz xs (i * c + k) := by
  have h := gm.ix_lt hi hk
  have hl : ((xs.drop (i * c)).take c).length = c := by
    have hm : (i + 1) * c ≤ r * c := Nat.mul_le_mul_right c hi
    rw [Nat.succ_mul] at hm
    rw [List.length_take, List.length_drop]; omega
  refine ⟨by omega, ?_⟩
  rw [gz_eq (by omega), gz_eq (by omega)]
  simp
theorem low_ok {r c : Nat} {xs : List Int} (hx : xs.length = r * c) (hc : 0 < c) {i : Nat} (hi : i < r) : (∃ k, k < c ∧ sr.f.sv c xs i = gz xs (i * c + k)) ∧ ∀ k, k < c → sr.f.sv c xs i ≤ gz xs (i * c + k) := by
  obtain ⟨h0, _⟩ := row_get hx hi hc
  obtain ⟨h1, h2⟩ := lo_ok (l := (xs.drop (i * c)).take c) (by omega)
  refine ⟨?_, fun k hk => ?_⟩
  · obtain ⟨k, hk, e⟩ := List.getElem_of_mem h1
    have hkc : k < c := by rw [List.length_take] at hk; omega
    refine ⟨k, hkc, ?_⟩
    rw [← (row_get hx hi hkc).2, gz_eq hk, e]
    rfl
  · obtain ⟨h3, h4⟩ := row_get hx hi hk
    rw [← h4]
    exact h2 _ (gz_mem h3)
theorem high_ok {r c : Nat} {xs : List Int} (hr : 0 < r) {k : Nat} : (∃ i, i < r ∧ sc.f.sv r c xs k = gz xs (i * c + k)) ∧ ∀ i, i < r → gz xs (i * c + k) ≤ sc.f.sv r c xs k := by
  obtain ⟨g1, ht⟩ := bs.to_ok c xs k hr
  have hp := br.sv_pos c xs k hr
  have : pu.h.sp (br.sv r c xs k) ((bs.to.sv r c xs k : Nat) : Int) = true := by
    simp only [pu.h.sp, List.any_eq_true, beq_iff_eq]
    exact ⟨_, gz_mem hp, g1⟩
  have h2 := (best_iff.1 this).2
  have e : sc.f.sv r c xs k = gz xs (bs.to.sv r c xs k * c + k) := rfl
  exact ⟨⟨_, ht, e⟩, fun i hi => by rw [e]; exact h2 i hi⟩
theorem sr_ok {r c : Nat} {xs : List Int} (hr : 0 < r) : ∃ i, i < r ∧ sr.m.sv r c xs = sr.f.sv c xs i ∧ ∀ j, j < r → sr.f.sv c xs j ≤ sr.m.sv r c xs := by
  have := pk_ok sr.gt (fun a b => a ≤ b) (fun a b c => Int.le_trans) Int.le_refl (fun a b h => Int.le_of_lt (by simpa [sr.gt] using h)) (fun a b h => by simpa [sr.gt] using h) (sr.f.sv c xs) r 0 0 0 (fun h => by omega) (by omega)
  rw [Nat.zero_add] at this
  exact ⟨_, this.1, this.2.1, this.2.2⟩
theorem sc_ok {r c : Nat} {xs : List Int} (hc : 0 < c) : ∃ k, k < c ∧ sc.m.sv r c xs = sc.f.sv r c xs k ∧ ∀ l, l < c → sc.m.sv r c xs ≤ sc.f.sv r c xs l := by
  have := pk_ok sr.lt (fun a b => b ≤ a) (fun a b c h1 h2 => Int.le_trans h2 h1) Int.le_refl (fun a b h => Int.le_of_lt (by simpa [sr.lt] using h)) (fun a b h => by simpa [sr.lt] using h) (sc.f.sv r c xs) c 0 0 0 (fun h => by omega) (by omega)
  rw [Nat.zero_add] at this
  exact ⟨_, this.1, this.2.1, this.2.2⟩
theorem neg_get {xs : List Int} (v : ∀ x ∈ xs, -1000 ≤ x ∧ x ≤ 1000) (p : Nat) : gz (r8.neg.sv xs) p = - gz xs p := by
  by_cases h : p < xs.length
  · have := v _ (List.getElem_mem h)
    rw [gz_eq (by rw [r8.neg.sv, List.length_map]; exact h), gz_eq h]
    simp only [r8.neg.sv, List.getElem_map]
    rw [IntWalk.i64_in _ (by omega)]
    omega
  · unfold gz
    rw [List.getD_eq_getElem?_getD, List.getElem?_eq_none (by rw [r8.neg.sv, List.length_map]; omega), List.getD_eq_getElem?_getD, List.getElem?_eq_none (by omega)]
    rfl
theorem zero {r c : Nat} {xs : List Int} (hr : 0 < r) (hc : 0 < c) (hx : xs.length = r * c) (v : ∀ x ∈ xs, -1000 ≤ x ∧ x ≤ 1000) :
    sr.m.sv r c xs ≤ sc.m.sv r c xs ∧ (0 < (pu.sv r c xs (r8.neg.sv xs)).length ↔ sr.m.sv r c xs = sc.m.sv r c xs) ∧ ∀ x ∈ pu.sv r c xs (r8.neg.sv xs), 0 ≤ x ∧ x < ((r * c : Nat) : Int) ∧ gz xs x.toNat = sr.m.sv r c xs := by
  obtain ⟨i0, hi0, e1, m1⟩ := sr_ok (r := r) (c := c) (xs := xs) hr
  obtain ⟨k1, hk1, e2, m2⟩ := sc_ok (r := r) (c := c) (xs := xs) hc
  obtain ⟨_, a1⟩ := low_ok hx hc hi0
  obtain ⟨_, a2⟩ := high_ok (c := c) (xs := xs) (k := k1) hr
  have h1 := a1 k1 hk1
  have h2 := a2 i0 hi0
  have saddle : ∀ i k, i < r → k < c → PE r c xs (r8.neg.sv xs) i k → gz xs (i * c + k) = sr.m.sv r c xs ∧ gz xs (i * c + k) = sc.m.sv r c xs := by
    intro i k hi hk ⟨p1, p2⟩
    obtain ⟨⟨l, hl, b1⟩, _⟩ := low_ok hx hc hi
    obtain ⟨⟨j, hj, b2⟩, _⟩ := high_ok (c := c) (xs := xs) (k := k) hr
    have q1 := p1 j hj
    have q2 := p2 l hl
    rw [neg_get v, neg_get v] at q2
    have q3 := m1 i hi
    have q4 := m2 k hk
    omega
  refine ⟨by omega, ⟨fun h => ?_, fun h => ?_⟩, fun x hx' => ?_⟩
  · obtain ⟨i, k, hi, hk, _, hp⟩ := pu_iff.1 (gz_mem h)
    have := saddle i k hi hk hp
    omega
  · have : Pc r c xs (r8.neg.sv xs) ((i0 * c + k1 : Nat) : Int) := by
      refine ⟨i0, k1, hi0, hk1, rfl, fun j hj => ?_, fun l hl => ?_⟩
      · have := a2 j hj; omega
      · have := a1 l hl
        rw [neg_get v, neg_get v]
        omega
    exact List.length_pos_of_mem (pu_iff.2 this)
  · obtain ⟨i, k, hi, hk, rfl, hp⟩ := pu_iff.1 hx'
    have := gm.ix_lt hi hk
    rw [Int.toNat_natCast]
    exact ⟨by omega, by omega, (saddle i k hi hk hp).1⟩
end an

end Go.Proofs.Ytgblgofmdhekiaa.Ab
