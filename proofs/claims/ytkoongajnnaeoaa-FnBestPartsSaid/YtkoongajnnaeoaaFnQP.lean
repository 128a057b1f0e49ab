/-
  Parts of things: turns and rounds of envy, in plain words.
-/
import Derived.Test.YtkoongajnnaeoaaFnQA
namespace Go.Proofs.Ytkoongajnnaeoaa.Ab
open Go
set_option linter.unusedVariables false
set_option linter.unusedSimpArgs false

namespace vp
theorem ps_set {t : Nat} {ws os : List Int} {i : Nat} {j x : Int} {k : Nat} (hk : k < os.length) (hn : gz os k ≠ j) : ∀ n, ps t ws (os.set k x) i j n = ps t ws os i j n + (if k < n ∧ x = j then w t ws i k else 0) := by
  intro n
  induction n with
  | zero => simp [ps]
  | succ n ih =>
    simp only [ps, ih, gz_set hk]
    by_cases e : k = n
    · subst e
      have e1 : (gz os k == j) = false := by simpa using hn
      rw [if_pos rfl, e1, if_neg (by omega)]
      by_cases h : x = j
      · have : (x == j) = true := by simp [h]
        rw [this, if_pos ⟨by omega, h⟩]; simp
      · have : (x == j) = false := by simpa using h
        rw [this, if_neg (fun hh => h hh.2)]; simp
    · rw [if_neg e]
      have : (k < n ∧ x = j) ↔ (k < n + 1 ∧ x = j) := by omega
      by_cases h : k < n ∧ x = j
      · rw [if_pos h, if_pos (this.1 h)]; omega
      · rw [if_neg h, if_neg (fun hh => h (this.2 hh))]; omega
theorem part_set {t : Nat} {ws os : List Int} {i : Nat} {j x : Int} {k : Nat} (hk : k < os.length) (hn : gz os k ≠ j) : part.sv t ws (os.set k x) i j = part.sv t ws os i j + (if x = j then w t ws i k else 0) := by
  unfold part.sv
  rw [List.length_set, ps_set hk hn]
  by_cases h : x = j
  · rw [if_pos h, if_pos ⟨hk, h⟩]
  · rw [if_neg h, if_neg (fun hh => h hh.2)]
theorem mx_ge {t : Nat} {ws os : List Int} {i : Nat} {j : Int} {k : Nat} (h : gz os k = j) : ∀ n, k < n → w t ws i k ≤ mx t ws os i j n := by
  intro n
  induction n with
  | zero => intro hk; omega
  | succ n ih =>
    intro hk
    simp only [mx]
    by_cases e : k = n
    · subst e
      have : (gz os k == j) = true := by simp [h]
      rw [this, cond_true]
      split <;> omega
    · have := ih (by omega)
      cases gz os n == j
      · exact this
      · rw [cond_true]; split <;> omega
theorem mx_le {t : Nat} {ws os os' : List Int} {i : Nat} {j j' : Int} {n : Nat} (h : ∀ k, k < n → gz os k = j → gz os' k = j') : mx t ws os i j n ≤ mx t ws os' i j' n := by
  induction n with
  | zero => simp [mx]
  | succ n ih0 =>
    have ih := ih0 fun k hk => h k (by omega)
    simp only [mx]
    cases hc : gz os n == j
    · rw [cond_false]
      cases gz os' n == j'
      · exact ih
      · rw [cond_true]; split <;> omega
    · have : (gz os' n == j') = true := by simpa using h n (by omega) (by simpa using hc)
      rw [this, cond_true, cond_true]
      split <;> split <;> omega
theorem part_iff {t : Nat} {ws os os' : List Int} {i : Nat} {j j' : Int} (hl : os.length = os'.length) (h : ∀ k, k < os.length → (gz os k = j ↔ gz os' k = j')) : part.sv t ws os i j = part.sv t ws os' i j' := by
  unfold part.sv
  rw [hl] at h ⊢
  generalize os'.length = n at h ⊢
  clear hl
  induction n with
  | zero => rfl
  | succ n ih =>
    simp only [ps, ih fun k hk => h k (by omega)]
    congr 2
    have := h n (by omega)
    cases hc : gz os n == j <;> cases hc' : gz os' n == j' <;> simp_all
/-- Nobody envies anybody but for a thing. -/
def EF (t : Nat) (ws os : List Int) (p : Nat) : Prop := ∀ i j, i < p → j < p → envy.sv t ws os i (j : Int) ≤ mx t ws os i (j : Int) os.length
theorem ef_of {t : Nat} {ws os : List Int} {p : Nat} (h : EF t ws os p) : ef.sp t ws os p = true := by
  have h2 : ∀ i, i < p → ∀ d j, j + d = p → efr t ws os i d j = true := by
    intro i hi d
    induction d with
    | zero => intro j hj; rfl
    | succ d ih =>
      intro j hj
      have := h i j hi (by omega)
      simp only [efr, ef1, Bool.and_eq_true, Bool.not_eq_true', decide_eq_false_iff_not]
      exact ⟨by omega, ih (j + 1) (by omega)⟩
  have h3 : ∀ d i, i + d = p → efa t ws os p d i = true := by
    intro d
    induction d with
    | zero => intro i hi; rfl
    | succ d ih =>
      intro i hi
      simp only [efa, Bool.and_eq_true]
      exact ⟨h2 i (by omega) p 0 (by omega), ih (i + 1) (by omega)⟩
  exact h3 p 0 (by omega)
theorem ef_to {t : Nat} {ws os : List Int} {p : Nat} (h : EF t ws os p → False) : ef.sp t ws os p = false := by
  cases hh : ef.sp t ws os p with
  | false => rfl
  | true =>
    exfalso; apply h
    have h3 : ∀ d i, efa t ws os p d i = true → ∀ k, i ≤ k → k < i + d → efr t ws os k p 0 = true := by
      intro d
      induction d with
      | zero => intro i _ k h1 h2; omega
      | succ d ih =>
        intro i hi k h1 h2
        simp only [efa, Bool.and_eq_true] at hi
        by_cases e : k = i
        · subst e; exact hi.1
        · exact ih (i + 1) hi.2 k (by omega) (by omega)
    have h2 : ∀ i d j, efr t ws os i d j = true → ∀ k, j ≤ k → k < j + d → ef1 t ws os i k = true := by
      intro i d
      induction d with
      | zero => intro j _ k h1 h2; omega
      | succ d ih =>
        intro j hj k h1 h2
        simp only [efr, Bool.and_eq_true] at hj
        by_cases e : k = j
        · subst e; exact hj.1
        · exact ih (j + 1) hj.2 k (by omega) (by omega)
    intro i j hi hj
    have := h2 i p 0 (h3 p 0 hh i (Nat.zero_le _) (by omega)) j (Nat.zero_le _) (by omega)
    simp only [ef1, Bool.not_eq_true', decide_eq_false_iff_not] at this
    omega
end vp
/-! ### Turns -/
namespace tt
def best (t : Nat) (ws out : List Int) (pl : Nat) : Nat → Int
  | 0 => -1
  | k + 1 => bif decide (gz out k < 0) && (decide (best t ws out pl k < 0) || decide (vp.w t ws pl (best t ws out pl k).toNat < vp.w t ws pl k)) then (k : Int) else best t ws out pl k
def pl (order : List Int) (s : Nat) : Int := gz order (s % order.length)
def go (t : Nat) (ws order : List Int) : Nat → List Int
  | 0 => List.replicate t (-1)
  | s + 1 => (go t ws order s).set (best t ws (go t ws order s) (pl order s).toNat t).toNat (pl order s)
def sv (t : Nat) (ws order : List Int) : List Int := go t ws order t
theorem go_length (t : Nat) (ws order : List Int) : ∀ s, (go t ws order s).length = t := by
  intro s
  induction s with
  | zero => simp [go]
  | succ s ih => simp only [go, List.length_set, ih]
theorem best_ok (t : Nat) (ws out : List Int) (pl : Nat) : ∀ n, (best t ws out pl n = -1 ∧ ∀ k, k < n → 0 ≤ gz out k) ∨ ∃ b : Nat, best t ws out pl n = b ∧ b < n ∧ gz out b < 0 ∧ ∀ k, k < n → gz out k < 0 → vp.w t ws pl k ≤ vp.w t ws pl b := by
  intro n
  induction n with
  | zero => exact .inl ⟨rfl, fun k hk => by omega⟩
  | succ n ih =>
    simp only [best]
    by_cases h1 : gz out n < 0
    · rw [decide_eq_true h1, Bool.true_and]
      rcases ih with ⟨e, h2⟩ | ⟨b, e, hb, h2, h3⟩
      · rw [e]
        refine .inr ⟨n, by simp, by omega, h1, fun k hk hk2 => ?_⟩
        by_cases ek : k = n
        · subst ek; exact Int.le_refl _
        · have := h2 k (by omega); omega
      · rw [e, Int.toNat_natCast]
        have e2 : decide (((b : Nat) : Int) < 0) = false := decide_eq_false (by omega)
        rw [e2, Bool.false_or]
        by_cases h4 : vp.w t ws pl b < vp.w t ws pl n
        · rw [decide_eq_true h4, cond_true]
          refine .inr ⟨n, rfl, by omega, h1, fun k hk hk2 => ?_⟩
          by_cases ek : k = n
          · subst ek; exact Int.le_refl _
          · have := h3 k (by omega) hk2; omega
        · rw [decide_eq_false h4, cond_false]
          refine .inr ⟨b, rfl, by omega, h2, fun k hk hk2 => ?_⟩
          by_cases ek : k = n
          · subst ek; omega
          · exact h3 k (by omega) hk2
    · rw [decide_eq_false h1, Bool.false_and, cond_false]
      rcases ih with ⟨e, h2⟩ | ⟨b, e, hb, h2, h3⟩
      · exact .inl ⟨e, fun k hk => by
          by_cases ek : k = n
          · subst ek; omega
          · exact h2 k (by omega)⟩
      · exact .inr ⟨b, e, by omega, h2, fun k hk hk2 => by
          by_cases ek : k = n
          · subst ek; omega
          · exact h3 k (by omega) hk2⟩
/-- How many are not given yet. -/
def cn (out : List Int) : Nat → Nat
  | 0 => 0
  | k + 1 => cn out k + (if gz out k < 0 then 1 else 0)
theorem cn_set {out : List Int} {b : Nat} {x : Int} (hb : b < out.length) (h : gz out b < 0) (hx : 0 ≤ x) : ∀ n, cn (out.set b x) n + (if b < n then 1 else 0) = cn out n := by
  intro n
  induction n with
  | zero => simp [cn]
  | succ n ih =>
    simp only [cn, gz_set hb]
    by_cases e : b = n
    · subst e
      rw [if_pos rfl, if_neg (by omega), if_pos (by omega), if_pos h]
      rw [if_neg (by omega)] at ih
      omega
    · rw [if_neg e]
      by_cases h2 : b < n
      · rw [if_pos h2] at ih; rw [show (if b < n + 1 then 1 else 0 : Nat) = 1 from if_pos (by omega)]; omega
      · rw [if_neg h2] at ih; rw [show (if b < n + 1 then 1 else 0 : Nat) = 0 from if_neg (by omega)]; omega
theorem cn_zero {out : List Int} : ∀ n, (∀ k, k < n → 0 ≤ gz out k) → cn out n = 0 := by
  intro n
  induction n with
  | zero => intro _; rfl
  | succ n ih => intro h; simp only [cn, ih fun k hk => h k (by omega)]; rw [if_neg (by have := h n (by omega); omega)]
theorem cn_all {t : Nat} : ∀ n, n ≤ t → cn (List.replicate t (-1)) n = n := by
  intro n
  induction n with
  | zero => intro _; rfl
  | succ n ih =>
    intro h
    have : gz (List.replicate t (-1)) n = -1 := by rw [gz_eq (by rw [List.length_replicate]; omega)]; simp
    simp only [cn, ih (by omega), this]; rfl
theorem pl_in {order : List Int} {p : Nat} (h0 : 0 < order.length) (ho : ∀ x ∈ order, 0 ≤ x ∧ x < (p : Int)) (s : Nat) : 0 ≤ pl order s ∧ pl order s < (p : Int) := ho _ (gz_mem (Nat.mod_lt _ h0))
theorem cn_go {t : Nat} {ws order : List Int} {p : Nat} (h0 : 0 < order.length) (ho : ∀ x ∈ order, 0 ≤ x ∧ x < (p : Int)) : ∀ s, s ≤ t → cn (go t ws order s) t + s = t := by
  intro s
  induction s with
  | zero => intro _; simp only [go]; rw [cn_all t (Nat.le_refl _)]; rfl
  | succ s ih =>
    intro hs
    have h := ih (by omega)
    have hl := go_length t ws order s
    simp only [go]
    rcases best_ok t ws (go t ws order s) (pl order s).toNat t with ⟨e, h2⟩ | ⟨b, e, hb, h2, h3⟩
    · have := cn_zero t h2; omega
    · rw [e, Int.toNat_natCast]
      have := cn_set (out := go t ws order s) (b := b) (x := pl order s) (by omega) h2 (pl_in h0 ho s).1 t
      rw [if_pos hb] at this
      omega
theorem cn_none {out : List Int} : ∀ n, cn out n = 0 → ∀ k, k < n → 0 ≤ gz out k := by
  intro n
  induction n with
  | zero => intro _ k hk; omega
  | succ n ih =>
    intro h k hk
    simp only [cn] at h
    by_cases e : k = n
    · subst e
      by_cases c : gz out k < 0
      · rw [if_pos c] at h; omega
      · omega
    · exact ih (by omega) k (by omega)
theorem go_ran {t : Nat} {ws order : List Int} {p : Nat} (h0 : 0 < order.length) (ho : ∀ x ∈ order, 0 ≤ x ∧ x < (p : Int)) : ∀ s, ∀ x ∈ go t ws order s, x < (p : Int) := by
  intro s
  induction s with
  | zero => intro x hx; have := List.eq_of_mem_replicate hx; omega
  | succ s ih =>
    intro x hx
    simp only [go] at hx
    rcases List.mem_or_eq_of_mem_set hx with hx | rfl
    · exact ih x hx
    · exact (pl_in h0 ho s).2
/-- All is given. -/
theorem sv_ran {t : Nat} {ws order : List Int} {p : Nat} (h0 : 0 < order.length) (ho : ∀ x ∈ order, 0 ≤ x ∧ x < (p : Int)) : ∀ x ∈ sv t ws order, 0 ≤ x ∧ x < (p : Int) := by
  intro x hx
  refine ⟨?_, go_ran h0 ho t x hx⟩
  have h := cn_go (t := t) (ws := ws) h0 ho t (Nat.le_refl _)
  obtain ⟨k, hk, rfl⟩ := List.getElem_of_mem hx
  have hl := go_length t ws order t
  rw [← gz_eq hk]
  unfold sv at hk ⊢
  exact cn_none t (by omega) k (by omega)
/-- In each turn something is left. -/
theorem next {t : Nat} {ws order : List Int} {p : Nat} (h0 : 0 < order.length) (ho : ∀ x ∈ order, 0 ≤ x ∧ x < (p : Int)) {s : Nat} (hs : s < t) : ∃ b : Nat, best t ws (go t ws order s) (pl order s).toNat t = b ∧ b < t ∧ gz (go t ws order s) b < 0 ∧ ∀ k, k < t → gz (go t ws order s) k < 0 → vp.w t ws (pl order s).toNat k ≤ vp.w t ws (pl order s).toNat b := by
  rcases best_ok t ws (go t ws order s) (pl order s).toNat t with ⟨e, h2⟩ | h
  · have := cn_zero t h2
    have := cn_go (t := t) (ws := ws) h0 ho s (by omega)
    omega
  · exact h
/-- What is kept about two players in turn. -/
def A (t : Nat) (ws out : List Int) (i j : Nat) : Prop := ∃ M, M ≤ vp.mx t ws out i (j : Int) out.length ∧ vp.envy.sv t ws out i (j : Int) ≤ M
def B (t : Nat) (ws out : List Int) (i j : Nat) : Prop := ∃ M L, M ≤ vp.mx t ws out i (j : Int) out.length ∧ 0 ≤ L ∧ vp.envy.sv t ws out i (j : Int) + L ≤ M ∧ ∀ k, k < t → gz out k < 0 → vp.w t ws i k ≤ L
theorem envy_set {t : Nat} {ws out : List Int} {b x i j : Nat} (hb : b < out.length) (h : gz out b < 0) : vp.envy.sv t ws (out.set b (x : Int)) i (j : Int) = vp.envy.sv t ws out i (j : Int) + (if x = j then vp.w t ws i b else 0) - (if x = i then vp.w t ws i b else 0) := by
  unfold vp.envy.sv
  rw [vp.part_set hb (by omega), vp.part_set hb (by omega)]
  have e1 : ((x : Int) = (j : Int)) ↔ x = j := by omega
  have e2 : ((x : Int) = (i : Int)) ↔ x = i := by omega
  simp only [e1, e2]
  omega
theorem mx_set_le {t : Nat} {ws out : List Int} {b x i j : Nat} (hb : b < out.length) (h : gz out b < 0) : vp.mx t ws out i (j : Int) out.length ≤ vp.mx t ws (out.set b (x : Int)) i (j : Int) (out.set b (x : Int)).length := by
  rw [List.length_set]
  refine vp.mx_le fun k _ hk => ?_
  rw [gz_set hb]
  by_cases e : b = k
  · subst e; omega
  · rw [if_neg e]; exact hk
theorem left_set {out : List Int} {b x k : Nat} (hb : b < out.length) (hk : gz (out.set b (x : Int)) k < 0) : gz out k < 0 := by
  rw [gz_set hb] at hk
  by_cases e : b = k
  · rw [if_pos e] at hk; omega
  · rwa [if_neg e] at hk
/-- Turns in an order of all players. -/
structure Ord (order : List Int) (p : Nat) (pos : Nat → Nat) : Prop where
  len : order.length = p
  lt : ∀ i, i < p → pos i < p
  get : ∀ i, i < p → gz order (pos i) = (i : Int)
  inj : ∀ s, s < p → ∀ i, i < p → gz order s = (i : Int) → s = pos i
  ran : ∀ x ∈ order, 0 ≤ x ∧ x < (p : Int)
def Inv (t : Nat) (ws out : List Int) (pos : Nat → Nat) (q s i j : Nat) : Prop :=
  if pos i < pos j then (if pos i < s ∧ s ≤ pos j then B t ws out i j else A t ws out i j)
  else if q = 0 ∧ s ≤ pos j then vp.envy.sv t ws out i (j : Int) ≤ 0
  else if pos j < s ∧ s ≤ pos i then A t ws out i j else B t ws out i j
theorem A_of {t : Nat} {ws out : List Int} {i j : Nat} (v : ∀ x ∈ ws, 0 ≤ x ∧ x ≤ 1000) (h : vp.envy.sv t ws out i (j : Int) ≤ 0) : A t ws out i j := ⟨0, (vp.mx_in v t out i j _).1, h⟩
theorem step {t : Nat} {ws order : List Int} {p : Nat} {pos : Nat → Nat} (O : Ord order p pos) (h0 : 0 < p) (v : ∀ x ∈ ws, 0 ≤ x ∧ x ≤ 1000) {q s : Nat} (hs : s < p) {n : Nat} (hn : n = q * p + s) (hnt : n < t) {i j : Nat} (hi : i < p) (hj : j < p) (hij : i ≠ j) (I : Inv t ws (go t ws order n) pos q s i j) :
    Inv t ws (go t ws order (n + 1)) pos (if s + 1 = p then q + 1 else q) (if s + 1 = p then 0 else s + 1) i j := by
  have hol : 0 < order.length := by rw [O.len]; exact h0
  obtain ⟨b, e, hb, hneg, hbest⟩ := next (t := t) (ws := ws) hol O.ran hnt
  have hl := go_length t ws order n
  have hmod : n % p = s := by rw [hn, Nat.mul_comm, Nat.mul_add_mod, Nat.mod_eq_of_lt hs]
  have hpl : pl order n = gz order s := by unfold pl; rw [O.len, hmod]
  obtain ⟨x, hx⟩ : ∃ x : Nat, gz order s = x := by
    have := O.ran _ (gz_mem (l := order) (j := s) (by rw [O.len]; exact hs))
    exact ⟨(gz order s).toNat, by omega⟩
  have hxp : x < p := by
    have := O.ran _ (gz_mem (l := order) (j := s) (by rw [O.len]; exact hs))
    omega
  have hsx := O.inj s hs x hxp hx
  have hgo : go t ws order (n + 1) = (go t ws order n).set b (x : Int) := by
    simp only [go]
    rw [e, hpl, hx, Int.toNat_natCast]
  rw [hpl, hx, Int.toNat_natCast] at hbest
  have npos : pos i ≠ pos j := fun h => hij (by
    have h1 := O.get i hi
    have h2 := O.get j hj
    rw [h] at h1
    omega)
  rw [hgo]
  generalize go t ws order n = out at I hneg hbest hl
  have hbl : b < out.length := by omega
  have E := envy_set (t := t) (ws := ws) (x := x) (i := i) (j := j) hbl hneg
  have M := mx_set_le (t := t) (ws := ws) (x := x) (i := i) (j := j) hbl hneg
  have lA : x ≠ i → x ≠ j → A t ws out i j → A t ws (out.set b (x : Int)) i j := fun h1 h2 ⟨m, a1, a2⟩ => ⟨m, by omega, by rw [E, if_neg h2, if_neg h1]; omega⟩
  have lB : x ≠ i → x ≠ j → B t ws out i j → B t ws (out.set b (x : Int)) i j := fun h1 h2 ⟨m, l, a1, a2, a3, a4⟩ => ⟨m, l, by omega, a2, by rw [E, if_neg h2, if_neg h1]; omega, fun k hk hk2 => a4 k hk (left_set hbl hk2)⟩
  have wi : x = i → A t ws out i j → B t ws (out.set b (x : Int)) i j := fun h1 ⟨m, a1, a2⟩ => by
    subst h1
    have wb := vp.w_in v t x b
    refine ⟨m, vp.w t ws x b, by omega, wb.1, ?_, fun k hk hk2 => hbest k hk (left_set hbl hk2)⟩
    rw [E, if_pos rfl, if_neg hij]; omega
  have wj : x = j → B t ws out i j → A t ws (out.set b (x : Int)) i j := fun h1 ⟨m, l, a1, a2, a3, a4⟩ => by
    subst h1
    have := a4 b hb hneg
    exact ⟨m, by omega, by rw [E, if_pos rfl, if_neg (Ne.symm hij)]; omega⟩
  have w0 : x = j → vp.envy.sv t ws out i (j : Int) ≤ 0 → A t ws (out.set b (x : Int)) i j := fun h1 h2 => by
    subst h1
    refine ⟨vp.w t ws i b, ?_, by rw [E, if_pos rfl, if_neg (Ne.symm hij)]; omega⟩
    rw [List.length_set]
    exact vp.mx_ge (by rw [gz_set hbl, if_pos rfl]) _ hbl
  have l0 : x ≠ i → x ≠ j → vp.envy.sv t ws out i (j : Int) ≤ 0 → vp.envy.sv t ws (out.set b (x : Int)) i (j : Int) ≤ 0 := fun h1 h2 h3 => by rw [E, if_neg h2, if_neg h1]; omega
  have li := O.lt i hi
  have lj := O.lt j hj
  have xi : x = i ↔ s = pos i := ⟨fun h => by rw [hsx, h], fun h => by
    have := O.get i hi; rw [← h, hx] at this; omega⟩
  have xj : x = j ↔ s = pos j := ⟨fun h => by rw [hsx, h], fun h => by
    have := O.get j hj; rw [← h, hx] at this; omega⟩
  unfold Inv at I ⊢
  by_cases c : pos i < pos j
  · rw [if_pos c] at I ⊢
    by_cases e1 : s = pos i
    · rw [if_neg (by omega)] at I
      rw [if_neg (show ¬ s + 1 = p by omega), if_pos (by omega)]
      exact wi (xi.2 e1) I
    · have n1 : x ≠ i := fun h => e1 (xi.1 h)
      by_cases e2 : s = pos j
      · rw [if_pos (by omega)] at I
        have g := wj (xj.2 e2) I
        by_cases z : s + 1 = p
        · rw [if_pos z, if_neg (by omega)]; exact g
        · rw [if_neg z, if_neg (by omega)]; exact g
      · have n2 : x ≠ j := fun h => e2 (xj.1 h)
        by_cases z : s + 1 = p
        · rw [if_neg (by omega)] at I
          rw [if_pos z, if_neg (by omega)]
          exact lA n1 n2 I
        · rw [if_neg z]
          by_cases d : pos i < s ∧ s ≤ pos j
          · rw [if_pos d] at I; rw [if_pos (by omega)]; exact lB n1 n2 I
          · rw [if_neg d] at I; rw [if_neg (by omega)]; exact lA n1 n2 I
  · rw [if_neg c] at I ⊢
    by_cases e1 : s = pos i
    · rw [if_neg (by omega), if_pos (by omega)] at I
      have g := wi (xi.2 e1) I
      by_cases z : s + 1 = p
      · rw [if_pos z, if_pos z, if_neg (by omega), if_neg (by omega)]; exact g
      · rw [if_neg z, if_neg z, if_neg (by omega), if_neg (by omega)]; exact g
    · have n1 : x ≠ i := fun h => e1 (xi.1 h)
      by_cases e2 : s = pos j
      · have z : ¬ s + 1 = p := by omega
        rw [if_neg z, if_neg z, if_neg (by omega), if_pos (by omega)]
        by_cases d : q = 0 ∧ s ≤ pos j
        · rw [if_pos d] at I; exact w0 (xj.2 e2) I
        · rw [if_neg d, if_neg (by omega)] at I; exact wj (xj.2 e2) I
      · have n2 : x ≠ j := fun h => e2 (xj.1 h)
        by_cases z : s + 1 = p
        · rw [if_pos z, if_pos z, if_neg (by omega), if_neg (by omega)]
          rw [if_neg (by omega), if_neg (by omega)] at I
          exact lB n1 n2 I
        · rw [if_neg z, if_neg z]
          by_cases d : q = 0 ∧ s ≤ pos j
          · rw [if_pos d] at I; rw [if_pos (by omega)]; exact l0 n1 n2 I
          · rw [if_neg d] at I; rw [if_neg (by omega)]
            by_cases d2 : pos j < s ∧ s ≤ pos i
            · rw [if_pos d2] at I; rw [if_pos (by omega)]; exact lA n1 n2 I
            · rw [if_neg d2] at I; rw [if_neg (by omega)]; exact lB n1 n2 I
theorem part_none {t : Nat} {ws : List Int} {n i j : Nat} : vp.part.sv t ws (List.replicate n (-1)) i (j : Int) = 0 := by
  unfold vp.part.sv
  generalize hm : (List.replicate n (-1 : Int)).length = m
  have hle : m ≤ n := by rw [← hm]; simp
  clear hm
  induction m with
  | zero => rfl
  | succ m ih =>
    have : gz (List.replicate n (-1)) m = -1 := by rw [gz_eq (by rw [List.length_replicate]; omega)]; simp
    have e : ((-1 : Int) == (j : Int)) = false := by simp
    simp only [vp.ps, ih (by omega), this, e]; rfl
/-- Turns leave nobody envious but for a thing. -/
theorem free {t : Nat} {ws order : List Int} {p : Nat} {pos : Nat → Nat} (O : Ord order p pos) (h0 : 0 < p) (v : ∀ x ∈ ws, 0 ≤ x ∧ x ≤ 1000) : vp.EF t ws (sv t ws order) p := by
  intro i j hi hj
  by_cases hij : i = j
  · subst hij
    unfold vp.envy.sv
    rw [Int.sub_self]
    exact (vp.mx_in v t _ i i _).1
  have key : ∀ n, n ≤ t → ∃ q s, n = q * p + s ∧ s < p ∧ Inv t ws (go t ws order n) pos q s i j := by
    intro n
    induction n with
    | zero =>
      intro _
      refine ⟨0, 0, by omega, h0, ?_⟩
      have e : vp.envy.sv t ws (go t ws order 0) i (j : Int) = 0 := by
        unfold vp.envy.sv
        simp only [go]
        rw [part_none, part_none]; rfl
      unfold Inv
      by_cases c : pos i < pos j
      · rw [if_pos c, if_neg (by omega)]; exact A_of v (by omega)
      · rw [if_neg c, if_pos ⟨rfl, Nat.zero_le _⟩]; omega
    | succ n ih =>
      intro hn
      obtain ⟨q, s, e, hs, I⟩ := ih (by omega)
      have g := step O h0 v hs e (by omega) hi hj hij I
      by_cases z : s + 1 = p
      · rw [if_pos z, if_pos z] at g
        exact ⟨q + 1, 0, by rw [Nat.succ_mul]; omega, h0, g⟩
      · rw [if_neg z, if_neg z] at g
        exact ⟨q, s + 1, by omega, by omega, g⟩
  obtain ⟨q, s, _, _, I⟩ := key t (Nat.le_refl _)
  have fromB : B t ws (go t ws order t) i j → vp.envy.sv t ws (sv t ws order) i (j : Int) ≤ vp.mx t ws (sv t ws order) i (j : Int) (sv t ws order).length := fun ⟨m, l, a1, a2, a3, a4⟩ => by unfold sv; omega
  have fromA : A t ws (go t ws order t) i j → vp.envy.sv t ws (sv t ws order) i (j : Int) ≤ vp.mx t ws (sv t ws order) i (j : Int) (sv t ws order).length := fun ⟨m, a1, a2⟩ => by unfold sv; omega
  unfold Inv at I
  split at I
  · split at I
    · exact fromB I
    · exact fromA I
  · split at I
    · have := (vp.mx_in v t (sv t ws order) i j (sv t ws order).length).1
      unfold sv at this ⊢
      omega
    · split at I
      · exact fromA I
      · exact fromB I
end tt

/-! ### Rounds of envy -/
namespace er
def ei.go (t : Nat) (ws os : List Int) (j : Int) : Nat → Nat → Int
  | 0, _ => -1
  | d + 1, i => bif decide (0 < vp.envy.sv t ws os i j) then (i : Int) else ei.go t ws os j d (i + 1)
/-- The first one who envies. -/
def ei.sv (t : Nat) (ws os : List Int) (p : Nat) (j : Int) : Int := ei.go t ws os j p 0
theorem ei_ok (t : Nat) (ws os : List Int) (j : Int) : ∀ d i, (ei.go t ws os j d i = -1 ∧ ∀ k, i ≤ k → k < i + d → vp.envy.sv t ws os k j ≤ 0) ∨ ∃ k : Nat, ei.go t ws os j d i = k ∧ i ≤ k ∧ k < i + d ∧ 0 < vp.envy.sv t ws os k j := by
  intro d
  induction d with
  | zero => intro i; exact .inl ⟨rfl, fun k h1 h2 => by omega⟩
  | succ d ih =>
    intro i
    simp only [ei.go]
    by_cases h : 0 < vp.envy.sv t ws os i j
    · rw [decide_eq_true h, cond_true]; exact .inr ⟨i, rfl, Nat.le_refl _, by omega, h⟩
    · rw [decide_eq_false h, cond_false]
      rcases ih (i + 1) with ⟨e, h2⟩ | ⟨k, e, h1, h2, h3⟩
      · refine .inl ⟨e, fun k h1 h3 => ?_⟩
        by_cases ek : k = i
        · subst ek; omega
        · exact h2 k (by omega) (by omega)
      · exact .inr ⟨k, e, by omega, by omega, h3⟩
/-- The way from one to who envies. -/
def path (t : Nat) (ws os : List Int) (p : Nat) : Nat → List Int → List Int × Nat
  | 0, l => (l, 0)
  | m + 1, l => bif decide (fidx.sq (fun y => ei.sv t ws os p (gz l (l.length - 1)) == y) l 0 < 0) then path t ws os p m (l ++ [ei.sv t ws os p (gz l (l.length - 1))]) else (l, (fidx.sq (fun y => ei.sv t ws os p (gz l (l.length - 1)) == y) l 0).toNat)
def ring (t : Nat) (ws os : List Int) (p : Nat) : List Int := (path t ws os p 10 [0]).1.drop (path t ws os p 10 [0]).2
/-- Where parts go. -/
def tk (p : Nat) (r : List Int) : Nat → List Int
  | 0 => cq.sv p
  | k + 1 => (tk p r k).set (gz r ((k + r.length - 1) % r.length)).toNat (gz r k)
def to (p : Nat) (r : List Int) : List Int := tk p r r.length
def oz (to os : List Int) : Nat → List Int
  | 0 => os
  | k + 1 => bif decide (0 ≤ gz os k) then (oz to os k).set k (gz to (gz os k).toNat) else oz to os k
def mv.sv (t : Nat) (ws os : List Int) (p : Nat) : List Int := oz (to p (ring t ws os p)) os os.length
/-- Everybody is envied. -/
def all.sp (t : Nat) (ws os : List Int) (p : Nat) : Bool := (List.range p).all fun j => decide (0 ≤ ei.sv t ws os p (j : Int))
theorem fidx_ok (x : Int) : ∀ (l : List Int) (i : Nat), (fidx.sq (fun y => x == y) l i = -1 ∧ x ∉ l) ∨ ∃ k : Nat, fidx.sq (fun y => x == y) l i = ((i + k : Nat) : Int) ∧ k < l.length ∧ gz l k = x := by
  intro l
  induction l with
  | nil => intro i; exact .inl ⟨rfl, by simp⟩
  | cons y r ih =>
    intro i
    simp only [fidx.sq]
    by_cases e : x = y
    · have : (x == y) = true := by simp [e]
      rw [this, cond_true]
      exact .inr ⟨0, rfl, by simp, by simp [gz, e]⟩
    · have : (x == y) = false := by simpa using e
      rw [this, cond_false]
      rcases ih (i + 1) with ⟨h1, h2⟩ | ⟨k, h1, h2, h3⟩
      · exact .inl ⟨h1, by simp [e, h2]⟩
      · refine .inr ⟨k + 1, by rw [h1]; congr 1; omega, by simp; omega, ?_⟩
        rw [← h3]; simp [gz]
/-- Numbers below N, each once, are N at the most. -/
theorem pigeon : ∀ (N : Nat) (l : List Int), l.Nodup → (∀ y ∈ l, 0 ≤ y ∧ y < (N : Int)) → l.length ≤ N := by
  intro N
  induction N with
  | zero =>
    intro l _ h
    cases l with
    | nil => simp
    | cons y t => have := h y List.mem_cons_self; omega
  | succ N ih =>
    intro l hd h
    by_cases hm : (N : Int) ∈ l
    · have h1 := ih (l.erase (N : Int)) (hd.erase _) (fun y hy => by
        have hy' := (List.Nodup.mem_erase_iff hd).1 hy
        have := h y hy'.2
        have hne := hy'.1
        omega)
      have h2 := List.length_erase_of_mem hm
      omega
    · have h1 := ih l hd (fun y hy => by
        have := h y hy
        have hne : y ≠ (N : Int) := fun e => hm (e ▸ hy)
        omega)
      omega
/-- A ring: each one envies the one before. -/
structure Ring (t : Nat) (ws os : List Int) (p : Nat) (r : List Int) : Prop where
  len : 0 < r.length
  nd : r.Nodup
  ran : ∀ x ∈ r, 0 ≤ x ∧ x < (p : Int)
  env : ∀ k, k < r.length → 0 < vp.envy.sv t ws os (gz r k).toNat (gz r ((k + r.length - 1) % r.length))
structure Way (t : Nat) (ws os : List Int) (p : Nat) (l : List Int) : Prop where
  len : 0 < l.length
  nd : l.Nodup
  ran : ∀ x ∈ l, 0 ≤ x ∧ x < (p : Int)
  env : ∀ k, k + 1 < l.length → gz l (k + 1) = ei.sv t ws os p (gz l k)
theorem all_ok {t : Nat} {ws os : List Int} {p : Nat} (h : all.sp t ws os p = true) {x : Int} (hx : 0 ≤ x ∧ x < (p : Int)) : ∃ k : Nat, ei.sv t ws os p x = k ∧ k < p ∧ 0 < vp.envy.sv t ws os k x := by
  have h1 := List.all_eq_true.1 h x.toNat (List.mem_range.2 (by omega))
  have e : ((x.toNat : Nat) : Int) = x := by omega
  rw [e] at h1
  simp only [decide_eq_true_eq] at h1
  rcases ei_ok t ws os x p 0 with ⟨e2, _⟩ | ⟨k, e2, _, h3, h4⟩
  · unfold ei.sv at h1; omega
  · exact ⟨k, e2, by omega, h4⟩
theorem way_next {t : Nat} {ws os : List Int} {p : Nat} (ha : all.sp t ws os p = true) {l : List Int} (W : Way t ws os p l) (hn : ei.sv t ws os p (gz l (l.length - 1)) ∉ l) : Way t ws os p (l ++ [ei.sv t ws os p (gz l (l.length - 1))]) := by
  have h0 := W.len
  obtain ⟨k, e, hk, _⟩ := all_ok ha (W.ran _ (gz_mem (l := l) (j := l.length - 1) (by omega)))
  refine ⟨by rw [List.length_append]; omega, ?_, fun x hx => ?_, fun j hj => ?_⟩
  · rw [List.nodup_append]
    refine ⟨W.nd, by simp, fun a ha b hb => ?_⟩
    simp only [List.mem_singleton] at hb
    subst hb
    exact fun e => hn (e ▸ ha)
  · rcases List.mem_append.1 hx with hx | hx
    · exact W.ran x hx
    · simp only [List.mem_singleton] at hx; rw [hx, e]; omega
  · rw [List.length_append, List.length_singleton] at hj
    by_cases c : j + 1 = l.length
    · rw [c, gz_last, gz_left (by omega), show j = l.length - 1 from by omega]
    · rw [gz_left (by omega), gz_left (by omega)]
      exact W.env j (by omega)
theorem path_ok {t : Nat} {ws os : List Int} {p : Nat} (ha : all.sp t ws os p = true) : ∀ (m : Nat) (l : List Int), Way t ws os p l → p < l.length + m →
    Way t ws os p (path t ws os p m l).1 ∧ (path t ws os p m l).2 < (path t ws os p m l).1.length ∧ gz (path t ws os p m l).1 (path t ws os p m l).2 = ei.sv t ws os p (gz (path t ws os p m l).1 ((path t ws os p m l).1.length - 1)) := by
  intro m
  induction m with
  | zero => intro l W h; have := pigeon p l W.nd W.ran; omega
  | succ m ih =>
    intro l W h
    simp only [path]
    rcases fidx_ok (ei.sv t ws os p (gz l (l.length - 1))) l 0 with ⟨e, hn⟩ | ⟨k, e, hk, hg⟩
    · rw [e, decide_eq_true (by decide), cond_true]
      exact ih _ (way_next ha W hn) (by rw [List.length_append, List.length_singleton]; omega)
    · rw [e, decide_eq_false (by omega), cond_false]
      simp only [Nat.zero_add, Int.toNat_natCast]
      exact ⟨W, hk, hg⟩
theorem gz_drop (l : List Int) (a k : Nat) : gz (l.drop a) k = gz l (a + k) := by
  unfold gz
  rw [List.getD_eq_getElem?_getD, List.getD_eq_getElem?_getD, List.getElem?_drop]
theorem ring_ok {t : Nat} {ws os : List Int} {p : Nat} (h0 : 0 < p) (hp : p ≤ 6) (ha : all.sp t ws os p = true) : Ring t ws os p (ring t ws os p) := by
  obtain ⟨W, h1, h2⟩ := path_ok ha 10 [0] ⟨by simp, by simp, fun x hx => by simp only [List.mem_singleton] at hx; omega, fun k hk => by simp at hk⟩ (by simp; omega)
  unfold ring
  generalize (path t ws os p 10 [0]).1 = l at W h1 h2 ⊢
  generalize (path t ws os p 10 [0]).2 = a at h1 h2 ⊢
  have hl : (l.drop a).length = l.length - a := List.length_drop
  refine ⟨by omega, W.nd.sublist (List.drop_sublist _ _), fun x hx => W.ran x (List.mem_of_mem_drop hx), fun k hk => ?_⟩
  have look : ∀ y, 0 ≤ y ∧ y < (p : Int) → 0 < vp.envy.sv t ws os (ei.sv t ws os p y).toNat y := fun y hy => by
    obtain ⟨q, e, _, h⟩ := all_ok ha hy
    rw [e, Int.toNat_natCast]; exact h
  rw [gz_drop, gz_drop, hl]
  by_cases c : k = 0
  · subst c
    rw [show (0 + (l.length - a) - 1) % (l.length - a) = l.length - a - 1 from by rw [Nat.zero_add]; exact Nat.mod_eq_of_lt (by omega), show a + (l.length - a - 1) = l.length - 1 from by omega, Nat.add_zero, h2]
    exact look _ (W.ran _ (gz_mem (by omega)))
  · rw [show (k + (l.length - a) - 1) % (l.length - a) = k - 1 from by
      rw [show k + (l.length - a) - 1 = (k - 1) + (l.length - a) from by omega, Nat.add_mod_right]; exact Nat.mod_eq_of_lt (by omega)]
    have := W.env (a + (k - 1)) (by omega)
    rw [show a + (k - 1) + 1 = a + k from by omega] at this
    rw [this]
    exact look _ (W.ran _ (gz_mem (by omega)))
theorem tk_length (p : Nat) (r : List Int) : ∀ k, (tk p r k).length = p := by
  intro k
  induction k with
  | zero => simp [tk, cq.sv]
  | succ k ih => simp only [tk, List.length_set, ih]
theorem nd_inj {l : List Int} (h : l.Nodup) {a b : Nat} (ha : a < l.length) (hb : b < l.length) (e : gz l a = gz l b) : a = b := by
  rw [gz_eq ha, gz_eq hb] at e
  exact (List.getElem_inj h).1 e
theorem prev_lt {k n : Nat} (h : 0 < n) : (k + n - 1) % n < n := Nat.mod_lt _ h
theorem prev_inj {a b n : Nat} (ha : a < n) (hb : b < n) (e : (a + n - 1) % n = (b + n - 1) % n) : a = b := by
  have f : ∀ k, k < n → (k + n - 1) % n = if k = 0 then n - 1 else k - 1 := fun k hk => by
    by_cases c : k = 0
    · subst c; rw [if_pos rfl, Nat.zero_add]; exact Nat.mod_eq_of_lt (by omega)
    · rw [if_neg c, show k + n - 1 = (k - 1) + n from by omega, Nat.add_mod_right]; exact Nat.mod_eq_of_lt (by omega)
  rw [f a ha, f b hb] at e
  by_cases c : a = 0 <;> by_cases d : b = 0 <;> simp [c, d] at e <;> omega
/-- What 'to' tells. -/
theorem tk_get {p : Nat} {r : List Int} (hd : r.Nodup) (hr : ∀ x ∈ r, 0 ≤ x ∧ x < (p : Int)) : ∀ k, k ≤ r.length → ∀ b : Nat, b < p →
    (∃ j, j < k ∧ gz r ((j + r.length - 1) % r.length) = (b : Int) ∧ gz (tk p r k) b = gz r j) ∨ ((∀ j, j < k → gz r ((j + r.length - 1) % r.length) ≠ (b : Int)) ∧ gz (tk p r k) b = (b : Int)) := by
  intro k
  induction k with
  | zero => intro _ b hb; exact .inr ⟨fun j hj => by omega, by rw [tk, gz_eq (by rw [cq.sv_length]; exact hb)]; simp [cq.sv]⟩
  | succ k ih =>
    intro hk b hb
    have h0 : 0 < r.length := by omega
    have hm := hr _ (gz_mem (prev_lt (k := k) h0))
    have hlen := tk_length p r k
    simp only [tk]
    rw [gz_set (by omega)]
    by_cases e : (gz r ((k + r.length - 1) % r.length)).toNat = b
    · rw [if_pos e]
      exact .inl ⟨k, by omega, by omega, rfl⟩
    · rw [if_neg e]
      rcases ih (by omega) b hb with ⟨j, h1, h2, h3⟩ | ⟨h1, h2⟩
      · exact .inl ⟨j, by omega, h2, h3⟩
      · refine .inr ⟨fun j hj => ?_, h2⟩
        by_cases c : j = k
        · subst c; intro hh; rw [hh] at e; simp at e
        · exact h1 j (by omega)
/-- Where a part goes. -/
structure Perm (t : Nat) (ws os : List Int) (p : Nat) (s : Nat → Nat) : Prop where
  lt : ∀ b, b < p → s b < p
  inj : ∀ a b, a < p → b < p → s a = s b → a = b
  sur : ∀ i, i < p → ∃ b, b < p ∧ s b = i
  up : ∀ b, b < p → vp.part.sv t ws os (s b) ((s b : Nat) : Int) ≤ vp.part.sv t ws os (s b) (b : Int)
  one : ∃ b, b < p ∧ vp.part.sv t ws os (s b) ((s b : Nat) : Int) < vp.part.sv t ws os (s b) (b : Int)
theorem perm_ok {t : Nat} {ws os : List Int} {p : Nat} {r : List Int} (R : Ring t ws os p r) : Perm t ws os p fun b => (gz (to p r) b).toNat := by
  have h0 := R.len
  have get : ∀ b : Nat, b < p → (∃ j, j < r.length ∧ gz r ((j + r.length - 1) % r.length) = (b : Int) ∧ gz (to p r) b = gz r j) ∨ ((∀ j, j < r.length → gz r ((j + r.length - 1) % r.length) ≠ (b : Int)) ∧ gz (to p r) b = (b : Int)) := fun b hb => tk_get R.nd R.ran r.length (Nat.le_refl _) b hb
  have ran : ∀ j, j < r.length → 0 ≤ gz r j ∧ gz r j < (p : Int) := fun j hj => R.ran _ (gz_mem hj)
  have prev : ∀ k, k < r.length → ∃ j, j < r.length ∧ (j + r.length - 1) % r.length = k := fun k hk => by
    by_cases c : k + 1 = r.length
    · exact ⟨0, h0, by rw [Nat.zero_add, Nat.mod_eq_of_lt (by omega)]; omega⟩
    · exact ⟨k + 1, by omega, by rw [show k + 1 + r.length - 1 = k + r.length from by omega, Nat.add_mod_right]; exact Nat.mod_eq_of_lt hk⟩
  refine ⟨fun b hb => ?_, fun a b ha hb e => ?_, fun i hi => ?_, fun b hb => ?_, ?_⟩
  · rcases get b hb with ⟨j, h1, h2, h3⟩ | ⟨h1, h2⟩
    · have := ran j h1; show (gz (to p r) b).toNat < p; rw [h3]; omega
    · show (gz (to p r) b).toNat < p; rw [h2]; omega
  · have e' : (gz (to p r) a).toNat = (gz (to p r) b).toNat := e
    rcases get a ha with ⟨j, h1, h2, h3⟩ | ⟨h1, h2⟩ <;> rcases get b hb with ⟨k, g1, g2, g3⟩ | ⟨g1, g2⟩
    · have r1 := ran j h1; have r2 := ran k g1
      rw [h3, g3] at e'
      have := nd_inj R.nd h1 g1 (by omega)
      subst this
      omega
    · have r1 := ran j h1
      rw [h3, g2] at e'
      obtain ⟨k, hk, hk2⟩ := prev j h1
      exact (g1 k hk (by rw [hk2]; omega)).elim
    · have r1 := ran k g1
      rw [h2, g3] at e'
      obtain ⟨j, hj, hj2⟩ := prev k g1
      exact (h1 j hj (by rw [hj2]; omega)).elim
    · rw [h2, g2] at e'; omega
  · by_cases hm : (i : Int) ∈ r
    · obtain ⟨j, hj, e⟩ := List.getElem_of_mem hm
      rw [← gz_eq hj] at e
      have hq := ran _ (prev_lt (k := j) h0)
      refine ⟨(gz r ((j + r.length - 1) % r.length)).toNat, by omega, ?_⟩
      show (gz (to p r) _).toNat = i
      rcases get (gz r ((j + r.length - 1) % r.length)).toNat (by omega) with ⟨k, g1, g2, g3⟩ | ⟨g1, g2⟩
      · have := nd_inj R.nd (prev_lt h0) (prev_lt h0) (show gz r ((k + r.length - 1) % r.length) = gz r ((j + r.length - 1) % r.length) by omega)
        have := prev_inj g1 hj this
        subst this
        rw [g3, e]; rfl
      · exact (g1 j hj (by omega)).elim
    · refine ⟨i, hi, ?_⟩
      show (gz (to p r) i).toNat = i
      rcases get i hi with ⟨j, h1, h2, h3⟩ | ⟨h1, h2⟩
      · exact (hm (h2 ▸ gz_mem (prev_lt h0))).elim
      · rw [h2]; rfl
  · show vp.part.sv t ws os (gz (to p r) b).toNat (((gz (to p r) b).toNat : Nat) : Int) ≤ vp.part.sv t ws os (gz (to p r) b).toNat (b : Int)
    rcases get b hb with ⟨j, h1, h2, h3⟩ | ⟨h1, h2⟩
    · have := R.env j h1
      unfold vp.envy.sv at this
      rw [h2] at this
      rw [h3]
      omega
    · rw [h2]; exact Int.le_refl _
  · have hq := ran _ (prev_lt (k := 0) h0)
    refine ⟨(gz r ((0 + r.length - 1) % r.length)).toNat, by omega, ?_⟩
    show vp.part.sv t ws os (gz (to p r) _).toNat (((gz (to p r) _).toNat : Nat) : Int) < vp.part.sv t ws os (gz (to p r) _).toNat _
    rcases get (gz r ((0 + r.length - 1) % r.length)).toNat (by omega) with ⟨k, g1, g2, g3⟩ | ⟨g1, g2⟩
    · have := R.env k g1
      unfold vp.envy.sv at this
      rw [g2] at this
      rw [g3]
      omega
    · exact (g1 0 h0 (by omega)).elim
theorem oz_length (to os : List Int) : ∀ k, (oz to os k).length = os.length := by
  intro k
  induction k with
  | zero => rfl
  | succ k ih =>
    simp only [oz]
    cases decide (0 ≤ gz os k)
    · exact ih
    · rw [cond_true, List.length_set, ih]
theorem oz_get (to os : List Int) : ∀ k, k ≤ os.length → ∀ q, gz (oz to os k) q = if q < k ∧ 0 ≤ gz os q then gz to (gz os q).toNat else gz os q := by
  intro k
  induction k with
  | zero => intro _ q; rw [if_neg (by omega)]; rfl
  | succ k ih =>
    intro hk q
    have h := ih (by omega)
    have hl := oz_length to os k
    simp only [oz]
    by_cases c : 0 ≤ gz os k
    · rw [decide_eq_true c, cond_true, gz_set (by omega), h q]
      by_cases e : k = q
      · subst e; rw [if_pos rfl, if_pos ⟨by omega, c⟩]
      · rw [if_neg e]
        by_cases d : q < k ∧ 0 ≤ gz os q
        · rw [if_pos d, if_pos ⟨by omega, d.2⟩]
        · rw [if_neg d, if_neg (by omega)]
    · rw [decide_eq_false c, cond_false, h q]
      by_cases d : q < k ∧ 0 ≤ gz os q
      · rw [if_pos d, if_pos ⟨by omega, d.2⟩]
      · rw [if_neg d, if_neg (fun hh => by
          have : q ≠ k := fun e => by subst e; exact c hh.2
          exact d ⟨by omega, hh.2⟩)]
/-- Owners, or none. -/
def Ow (os : List Int) (p : Nat) : Prop := ∀ x ∈ os, -1 ≤ x ∧ x < (p : Int)
theorem ow_get {os : List Int} {p : Nat} (h : Ow os p) (k : Nat) (hk : k < os.length) : -1 ≤ gz os k ∧ gz os k < (p : Int) := h _ (gz_mem hk)
theorem to_get {t : Nat} {ws os : List Int} {p : Nat} {r : List Int} (R : Ring t ws os p r) {b : Nat} (hb : b < p) : 0 ≤ gz (to p r) b ∧ gz (to p r) b < (p : Int) := by
  rcases tk_get R.nd R.ran r.length (Nat.le_refl _) b hb with ⟨j, h1, h2, h3⟩ | ⟨h1, h2⟩
  · have := R.ran _ (gz_mem h1); unfold to; rw [h3]; exact this
  · unfold to; rw [h2]; omega
theorem mv_length (t : Nat) (ws os : List Int) (p : Nat) : (mv.sv t ws os p).length = os.length := oz_length _ _ _
theorem mv_own {t : Nat} {ws os : List Int} {p : Nat} (h0 : 0 < p) (hp : p ≤ 6) (ha : all.sp t ws os p = true) (ho : Ow os p) : Ow (mv.sv t ws os p) p := by
  have R := ring_ok h0 hp ha
  intro x hx
  obtain ⟨k, hk, rfl⟩ := List.getElem_of_mem hx
  rw [mv_length] at hk
  have := ow_get ho k hk
  rw [← gz_eq (by rw [mv_length]; exact hk)]
  unfold mv.sv
  rw [oz_get _ _ _ (Nat.le_refl _)]
  split
  · have := to_get R (b := (gz os k).toNat) (by omega); omega
  · exact this
/-- The parts are the same, with other owners. -/
theorem mv_part {t : Nat} {ws os : List Int} {p : Nat} (h0 : 0 < p) (hp : p ≤ 6) (ha : all.sp t ws os p = true) (ho : Ow os p) {b : Nat} (hb : b < p) (i : Nat) :
    vp.part.sv t ws (mv.sv t ws os p) i (((gz (to p (ring t ws os p)) b).toNat : Nat) : Int) = vp.part.sv t ws os i (b : Int) ∧ vp.mx t ws (mv.sv t ws os p) i (((gz (to p (ring t ws os p)) b).toNat : Nat) : Int) (mv.sv t ws os p).length = vp.mx t ws os i (b : Int) os.length := by
  have R := ring_ok h0 hp ha
  have P := perm_ok R
  have iff : ∀ k, k < os.length → (gz (mv.sv t ws os p) k = (((gz (to p (ring t ws os p)) b).toNat : Nat) : Int) ↔ gz os k = (b : Int)) := by
    intro k hk
    have hw := ow_get ho k hk
    have tb := to_get R hb
    unfold mv.sv
    rw [oz_get _ _ _ (Nat.le_refl _)]
    by_cases c : 0 ≤ gz os k
    · rw [if_pos ⟨hk, c⟩]
      have tk := to_get R (b := (gz os k).toNat) (by omega)
      constructor
      · intro e
        have := P.inj (gz os k).toNat b (by omega) hb (by show (gz _ _).toNat = (gz _ _).toNat; omega)
        omega
      · intro e
        rw [e]; rw [Int.toNat_natCast]; omega
    · rw [if_neg (fun h => c h.2)]
      constructor
      · intro e; omega
      · intro e; omega
  have hl := mv_length t ws os p
  refine ⟨vp.part_iff hl fun k hk => iff k (by omega), ?_⟩
  rw [hl]
  exact Int.le_antisymm (vp.mx_le fun k hk => (iff k hk).1) (vp.mx_le fun k hk => (iff k hk).2)
/-- What all have, together. -/
def so (t : Nat) (ws os : List Int) : Nat → Int
  | 0 => 0
  | i + 1 => so t ws os i + vp.part.sv t ws os i (i : Int)
theorem mv_up {t : Nat} {ws os : List Int} {p : Nat} (h0 : 0 < p) (hp : p ≤ 6) (ha : all.sp t ws os p = true) (ho : Ow os p) {i : Nat} (hi : i < p) : vp.part.sv t ws os i (i : Int) ≤ vp.part.sv t ws (mv.sv t ws os p) i (i : Int) := by
  have P := perm_ok (ring_ok h0 hp ha)
  obtain ⟨b, hb, e⟩ := P.sur i hi
  have h1 := P.up b hb
  have h2 := (mv_part h0 hp ha ho hb i).1
  simp only [e] at h1 h2
  rw [h2]; exact h1
theorem mv_more {t : Nat} {ws os : List Int} {p : Nat} (h0 : 0 < p) (hp : p ≤ 6) (ha : all.sp t ws os p = true) (ho : Ow os p) : so t ws os p < so t ws (mv.sv t ws os p) p := by
  have P := perm_ok (ring_ok h0 hp ha)
  obtain ⟨b, hb, h1⟩ := P.one
  have hlt := P.lt b hb
  have h2 := (mv_part h0 hp ha ho hb (gz (to p (ring t ws os p)) b).toNat).1
  rw [← h2] at h1
  have key : ∀ n, n ≤ p → so t ws os n ≤ so t ws (mv.sv t ws os p) n ∧ ((gz (to p (ring t ws os p)) b).toNat < n → so t ws os n < so t ws (mv.sv t ws os p) n) := by
    intro n
    induction n with
    | zero => intro _; exact ⟨Int.le_refl _, fun h => by omega⟩
    | succ n ih =>
      intro hn
      obtain ⟨g1, g2⟩ := ih (by omega)
      have u := mv_up h0 hp ha ho (i := n) (by omega)
      simp only [so]
      refine ⟨by omega, fun h => ?_⟩
      by_cases e : (gz (to p (ring t ws os p)) b).toNat = n
      · simp only [e] at h1; omega
      · have := g2 (by omega); omega
  exact (key p (Nat.le_refl _)).2 hlt
theorem so_in {ws : List Int} (v : ∀ x ∈ ws, 0 ≤ x ∧ x ≤ 1000) (t : Nat) {os : List Int} (h : os.length ≤ 8) : ∀ n, 0 ≤ so t ws os n ∧ so t ws os n ≤ 8000 * n := by
  intro n
  induction n with
  | zero => simp [so]
  | succ n ih => have := vp.part_in v t h n (n : Int); simp only [so]; omega
theorem mv_ef {t : Nat} {ws os : List Int} {p : Nat} (h0 : 0 < p) (hp : p ≤ 6) (ha : all.sp t ws os p = true) (ho : Ow os p) (h : vp.EF t ws os p) : vp.EF t ws (mv.sv t ws os p) p := by
  intro i j hi hj
  have P := perm_ok (ring_ok h0 hp ha)
  obtain ⟨b, hb, e⟩ := P.sur j hj
  obtain ⟨h1, h2⟩ := mv_part h0 hp ha ho hb i
  have u := mv_up h0 hp ha ho hi
  have g := h i b hi hb
  simp only [e] at h1 h2
  unfold vp.envy.sv at g ⊢
  rw [h1, h2]
  omega
/-- Who is envied by nobody. -/
def fr.sp (t : Nat) (ws os : List Int) (p : Nat) (j : Nat) : Bool := decide (ei.sv t ws os p (j : Int) < 0)
def free.sv (t : Nat) (ws os : List Int) (p : Nat) : Int := fidx.sq (fr.sp t ws os p) (List.range p) 0
theorem free_ok (t : Nat) (ws os : List Int) (p : Nat) : (free.sv t ws os p = -1 ∧ all.sp t ws os p = true) ∨ ∃ j : Nat, free.sv t ws os p = j ∧ j < p ∧ ∀ i, i < p → vp.envy.sv t ws os i (j : Int) ≤ 0 := by
  have key : ∀ (d i : Nat), i + d = p → (fidx.sq (fr.sp t ws os p) ((List.range p).drop i) i = -1 ∧ ∀ j, i ≤ j → j < p → fr.sp t ws os p j = false) ∨ ∃ j : Nat, fidx.sq (fr.sp t ws os p) ((List.range p).drop i) i = j ∧ j < p ∧ fr.sp t ws os p j = true := by
    intro d
    induction d with
    | zero =>
      intro i hi
      rw [List.drop_of_length_le (by simp; omega)]
      exact .inl ⟨rfl, fun j h1 h2 => by omega⟩
    | succ d ih =>
      intro i hi
      have hd : (List.range p).drop i = i :: (List.range p).drop (i + 1) := by
        rw [List.drop_eq_getElem_cons (by simp; omega)]; simp
      rw [hd]
      simp only [fidx.sq]
      cases hf : fr.sp t ws os p i
      · rw [cond_false]
        rcases ih (i + 1) (by omega) with ⟨h1, h2⟩ | h
        · refine .inl ⟨h1, fun j h3 h4 => ?_⟩
          by_cases e : j = i
          · subst e; exact hf
          · exact h2 j (by omega) h4
        · exact .inr h
      · rw [cond_true]; exact .inr ⟨i, rfl, by omega, hf⟩
  have := key p 0 (by omega)
  rw [List.drop_zero] at this
  rcases this with ⟨h1, h2⟩ | ⟨j, h1, h2, h3⟩
  · refine .inl ⟨h1, ?_⟩
    unfold all.sp
    rw [List.all_eq_true]
    intro j hj
    have := h2 j (Nat.zero_le _) (List.mem_range.1 hj)
    simp only [fr.sp, decide_eq_false_iff_not] at this
    simp only [decide_eq_true_eq]; omega
  · refine .inr ⟨j, h1, h2, fun i hi => ?_⟩
    simp only [fr.sp, decide_eq_true_eq] at h3
    rcases ei_ok t ws os (j : Int) p 0 with ⟨_, e⟩ | ⟨k, e, _⟩
    · exact e i (Nat.zero_le _) (by omega)
    · unfold ei.sv at h3; omega
/-- Parts move until somebody is envied by nobody. -/
def inner (t : Nat) (ws : List Int) (p k : Nat) : Nat → List Int → List Int
  | 0, os => os
  | n + 1, os => bif decide (0 ≤ free.sv t ws os p) then os.set k (free.sv t ws os p) else inner t ws p k n (mv.sv t ws os p)
def go (t : Nat) (ws : List Int) (p : Nat) : Nat → List Int
  | 0 => List.replicate t (-1)
  | k + 1 => inner t ws p k 50000 (go t ws p k)
def sv (t : Nat) (ws : List Int) (p : Nat) : List Int := go t ws p t
/-- What holds before thing 'k' is given. -/
structure Ok (t : Nat) (ws os : List Int) (p k : Nat) : Prop where
  len : os.length = t
  ow : Ow os p
  rest : ∀ q, k ≤ q → q < t → gz os q = -1
  done : ∀ q, q < k → q < t → 0 ≤ gz os q
  ef : vp.EF t ws os p
theorem ok_mv {t : Nat} {ws os : List Int} {p k : Nat} (h0 : 0 < p) (hp : p ≤ 6) (ha : all.sp t ws os p = true) (h : Ok t ws os p k) : Ok t ws (mv.sv t ws os p) p k := by
  refine ⟨by rw [mv_length]; exact h.len, mv_own h0 hp ha h.ow, fun q h1 h2 => ?_, fun q h1 h2 => ?_, mv_ef h0 hp ha h.ow h.ef⟩
  · unfold mv.sv
    have := h.rest q h1 h2
    rw [oz_get _ _ _ (Nat.le_refl _), if_neg (fun hh => by omega)]
    exact this
  · unfold mv.sv
    have hl := h.len
    have h3 := h.done q h1 h2
    have h4 := ow_get h.ow q (by omega)
    rw [oz_get _ _ _ (Nat.le_refl _), if_pos ⟨by omega, h3⟩]
    exact (to_get (ring_ok h0 hp ha) (b := (gz os q).toNat) (by omega)).1
theorem ok_set {t : Nat} {ws os : List Int} {p k j : Nat} (v : ∀ x ∈ ws, 0 ≤ x ∧ x ≤ 1000) (hj : j < p) (hk : k < t) (he : ∀ i, i < p → vp.envy.sv t ws os i (j : Int) ≤ 0) (h : Ok t ws os p k) : Ok t ws (os.set k (j : Int)) p (k + 1) := by
  have hl := h.len
  have hn : gz os k < 0 := by rw [h.rest k (Nat.le_refl _) hk]; decide
  refine ⟨by rw [List.length_set]; exact hl, fun x hx => ?_, fun q h1 h2 => ?_, fun q h1 h2 => ?_, fun a b hla hlb => ?_⟩
  · rcases List.mem_or_eq_of_mem_set hx with hx | rfl
    · exact h.ow x hx
    · omega
  · rw [gz_set (by omega), if_neg (by omega)]; exact h.rest q (by omega) h2
  · rw [gz_set (by omega)]
    by_cases e : k = q
    · rw [if_pos e]; omega
    · rw [if_neg e]; exact h.done q (by omega) h2
  · rw [tt.envy_set (by omega) hn]
    have m := tt.mx_set_le (t := t) (ws := ws) (x := j) (i := a) (j := b) (by omega) hn
    have g := h.ef a b hla hlb
    by_cases e : j = b
    · subst e
      have g2 := he a hla
      have g3 : vp.w t ws a k ≤ vp.mx t ws (os.set k (j : Int)) a (j : Int) (os.set k (j : Int)).length := by
        rw [List.length_set]; exact vp.mx_ge (by rw [gz_set (by omega), if_pos rfl]) _ (by omega)
      rw [if_pos rfl]
      by_cases e2 : j = a
      · rw [if_pos e2]; omega
      · rw [if_neg e2]; omega
    · rw [if_neg e]
      by_cases e2 : j = a
      · rw [if_pos e2]
        have := vp.w_in v t a k
        omega
      · rw [if_neg e2]; omega
theorem ok_start {t : Nat} {ws : List Int} {p : Nat} (v : ∀ x ∈ ws, 0 ≤ x ∧ x ≤ 1000) : Ok t ws (List.replicate t (-1)) p 0 := by
  refine ⟨by simp, fun x hx => ?_, fun q _ hq => ?_, fun q hq => by omega, fun i j hi hj => ?_⟩
  · have := List.eq_of_mem_replicate hx; omega
  · rw [gz_eq (by simpa using hq)]; simp
  · unfold vp.envy.sv
    rw [tt.part_none, tt.part_none]
    exact (vp.mx_in v t _ i (j : Int) _).1
theorem inner_ok {t : Nat} {ws : List Int} {p k : Nat} (v : ∀ x ∈ ws, 0 ≤ x ∧ x ≤ 1000) (h0 : 0 < p) (hp : p ≤ 6) (ht : t ≤ 8) (hk : k < t) : ∀ (n : Nat) (os : List Int), Ok t ws os p k → 48000 < so t ws os p + n → Ok t ws (inner t ws p k n os) p (k + 1) := by
  intro n
  induction n with
  | zero =>
    intro os h hm
    have := (so_in v t (os := os) (by rw [h.len]; exact ht) p).2
    omega
  | succ n ih =>
    intro os h hm
    simp only [inner]
    rcases free_ok t ws os p with ⟨e, ha⟩ | ⟨j, e, hj, he⟩
    · rw [e, decide_eq_false (by decide), cond_false]
      have := mv_more h0 hp ha h.ow
      exact ih _ (ok_mv h0 hp ha h) (by omega)
    · rw [e, decide_eq_true (by omega), cond_true]
      exact ok_set v hj hk he h
theorem go_ok {t : Nat} {ws : List Int} {p : Nat} (v : ∀ x ∈ ws, 0 ≤ x ∧ x ≤ 1000) (h0 : 0 < p) (hp : p ≤ 6) (ht : t ≤ 8) : ∀ k, k ≤ t → Ok t ws (go t ws p k) p k := by
  intro k
  induction k with
  | zero => intro _; exact ok_start v
  | succ k ih =>
    intro hk
    have h := ih (by omega)
    have := (so_in v t (os := go t ws p k) (by rw [h.len]; exact ht) p).1
    exact inner_ok v h0 hp ht (by omega) 50000 _ h (by omega)
theorem sv_ok {t : Nat} {ws : List Int} {p : Nat} (v : ∀ x ∈ ws, 0 ≤ x ∧ x ≤ 1000) (h0 : 0 < p) (hp : p ≤ 6) (ht : t ≤ 8) : Ok t ws (sv t ws p) p t := go_ok v h0 hp ht t (Nat.le_refl _)
end er

end Go.Proofs.Ytkoongajnnaeoaa.Ab
