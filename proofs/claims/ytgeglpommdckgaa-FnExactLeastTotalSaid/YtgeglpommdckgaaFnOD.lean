/-
  Counting through all choices: an odometer, the plain law.
-/
import Derived.Test.YtgeglpommdckgaaFnV
namespace Go.Proofs.Ytgeglpommdckgaa.Ab
open Go
set_option linter.unusedVariables false
set_option linter.unusedSimpArgs false
set_option maxRecDepth 100000

namespace od
/-- One step, from place k - 1 on to the front. -/
def at.sv (W : Nat) : Nat → List Int → List Int
  | 0, xs => xs
  | k + 1, xs => bif decide (IntKind.i64.wrap (gz xs k + 1) < (W : Int)) then xs.set k (IntKind.i64.wrap (gz xs k + 1)) else at.sv W k ((xs.set k (IntKind.i64.wrap (gz xs k + 1))).set k 0)
def on.sp (W : Nat) : Nat → List Int → Bool
  | 0, xs => false
  | k + 1, xs => bif decide (IntKind.i64.wrap (gz xs k + 1) < (W : Int)) then true else on.sp W k ((xs.set k (IntKind.i64.wrap (gz xs k + 1))).set k 0)
def Ok (W : Nat) (xs : List Int) : Prop := ∀ x ∈ xs, 0 ≤ x ∧ x < (W : Int)
def val (W : Nat) : List Int → Nat
  | [] => 0
  | x :: t => x.toNat * W ^ t.length + val W t
theorem at_length (W : Nat) : ∀ (k : Nat) (xs : List Int), (at.sv W k xs).length = xs.length := by
  intro k
  induction k with
  | zero => intro xs; rfl
  | succ k ih =>
    intro xs
    simp only [at.sv]
    cases decide (IntKind.i64.wrap (gz xs k + 1) < (W : Int))
    · rw [cond_false, ih]; simp
    · simp
theorem val_set (W : Nat) (v : Int) : ∀ (xs : List Int) (k : Nat) (h : k < xs.length), val W (xs.set k v) + (xs[k]).toNat * W ^ (xs.length - 1 - k) = val W xs + v.toNat * W ^ (xs.length - 1 - k) := by
  intro xs
  induction xs with
  | nil => intro k h; exact absurd h (by simp)
  | cons x t ih =>
    intro k h
    cases k with
    | zero => simp only [List.set_cons_zero, val, List.getElem_cons_zero, List.length_cons]; have : t.length + 1 - 1 - 0 = t.length := by omega
              rw [this]; omega
    | succ k =>
      have h' : k < t.length := by simpa using h
      have := ih k h'
      simp only [List.set_cons_succ, val, List.getElem_cons_succ, List.length_cons, List.length_set]
      have e : t.length + 1 - 1 - (k + 1) = t.length - 1 - k := by omega
      rw [e]; omega
theorem Ok.set {W : Nat} {xs : List Int} (h : Ok W xs) (k : Nat) {v : Int} (hv : 0 ≤ v ∧ v < (W : Int)) : Ok W (xs.set k v) := by
  intro x hx
  rcases List.mem_or_eq_of_mem_set hx with h1 | h1
  · exact h x h1
  · rw [h1]; exact hv
theorem val_lt {W : Nat} : ∀ {xs : List Int}, Ok W xs → val W xs < W ^ xs.length := by
  intro xs
  induction xs with
  | nil => intro _; simp [val]
  | cons x t ih =>
    intro h
    have h1 := h x List.mem_cons_self
    have h2 := ih fun y hy => h y (List.mem_cons_of_mem _ hy)
    simp only [val, List.length_cons]
    have h3 : x.toNat + 1 ≤ W := by omega
    have h4 := Nat.mul_le_mul_right (W ^ t.length) h3
    rw [Nat.add_mul, Nat.one_mul] at h4
    rw [Nat.pow_succ, Nat.mul_comm (W ^ t.length) W]
    omega
theorem gz_set_eq {xs : List Int} {k : Nat} (h : k < xs.length) (v : Int) : (xs.set k v)[k]'(by simpa using h) = v := by simp
theorem at_ok {W : Nat} (hW : 1 ≤ W) (hW2 : W ≤ 1000) : ∀ (k : Nat) {xs : List Int}, k ≤ xs.length → Ok W xs → Ok W (at.sv W k xs) := by
  intro k
  induction k with
  | zero => intro xs _ h; exact h
  | succ k ih =>
    intro xs hk h
    have hlt : k < xs.length := by omega
    have hx := h xs[k] (List.getElem_mem hlt)
    have hw : IntKind.i64.wrap (gz xs k + 1) = xs[k] + 1 := by rw [gz_eq hlt]; exact IntWalk.i64_in _ (by omega)
    simp only [at.sv, hw]
    cases hc : decide (xs[k] + 1 < (W : Int))
    · rw [cond_false]
      refine ih (by simp; omega) ?_
      rw [List.set_set]
      exact h.set k (by omega)
    · have : xs[k] + 1 < (W : Int) := by simpa using hc
      exact h.set k (by omega)
/-- What comes after is one more; after the last come zeros. -/
theorem at_val {W : Nat} (hW : 1 ≤ W) (hW2 : W ≤ 1000) : ∀ (k : Nat) {xs : List Int}, k ≤ xs.length → Ok W xs →
    (on.sp W k xs = true → val W (at.sv W k xs) = val W xs + W ^ (xs.length - k)) ∧
    (on.sp W k xs = false → (∀ (j : Nat) (hj : j < xs.length), j < k → xs[j] = (W : Int) - 1) ∧ ∀ (j : Nat) (hj : j < xs.length), (at.sv W k xs)[j]'(by rw [at_length]; exact hj) = if j < k then 0 else xs[j]) := by
  intro k
  induction k with
  | zero => intro xs hk h; exact ⟨fun h => by simp [on.sp] at h, fun _ => ⟨fun j hj h => by omega, fun j hj => by simp [at.sv]⟩⟩
  | succ k ih =>
    intro xs hk h
    have hlt : k < xs.length := by omega
    have hx := h xs[k] (List.getElem_mem hlt)
    have hw : IntKind.i64.wrap (gz xs k + 1) = xs[k] + 1 := by rw [gz_eq hlt]; exact IntWalk.i64_in _ (by omega)
    simp only [on.sp, at.sv, hw]
    by_cases hc : xs[k] + 1 < (W : Int)
    · simp only [hc, decide_true, cond_true]
      refine ⟨fun _ => ?_, fun h => by simp at h⟩
      have hv := val_set W (xs[k] + 1) xs k hlt
      have e1 : (xs[k] + 1).toNat = xs[k].toNat + 1 := by omega
      have e2 : xs.length - 1 - k = xs.length - (k + 1) := by omega
      rw [e1, Nat.add_mul, Nat.one_mul, e2] at hv
      omega
    · simp only [hc, decide_false, cond_false, List.set_set]
      have hz : Ok W (xs.set k 0) := h.set k (by omega)
      obtain ⟨i1, i2⟩ := ih (xs := xs.set k 0) (by simp; omega) hz
      have hl : (xs.set k 0).length = xs.length := by simp
      have hlast : xs[k] = (W : Int) - 1 := by omega
      refine ⟨fun ho => ?_, fun ho => ?_⟩
      · have hv := val_set W 0 xs k hlt
        rw [i1 ho, hl]
        have e0 : xs.length - 1 - k = xs.length - (k + 1) := by omega
        have e1 : xs[k].toNat = W - 1 := by omega
        have e2 : xs.length - k = (xs.length - (k + 1)) + 1 := by omega
        rw [e0, e1, Int.toNat_zero, Nat.zero_mul, Nat.add_zero] at hv
        rw [e2, Nat.pow_succ]
        have e3 : W ^ (xs.length - (k + 1)) * W = (W - 1) * W ^ (xs.length - (k + 1)) + W ^ (xs.length - (k + 1)) := by
          have : W = (W - 1) + 1 := by omega
          conv => lhs; rw [Nat.mul_comm, this, Nat.add_mul, Nat.one_mul]
          have e4 : W - 1 + 1 = W := by omega
          rw [e4]
        omega
      · obtain ⟨j1, j2⟩ := i2 ho
        refine ⟨fun j hj hjk => ?_, fun j hj => ?_⟩
        · by_cases hjk2 : j < k
          · have := j1 j (by simpa using hj) hjk2
            rwa [List.getElem_set_ne (by omega)] at this
          · have : j = k := by omega
            subst this; exact hlast
        · rw [j2 j (by simpa using hj)]
          by_cases hjk : j < k
          · have : j < k + 1 := by omega
            simp [hjk, this]
          · by_cases hjk2 : j = k
            · subst hjk2; simp
            · have h3 : ¬ j < k + 1 := by omega
              have h4 : k ≠ j := fun e => hjk2 e.symm
              simp [hjk, h3, h4]
theorem val_max (W : Nat) (hW : 1 ≤ W) : ∀ (xs : List Int), (∀ (j : Nat) (hj : j < xs.length), xs[j] = (W : Int) - 1) → val W xs + 1 = W ^ xs.length := by
  intro xs
  induction xs with
  | nil => intro _; rfl
  | cons x t ih =>
    intro h
    have h1 := h 0 (by simp)
    have h2 := ih fun j hj => by have := h (j + 1) (by simpa using hj); simpa using this
    simp only [List.getElem_cons_zero] at h1
    simp only [val, List.length_cons]
    have e : x.toNat = W - 1 := by omega
    rw [e, Nat.pow_succ, Nat.mul_comm (W ^ t.length) W]
    have e3 : ∀ q : Nat, W * q = (W - 1) * q + q := fun q => by
      have e4 : W * q = ((W - 1) + 1) * q := by congr 1; omega
      rw [e4, Nat.add_mul, Nat.one_mul]
    have := e3 (W ^ t.length)
    omega
/-- The whole step. -/
def nx (W : Nat) (xs : List Int) : List Int := at.sv W xs.length xs
theorem nx_length (W : Nat) (xs : List Int) : (nx W xs).length = xs.length := at_length _ _ _
theorem nx_on {W : Nat} (hW : 1 ≤ W) (hW2 : W ≤ 1000) {xs : List Int} (h : Ok W xs) : on.sp W xs.length xs = decide (val W xs + 1 < W ^ xs.length) := by
  obtain ⟨i1, i2⟩ := at_val hW hW2 xs.length (Nat.le_refl _) h
  cases ho : on.sp W xs.length xs
  · have := val_max W hW xs fun j hj => (i2 ho).1 j hj hj
    simp [this]
  · have h1 := i1 ho
    rw [Nat.sub_self, Nat.pow_zero] at h1
    have h2 := val_lt (at_ok hW hW2 xs.length (Nat.le_refl _) h)
    rw [at_length, h1] at h2
    simp [h2]
theorem nx_val {W : Nat} (hW : 1 ≤ W) (hW2 : W ≤ 1000) {xs : List Int} (h : Ok W xs) (h2 : val W xs + 1 < W ^ xs.length) : val W (nx W xs) = val W xs + 1 := by
  obtain ⟨i1, i2⟩ := at_val hW hW2 xs.length (Nat.le_refl _) h
  have ho := nx_on hW hW2 h
  rw [decide_eq_true h2] at ho
  have h1 := i1 ho
  rwa [Nat.sub_self, Nat.pow_zero] at h1
theorem nx_ok {W : Nat} (hW : 1 ≤ W) (hW2 : W ≤ 1000) {xs : List Int} (h : Ok W xs) : Ok W (nx W xs) := at_ok hW hW2 _ (Nat.le_refl _) h
theorem nx_zero {W : Nat} (hW : 1 ≤ W) (hW2 : W ≤ 1000) {xs : List Int} (h : Ok W xs) (h2 : val W xs + 1 = W ^ xs.length) : nx W xs = List.replicate xs.length 0 := by
  obtain ⟨i1, i2⟩ := at_val hW hW2 xs.length (Nat.le_refl _) h
  have ho := nx_on hW hW2 h
  have : ¬ (val W xs + 1 < W ^ xs.length) := by omega
  rw [decide_eq_false this] at ho
  refine List.ext_getElem (by rw [nx_length, List.length_replicate]) fun j h1 h2 => ?_
  have hj : j < xs.length := by rwa [nx_length] at h1
  have := (i2 ho).2 j hj
  rw [List.getElem_replicate]
  exact this.trans (if_pos hj)
theorem val_zeros (W : Nat) : ∀ n, val W (List.replicate n 0) = 0 := by
  intro n
  induction n with
  | zero => rfl
  | succ n ih => simp [List.replicate_succ, val, ih]
theorem ok_zeros {W : Nat} (hW : 1 ≤ W) (n : Nat) : Ok W (List.replicate n 0) := fun x hx => by rw [List.eq_of_mem_replicate hx]; omega
/-- The best so far, and how the next changes it. -/
def up (T : List Int → Int) (xs best : List Int) (l : Int) : List Int × Int := bif decide (T xs < l) then (xs, T xs) else (best, l)
/-- n choices more, from xs on. -/
def many (T : List Int → Int) (W : Nat) : Nat → List Int → List Int → Int → List Int × Int
  | 0, _, best, l => (best, l)
  | n + 1, xs, best, l => many T W n (nx W xs) (up T xs best l).1 (up T xs best l).2
def best.sv (T : List Int → Int) (W U : Nat) : List Int := (many T W (W ^ U - 1) (nx W (List.replicate U 0)) (List.replicate U 0) (T (List.replicate U 0))).1
def least.sv (T : List Int → Int) (W U : Nat) : Int := (many T W (W ^ U - 1) (nx W (List.replicate U 0)) (List.replicate U 0) (T (List.replicate U 0))).2
theorem many_length (T : List Int → Int) (W : Nat) : ∀ (n : Nat) (xs best : List Int) (l : Int), xs.length = best.length → (many T W n xs best l).1.length = best.length := by
  intro n
  induction n with
  | zero => intro xs best l _; rfl
  | succ n ih =>
    intro xs best l h
    simp only [many, up]
    cases decide (T xs < l)
    · exact ih _ _ _ (by rw [nx_length]; exact h)
    · rw [cond_true, ih _ _ _ (nx_length W xs), h]
theorem best_length (T : List Int → Int) (W U : Nat) : (best.sv T W U).length = U := by
  unfold best.sv
  rw [many_length _ _ _ _ _ _ (nx_length _ _), List.length_replicate]
end od

end Go.Proofs.Ytgeglpommdckgaa.Ab
