/-
  The abstract machine: floats. What is not a number is one value here; in the model its bits are drawn.
-/
import Derived.Test.YtmaegbgkpjbohaaAbMem
namespace Go.Proofs.Ytmaegbgkpjbohaa.Ab
open Go
set_option linter.unusedVariables false
set_option linter.unusedSimpArgs false

theorem nan_iff (k : FloatKind) (b : Nat) : (k.decode b).isNaN = decide (k.format.infRung < b % k.format.signWeight) := by
  unfold FloatKind.decode Ieee.Format.read
  have h : k.format.binade ≤ k.format.infRung := by cases k <;> decide
  simp only []
  split
  · rename_i h1; simp only [Ieee.Datum.isNaN]; symm; rw [decide_eq_false_iff_not]; omega
  · split
    · rename_i h1 h2; simp only [Ieee.Datum.isNaN]; symm; rw [decide_eq_false_iff_not]; omega
    · split
      · rename_i h1 h2 h3; simp only [Ieee.Datum.isNaN]; symm; rw [decide_eq_false_iff_not]; omega
      · rename_i h1 h2 h3; simp only [Ieee.Datum.isNaN]; symm; rw [decide_eq_true_eq]; omega

theorem nan_of {k : FloatKind} {b : Nat} (h : (k.decode b).isNaN = true) : ∃ s f, k.format.read b = .nan s f := by
  unfold FloatKind.decode at h
  cases hr : k.format.read b <;> simp [hr, Ieee.Datum.isNaN] at h
  exact ⟨_, _, rfl⟩

theorem isnan_qnan (k : FloatKind) : (k.decode (qnan k)).isNaN = true := by cases k <;> rw [nan_iff] <;> decide
theorem isnan_neg {k : FloatKind} {b : Nat} (h : (k.decode b).isNaN = true) : (k.decode (Op.negFloat k b)).isNaN = true := by
  rw [nan_iff] at h ⊢
  rw [decide_eq_true_eq] at h ⊢
  have : Op.negFloat k b % k.format.signWeight = b % k.format.signWeight := by
    unfold Op.negFloat Ieee.Format.signWeight
    rw [Nat.xor_mod_two_pow, Nat.mod_self, Nat.xor_zero]
  rwa [this]

theorem nanCut32 (t : Nat) : (FloatKind.f32.decode ((t % 2) * 2 ^ 31 + 0x7f800000 + 1 + (t / 2) % (2 ^ 23 - 1))).isNaN = true := by
  rw [nan_iff, decide_eq_true_eq]
  have h1 : FloatKind.f32.format.infRung = 2139095040 := rfl
  have h2 : FloatKind.f32.format.signWeight = 2147483648 := rfl
  rw [h1, h2]
  have h3 := Nat.mod_lt (t / 2) (show 0 < (2 ^ 23 - 1) by omega)
  generalize t / 2 % (2 ^ 23 - 1) = r at *
  rcases Nat.mod_two_eq_zero_or_one t with h | h <;> rw [h] <;> omega
theorem nanCut64 (t : Nat) : (FloatKind.f64.decode ((t % 2) * 2 ^ 63 + 0x7ff0000000000000 + 1 + (t / 2) % (2 ^ 52 - 1))).isNaN = true := by
  rw [nan_iff, decide_eq_true_eq]
  have h1 : FloatKind.f64.format.infRung = 9218868437227405312 := rfl
  have h2 : FloatKind.f64.format.signWeight = 9223372036854775808 := rfl
  rw [h1, h2]
  have h3 := Nat.mod_lt (t / 2) (show 0 < (2 ^ 52 - 1) by omega)
  generalize t / 2 % (2 ^ 52 - 1) = r at *
  rcases Nat.mod_two_eq_zero_or_one t with h | h <;> rw [h] <;> omega
theorem nanBits_isnan (k : FloatKind) (x y t : Nat) : (k.decode ((Question.nanBits k x y).cut t)).isNaN = true := by
  cases k
  · exact nanCut32 t
  · exact nanCut64 t
theorem nanConv_isnan (k : FloatKind) (x t : Nat) : (k.decode ((Question.nanConv k x).cut t)).isNaN = true := by
  cases k
  · exact nanCut32 t
  · exact nanCut64 t

theorem order_same {k : FloatKind} {a b c d : Nat} (h1 : fsame k a c) (h2 : fsame k b d) : k.format.order a b = k.format.order c d := by
  unfold Ieee.Format.order
  rcases h1 with rfl | ⟨n1, m1⟩
  · rcases h2 with rfl | ⟨n2, m2⟩
    · rfl
    · obtain ⟨s, f, e⟩ := nan_of n2; obtain ⟨s', f', e'⟩ := nan_of m2
      rw [e, e']; cases k.format.read a <;> rfl
  · obtain ⟨s, f, e⟩ := nan_of n1; obtain ⟨s', f', e'⟩ := nan_of m1
    rw [e, e']; cases k.format.read b <;> cases k.format.read d <;> rfl

/-- One operation: the same answer, or neither is a number. -/
theorem op_same {k : FloatKind} {f : Nat → Nat → Option Nat} (hl : ∀ a b, (k.decode a).isNaN = true → f a b = none) (hr : ∀ a b, (k.decode b).isNaN = true → f a b = none)
    {a b c d : Nat} (h1 : fsame k a c) (h2 : fsame k b d) : f a b = f c d := by
  rcases h1 with rfl | ⟨n1, m1⟩
  · rcases h2 with rfl | ⟨n2, m2⟩
    · rfl
    · rw [hr a b n2, hr a d m2]
  · rw [hl a b n1, hl c d m1]
theorem add_l {k : FloatKind} (a b : Nat) (h : (k.decode a).isNaN = true) : k.format.add a b = none := by
  obtain ⟨s, f, e⟩ := nan_of h; unfold Ieee.Format.add; rw [e]; cases k.format.read b <;> rfl
theorem add_r {k : FloatKind} (a b : Nat) (h : (k.decode b).isNaN = true) : k.format.add a b = none := by
  obtain ⟨s, f, e⟩ := nan_of h; unfold Ieee.Format.add; rw [e]; cases k.format.read a <;> rfl
theorem sub_l {k : FloatKind} (a b : Nat) (h : (k.decode a).isNaN = true) : k.format.sub a b = none := by
  obtain ⟨s, f, e⟩ := nan_of h; unfold Ieee.Format.sub; rw [e]; cases k.format.read b <;> rfl
theorem sub_r {k : FloatKind} (a b : Nat) (h : (k.decode b).isNaN = true) : k.format.sub a b = none := by
  obtain ⟨s, f, e⟩ := nan_of h; unfold Ieee.Format.sub; rw [e]; cases k.format.read a <;> rfl
theorem mul_l {k : FloatKind} (a b : Nat) (h : (k.decode a).isNaN = true) : k.format.mul a b = none := by
  obtain ⟨s, f, e⟩ := nan_of h; unfold Ieee.Format.mul; rw [e]; cases k.format.read b <;> rfl
theorem mul_r {k : FloatKind} (a b : Nat) (h : (k.decode b).isNaN = true) : k.format.mul a b = none := by
  obtain ⟨s, f, e⟩ := nan_of h; unfold Ieee.Format.mul; rw [e]; cases k.format.read a <;> rfl
theorem div_l {k : FloatKind} (a b : Nat) (h : (k.decode a).isNaN = true) : k.format.div a b = none := by
  obtain ⟨s, f, e⟩ := nan_of h; unfold Ieee.Format.div; rw [e]; cases k.format.read b <;> rfl
theorem div_r {k : FloatKind} (a b : Nat) (h : (k.decode b).isNaN = true) : k.format.div a b = none := by
  obtain ⟨s, f, e⟩ := nan_of h; unfold Ieee.Format.div; rw [e]; cases k.format.read a <;> rfl

/-- Where a step only draws. -/
def Drawn (w w' : World) : Prop := w' = w ∨ w' = w.drew
theorem Drawn.heap {w w' : World} (h : Drawn w w') : w'.heap = w.heap := by rcases h with rfl | rfl <;> rfl
theorem Drawn.mv {w w' : World} (h : Drawn w w') (ρ : List Nat) (H : Heap) : Mv ρ H w ρ H w' := by
  rcases h with rfl | rfl
  · exact Mv.refl _ _ _
  · exact Mv.drew _ _ _

theorem farith_ok {P : Program} {k : FloatKind} {op : BinOp} {f : Nat → Nat → Option Nat} (w : World) (c d : Nat)
    (hop : (op = .add ∧ f = k.format.add) ∨ (op = .sub ∧ f = k.format.sub) ∨ (op = .mul ∧ f = k.format.mul) ∨ (op = .quo ∧ f = k.format.div)) :
    ∃ r w', (Op.floatArith op k c d).run P w = .ok (.float k r) w' ∧ Drawn w w' ∧ fsame k ((f c d).getD (qnan k)) r := by
  have drawn : (do pure (.float k (← choose (.nanBits k c d))) : Sem Value).run P w = .ok (.float k ((Question.nanBits k c d).cut (w.tape w.drawn (.nanBits k c d)))) w.drew := by
    simp only [Sem.run_bind, choose, Sem.run, Question.forced, Result.andThen_ok, Sem.run_pure]
    rfl
  have fin : fsame k (qnan k) ((Question.nanBits k c d).cut (w.tape w.drawn (.nanBits k c d))) := .inr ⟨isnan_qnan k, nanBits_isnan k c d _⟩
  rcases hop with ⟨rfl, rfl⟩ | ⟨rfl, rfl⟩ | ⟨rfl, rfl⟩ | ⟨rfl, rfl⟩
  · cases hr : k.format.add c d with
    | some r => exact ⟨r, w, by simp [Op.floatArith, hr], .inl rfl, .inl rfl⟩
    | none => exact ⟨_, _, by simp only [Op.floatArith, hr, Sem.run_bind, Sem.run_pure, Result.andThen_ok]; simpa using drawn, .inr rfl, fin⟩
  · cases hr : k.format.sub c d with
    | some r => exact ⟨r, w, by simp [Op.floatArith, hr], .inl rfl, .inl rfl⟩
    | none => exact ⟨_, _, by simp only [Op.floatArith, hr, Sem.run_bind, Sem.run_pure, Result.andThen_ok]; simpa using drawn, .inr rfl, fin⟩
  · cases hr : k.format.mul c d with
    | some r => exact ⟨r, w, by simp [Op.floatArith, hr], .inl rfl, .inl rfl⟩
    | none => exact ⟨_, _, by simp only [Op.floatArith, hr, Sem.run_bind, Sem.run_pure, Result.andThen_ok]; simpa using drawn, .inr rfl, fin⟩
  · cases hr : k.format.div c d with
    | some r => exact ⟨r, w, by simp [Op.floatArith, hr], .inl rfl, .inl rfl⟩
    | none => exact ⟨_, _, by simp only [Op.floatArith, hr, Sem.run_bind, Sem.run_pure, Result.andThen_ok]; simpa using drawn, .inr rfl, fin⟩

end Go.Proofs.Ytmaegbgkpjbohaa.Ab
