/-
  Functions: lists of complex numbers.
-/
import Derived.Test.YtgblgofmdhekiaaFnJ
import Derived.Test.YtgblgofmdhekiaaFnME
namespace Go.Proofs.Ytgblgofmdhekiaa.Ab
open Go
set_option linter.unusedVariables false
set_option linter.unusedSimpArgs false
set_option maxRecDepth 100000

theorem gc_eq {xs : List (Nat × Nat)} {i : Nat} (h : i < xs.length) : gc xs i = xs[i] := by
  simp [gc, h]
theorem drop_take_consC {xs : List (Nat × Nat)} {m i : Nat} (hx : m ≤ xs.length) (hi : i < m) : (xs.take m).drop i = xs[i]'(by omega) :: (xs.take m).drop (i + 1) := by
  rw [List.drop_eq_getElem_cons (by simp; omega)]
  congr 1
  simp
def markC.sv (k : Int) : Nat × Nat := (nar.sv (FloatKind.f64.nearest k), 1065353216)
theorem one32 : nar.sv 4607182418800017408 = 1065353216 := by decide +kernel
def marksC.sv (k : Int) (m : Nat) : List (Nat × Nat) := (List.range m).map fun i : Nat => markC.sv (k + (i : Int))
theorem marksC_length (k : Int) (m : Nat) : (marksC.sv k m).length = m := by simp [marksC.sv]
theorem marksC_get (k : Int) (m i : Nat) (h : i < (marksC.sv k m).length) : (marksC.sv k m)[i] = markC.sv (k + (i : Int)) := by simp [marksC.sv]
theorem take_marksC (k : Int) (n : Nat) : (marksC.sv k n).take n = marksC.sv k n := List.take_of_length_le (by rw [marksC_length]; omega)
/-- Both parts are numbers. -/
def cfin.sp (z : Nat × Nat) : Bool := num32.sp z.1 && num32.sp z.2
theorem fl.fin_num32 {x : Nat} (h : fl.fin .f32 x) : num32.sp x = true := by
  obtain ⟨s, m, e, hd⟩ := h
  unfold num32.sp; rw [hd]
theorem fl.num32_fin {x : Nat} (h : num32.sp x = true) : fl.fin .f32 x := by
  unfold num32.sp at h
  split at h
  · rename_i s m e hd; exact ⟨s, m, e, hd⟩
  · cases h
theorem fl.eq_self {k : FloatKind} {x : Nat} (h : fl.fin k x) : (k.format.order x x == some Ordering.eq) = true := by
  rw [fl.order_val h h, fl.cmp_eq]; exact decide_eq_true rfl
theorem markC_ok {k : Int} (h0 : 0 ≤ k) (h1 : k ≤ 9007199254740991) : nar.ok.sp (FloatKind.f64.nearest k) = true ∧ nar.ok.sp 4607182418800017408 = true ∧ fl.fin .f32 (markC.sv k).1 ∧ fl.fin .f32 (markC.sv k).2 := by
  have e1 : 2 * FloatKind.f64.format.binade = 9007199254740992 := by decide
  obtain ⟨f1, f2⟩ := fl.ofInt_ok (k := .f64) (n := k) (by omega)
  have r53 : fl.Rep .f32 1 (53 : Nat) := fl.rep32 (by omega) (by omega) (by omega)
  have r0 : fl.Rep .f32 1 0 := fl.rep32 (by omega) (by omega) (by omega)
  have hb : (fl.val .f64 (FloatKind.f64.nearest k)).natAbs ≤ fl.sc 1 (53 : Nat) := by
    rw [f2, Int.natAbs_mul, Int.natAbs_natCast]
    have := fl.sc_add 1 0 53 (by omega)
    rw [Int.zero_add, Nat.one_mul] at this
    rw [this, fl.sc_nat (2 ^ 53)]
    exact Nat.mul_le_mul_right _ (by omega)
  obtain ⟨a1, a2, _⟩ := fl.nar_rn f1 r53 hb
  obtain ⟨b1, b2, _⟩ := fl.nar_rn fl.one_ok.1 r0 (by rw [fl.one_ok.2, Int.natAbs_natCast]; exact Nat.le_refl _)
  rw [one32] at b2
  exact ⟨a1, b1, a2, b2⟩





end Go.Proofs.Ytgblgofmdhekiaa.Ab
