/-
  The abstract machine: the square root of a double, carried out at once.
-/
import Derived.Test.YtjhofofieiiplaaGreatDoorAbExt
namespace Go.Proofs.YtjhofofieiiplaaGreatDoor.Ab
open Go
set_option linter.unusedVariables false
set_option linter.unusedSimpArgs false

def sqr.ok.sp (b : Nat) : Bool := num64.sp b && (FloatKind.f64.format.sqrt b).isSome
def sqr.sv (b : Nat) : Nat := (FloatKind.f64.format.sqrt b).getD 0
/-- The square root. -/
def orcS (fs : FuncId) : OrcK := fun f args _ => bif eqN f fs then (match args with
  | [.flt .f64 b] => some (sqr.ok.sp b, .flt .f64 (sqr.sv b), .ext [])
  | _ => none) else none

instance orcS_loc (fs : FuncId) : OrcLoc (orcS fs) := by
  refine ⟨?_⟩
  intro f args H H' b v h l hl hn
  unfold orcS at h
  cases h1 : eqN f fs with
  | true => simp only [h1, cond_true] at h; split at h <;> simp at h
  | false => simp only [h1, cond_false] at h; cases h
instance orcS_ren (fs : FuncId) : OrcRen (orcS fs) := by
  refine ⟨?_⟩
  intro f G H H2 r g args b v n h
  unfold orcS at h ⊢
  cases h1 : eqN g fs with
  | true =>
    simp only [h1, cond_true] at h ⊢
    split at h
    · simp only [Option.some.injEq, Prod.mk.injEq, Eff.ext.injEq] at h
      obtain ⟨rfl, rfl, rfl⟩ := h
      rfl
    · cases h
  | false => simp only [h1, cond_false] at h; cases h

theorem orcS_ok {P : Program} {fs : FuncId} (hb : IsBits P fs Extern.MathSqrt.sqrt) : OrcOk P (orcS fs).plain := by
  intro f args H v H' hh
  simp only [OrcK.plain, orcS, eqN_eq] at hh
  cases h1 : f == fs with
  | true =>
    obtain rfl : f = fs := by simpa using h1
    simp only [h1, cond_true] at hh
    split at hh
    · rename_i b u e hr
      split at hr
      · rename_i x
        simp only [Option.some.injEq, Prod.mk.injEq] at hr
        obtain ⟨hx, rfl, rfl⟩ := hr
        subst hx
        cases hn : sqr.ok.sp x with
        | false => simp [hn] at hh
        | true =>
          simp only [hn, cond_true, Option.some.injEq, Prod.mk.injEq, Eff.heap] at hh
          obtain ⟨rfl, rfl⟩ := hh
          unfold sqr.ok.sp at hn
          rw [Bool.and_eq_true] at hn
          obtain ⟨hn, hs⟩ := hn
          refine ⟨?_⟩
          intro F ρ w cargs S hargs gl
          obtain ⟨c1, cs1, e1, v1, hv1⟩ := hargs.inv_cons
          obtain rfl := hv1.inv_nil
          obtain rfl : cargs = #[c1] := by cases cargs; simpa using e1
          cases v1
          rename_i y hs'
          have hxy : x = y := by
            rcases hs' with h | ⟨h, _⟩
            · exact h
            · unfold num64.sp at hn
              obtain ⟨s, q, hq⟩ := nan_of h
              have hq2 : FloatKind.f64.decode x = .nan s q := hq
              rw [hq2] at hn; cases hn
          subst hxy
          obtain ⟨fn, k1, k2, k3, k4, k5⟩ := hb.ex
          have hr : (callFunc f #[.float .f64 x]).run P w = .ok (.value (.float .f64 (sqr.sv x))) w := by
            rw [run_callFunc_extern k1 k2 k3 k4 k5]
            obtain ⟨r, hr⟩ := Option.isSome_iff_exists.mp hs
            have e : Extern.MathSqrt.sqrt #[.float .f64 x] = (match FloatKind.f64.format.sqrt x with
              | some r => pure (.float .f64 r)
              | none => do pure (.float .f64 (← choose (.nanBits .f64 x x)))) := rfl
            rw [e, hr]
            unfold sqr.sv
            rw [hr]; rfl
          exact outs_value S (.flt _ _ _ (.inl rfl)) hr
      · cases hr
    · cases hh
  | false => simp only [h1, cond_false] at hh; cases hh

end Go.Proofs.YtjhofofieiiplaaGreatDoor.Ab
