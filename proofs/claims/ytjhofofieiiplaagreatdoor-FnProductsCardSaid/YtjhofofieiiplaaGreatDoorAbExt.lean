/-
  The abstract machine: calls that are carried out at once, the bits of a float and the float of some bits.
-/
import Derived.Test.YtjhofofieiiplaaGreatDoorAbSub
namespace Go.Proofs.YtjhofofieiiplaaGreatDoor.Ab
open Go
set_option linter.unusedVariables false
set_option linter.unusedSimpArgs false

def num64.sp (b : Nat) : Bool := match FloatKind.f64.decode b with
  | .number _ _ _ => true
  | _ => false
/-- The bits of a double, and the double of some bits. -/
def orcB (fb ff : FuncId) : OrcK := fun f args _ => bif eqN f fb then (match args with
  | [.flt .f64 b] => some (num64.sp b, .int .u64 (b : Int), .ext [])
  | _ => none) else bif eqN f ff then (match args with
  | [.int .u64 n] => some (true, .flt .f64 n.toNat, .ext [])
  | _ => none) else none
structure IsBits (P : Program) (f : FuncId) (e : Array Value → Sem Value) : Prop where
  ex : ∃ fn, P.funcs[f]? = some fn ∧ (fn.name == "runtime.NumGoroutine") = false ∧ fn.body.isNone = true ∧ Extern.findNext fn = none ∧ Extern.find fn = some e

instance orcB_loc (fb ff : FuncId) : OrcLoc (orcB fb ff) := by
  refine ⟨?_⟩
  intro f args H H' b v h l hl hn
  unfold orcB at h
  cases h1 : eqN f fb with
  | true => simp only [h1, cond_true] at h; split at h <;> simp at h
  | false =>
    cases h2 : eqN f ff with
    | true => simp only [h1, h2, cond_true, cond_false] at h; split at h <;> simp at h
    | false => simp only [h1, h2, cond_false] at h; cases h
instance orcB_ren (fb ff : FuncId) : OrcRen (orcB fb ff) := by
  refine ⟨?_⟩
  intro f G H H2 r g args b v n h
  unfold orcB at h ⊢
  cases h1 : eqN g fb with
  | true =>
    simp only [h1, cond_true] at h ⊢
    split at h
    · simp only [Option.some.injEq, Prod.mk.injEq, Eff.ext.injEq] at h
      obtain ⟨rfl, rfl, rfl⟩ := h
      rfl
    · cases h
  | false =>
    simp only [h1, cond_false] at h ⊢
    cases h2 : eqN g ff with
    | true =>
      simp only [h2, cond_true] at h ⊢
      split at h
      · simp only [Option.some.injEq, Prod.mk.injEq, Eff.ext.injEq] at h
        obtain ⟨rfl, rfl, rfl⟩ := h
        rfl
      · cases h
    | false => simp only [h2, cond_false] at h; cases h

theorem orcB_ok {P : Program} {fb ff : FuncId} (hb : IsBits P fb Extern.MathFloatBits.float64bits) (hf : IsBits P ff Extern.MathFloatBits.float64frombits) : OrcOk P (orcB fb ff).plain := by
  intro f args H v H' hh
  simp only [OrcK.plain, orcB, eqN_eq] at hh
  cases h1 : f == fb with
  | true =>
    obtain rfl : f = fb := by simpa using h1
    simp only [h1, cond_true] at hh
    split at hh
    · rename_i b u e hr
      split at hr
      · rename_i x
        simp only [Option.some.injEq, Prod.mk.injEq] at hr
        obtain ⟨hx, rfl, rfl⟩ := hr
        subst hx
        cases hn : num64.sp x with
        | false => simp [hn] at hh
        | true =>
          simp only [hn, cond_true, Option.some.injEq, Prod.mk.injEq, Eff.heap] at hh
          obtain ⟨rfl, rfl⟩ := hh
          refine ⟨?_⟩
          intro F ρ w cargs S hargs gl
          obtain ⟨c1, cs1, e1, v1, hv1⟩ := hargs.inv_cons
          obtain rfl := hv1.inv_nil
          obtain rfl : cargs = #[c1] := by cases cargs; simpa using e1
          cases v1
          rename_i y hs
          have hxy : x = y := by
            rcases hs with h | ⟨h, _⟩
            · exact h
            · unfold num64.sp at hn
              obtain ⟨s, q, hq⟩ := nan_of h
              have hq2 : FloatKind.f64.decode x = .nan s q := hq
              rw [hq2] at hn; cases hn
          subst hxy
          obtain ⟨fn, k1, k2, k3, k4, k5⟩ := hb.ex
          have hr : (callFunc f #[.float .f64 x]).run P w = .ok (.value (.int .u64 (x : Int))) w := by
            rw [run_callFunc_extern k1 k2 k3 k4 k5]; rfl
          exact outs_value S (.int _ _) hr
      · cases hr
    · cases hh
  | false =>
    simp only [h1, cond_false] at hh
    cases h2 : f == ff with
    | true =>
      obtain rfl : f = ff := by simpa using h2
      simp only [h2, cond_true] at hh
      split at hh
      · rename_i b u e hr
        split at hr
        · rename_i x
          simp only [Option.some.injEq, Prod.mk.injEq] at hr
          obtain ⟨rfl, rfl, rfl⟩ := hr
          simp only [cond_true, Option.some.injEq, Prod.mk.injEq, Eff.heap] at hh
          obtain ⟨rfl, rfl⟩ := hh
          refine ⟨?_⟩
          intro F ρ w cargs S hargs gl
          obtain ⟨c1, cs1, e1, v1, hv1⟩ := hargs.inv_cons
          obtain rfl := hv1.inv_nil
          obtain rfl : cargs = #[c1] := by cases cargs; simpa using e1
          cases v1
          obtain ⟨fn, k1, k2, k3, k4, k5⟩ := hf.ex
          have hr : (callFunc f #[.int .u64 x]).run P w = .ok (.value (.float .f64 x.toNat)) w := by
            rw [run_callFunc_extern k1 k2 k3 k4 k5]; rfl
          exact outs_value S (.flt _ _ _ (.inl rfl)) hr
        · cases hr
      · cases hh
    | false => simp only [h2, cond_false] at hh; cases hh

end Go.Proofs.YtjhofofieiiplaaGreatDoor.Ab
