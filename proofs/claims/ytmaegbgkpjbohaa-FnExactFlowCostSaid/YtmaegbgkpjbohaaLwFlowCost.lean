/-
  FlowCost returns what the reference's returns, for all lists of floats, and leaves them. No condition.
-/
import Derived.Test.YtmaegbgkpjbohaaRows
import Derived.Test.YtmaegbgkpjbohaaAbLaw
import Derived.Lib.SmallJoins
import Derived.Test.YtmaegbgkpjbohaaFnM
namespace Go.Proofs.Ytmaegbgkpjbohaa.lwFlowCost
open Go Go.ChangeShapes Go.WideShapes Go.ChangeAt Go.RowKit Go.Proofs.Ytmaegbgkpjbohaa.Ab
set_option linter.unusedVariables false
set_option linter.unusedSimpArgs false

theorem own : ownKnob Try.prog.godebug = none := by kernel_rfl
theorem laidOut : laidOutB Try.prog = true := by kernel_rfl

set_option maxRecDepth 100000 in
theorem lifted (os : Os) (started : os.Started) (H : Type) (enc : TypeId × Value → H) :
    ReturnsInHanded {} Try.checked os 9 .any (Rows.fnExactFlowCostSpec.pre6 enc Try.prog Try.f9 Rows.fnExactFlowCostRow.domain false) (Rows.fnExactFlowCostSpec.post enc Try.prog Try.f9 false true false false) := by
  refine returnsInHanded_of_change (C := Try.checked) own started (by kernel_rfl) Try.func9
    (ChangeSpec.witness6 (enc := enc) (C := Try.checked) false ⟨#[], #[.slice none 0 0, .slice none 0 0, .slice none 0 0], []⟩ 8 (by kernel_rfl) (by kernel_rfl) (by kernel_rfl) (by kernel_rfl)) ?_
  intro W base args ds gs before hval0 hW hcnd _
  have hval : ∀ (j : Nat) t v, Try.f9.params[j]? = some t → args[j]? = some v → Value.okWide Try.prog W .any base t v := hval0
  have hpost : ∀ W' : World, Below W.heap.size W W' → Rows.fnExactFlowCostSpec.post enc Try.prog Try.f9 false true false false W args (.bool true) W' := fun W' hb =>
    law_post laidOut (tb := 4) (by decide +kernel) (by kernel_rfl) (by kernel_rfl) rfl (fun ds h => by match ds, h with | [_, _, _], _ => rfl) hW hb
  obtain ⟨p, q, hA0, hV, rfl, hfz, hnd⟩ := hW
  have hA : DataW.TrodAll enc Try.prog W 0 (fun _ => true) true Try.f9.params.toList args.toList ds p := hA0
  rw [Try.params9] at hA hval
  obtain ⟨v0, vs0, d0, ds0, p0, q0, hargs, rfl, rfl, h0, r0⟩ := trodAll_cons hA
  obtain ⟨v1, vs1, d1, ds1, p1, q1, rfl, rfl, rfl, h1, r1⟩ := trodAll_cons r0
  obtain ⟨v2, vs2, d2, ds2, p2, q2, rfl, rfl, rfl, h2, r2⟩ := trodAll_cons r1
  obtain ⟨rfl, rfl, rfl⟩ := trodAll_nil r2
  obtain rfl : args = #[v0, v1, v2] := by cases args; simp_all
  obtain ⟨xs0, lx0, ax0⟩ := arg_flts Try.underlying41 Try.underlying42 (by kernel_rfl) (hval 0 41 v0 rfl rfl) h0
  obtain ⟨xs1, lx1, ax1⟩ := arg_flts Try.underlying41 Try.underlying42 (by kernel_rfl) (hval 1 41 v1 rfl rfl) h1
  obtain ⟨xs2, lx2, ax2⟩ := arg_flts Try.underlying41 Try.underlying42 (by kernel_rfl) (hval 2 41 v2 rfl rfl) h2
  have hargs' : @VRs noForb [] [] W [.ro (.flts .f32 xs0) xs0.length 1, .ro (.flts .f32 xs1) xs1.length 1, .ro (.flts .f32 xs2) xs2.length 1] (#[v0, v1, v2] : Array Value).toList := (@VRs.cons noForb [] [] W _ _ _ _ ax0 (@VRs.cons noForb [] [] W _ _ _ _ ax1 (@VRs.cons noForb [] [] W _ _ _ _ ax2 (@VRs.nil noForb [] [] W))))
  exact (law_calls FnExactFlowCost.ok (us := [.ro (.flts .f32 xs0) xs0.length 1, .ro (.flts .f32 xs1) xs1.length 1, .ro (.flts .f32 xs2) xs2.length 1]) (new := []) (by simp [FnExactFlowCost.R, lx0, lx1, lx2]) hargs').mono fun e W' ⟨he, hb⟩ => ⟨_, he, hpost W' hb⟩

theorem proved : Rows.FnExactFlowCostSaid :=
  OpenClaim.holds_of_wide 9 Try.f9 rfl rfl rfl rfl rfl rfl rfl ⟨rfl, rfl, rfl, rfl, rfl⟩ rfl rfl rfl rfl rfl (by kernel_rfl) Try.func9 (by kernel_rfl)
    (of_decide_eq_true (by kernel_rfl)) (by unfold Func.isWrapper; first | (rw [if_pos (by decide +kernel)]; kernel_rfl) | (rw [if_neg (by decide +kernel)]; exact ⟨rfl, rfl⟩))
    (fun os started H enc _ => lifted os started H enc)

end Go.Proofs.Ytmaegbgkpjbohaa.lwFlowCost
