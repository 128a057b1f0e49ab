/-
  AreBallots returns what the reference's returns, for all lists of lists of integers, and leaves them. No condition.
-/
import Derived.Test.YtmaegbgkpjbohaaRows
import Derived.Test.YtmaegbgkpjbohaaAbLaw
import Derived.Lib.SmallJoins
import Derived.Test.YtmaegbgkpjbohaaFnQ
namespace Go.Proofs.Ytmaegbgkpjbohaa.lwAreBallots
open Go Go.ChangeShapes Go.WideShapes Go.ChangeAt Go.RowKit Go.Proofs.Ytmaegbgkpjbohaa.Ab
set_option linter.unusedVariables false
set_option linter.unusedSimpArgs false

theorem own : ownKnob Try.prog.godebug = none := by kernel_rfl
theorem laidOut : laidOutB Try.prog = true := by kernel_rfl

set_option maxRecDepth 100000 in
theorem lifted (os : Os) (started : os.Started) (H : Type) (enc : TypeId × Value → H) :
    ReturnsInHanded {} Try.checked os 12 .any (Rows.fnExactAreBallotsSpec.pre6 enc Try.prog Try.f12 Rows.fnExactAreBallotsRow.domain false) (Rows.fnExactAreBallotsSpec.post enc Try.prog Try.f12 false true false false) := by
  refine returnsInHanded_of_change (C := Try.checked) own started (by kernel_rfl) Try.func12
    (ChangeSpec.witness6 (enc := enc) (C := Try.checked) false ⟨#[], #[.slice none 0 0], []⟩ 8 (by kernel_rfl) (by kernel_rfl) (by kernel_rfl) (by kernel_rfl)) ?_
  intro W base args ds gs before hval0 hW hcnd _
  have hval : ∀ (j : Nat) t v, Try.f12.params[j]? = some t → args[j]? = some v → Value.okWide Try.prog W .any base t v := hval0
  have hpost : ∀ W' : World, Below W.heap.size W W' → Rows.fnExactAreBallotsSpec.post enc Try.prog Try.f12 false true false false W args (.bool true) W' := fun W' hb =>
    law_post laidOut (tb := 4) (by decide +kernel) (by kernel_rfl) (by kernel_rfl) rfl (fun ds h => by match ds, h with | [_], _ => rfl) hW hb
  obtain ⟨p, q, hA0, hV, rfl, hfz, hnd⟩ := hW
  have hA : DataW.TrodAll enc Try.prog W 0 (fun _ => true) true Try.f12.params.toList args.toList ds p := hA0
  rw [Try.params12] at hA hval
  obtain ⟨v0, vs0, d0, ds0, p0, q0, hargs, rfl, rfl, h0, r0⟩ := trodAll_cons hA
  obtain ⟨rfl, rfl, rfl⟩ := trodAll_nil r0
  obtain rfl : args = #[v0] := by cases args; simp_all
  obtain ⟨xs0, lx0, wx0, ax0⟩ := arg_rows Try.underlying53 Try.underlying22 Try.underlying2 (by kernel_rfl) (by kernel_rfl) (hval 0 53 v0 rfl rfl) h0
  have sx0 : short.sp 9223372036854775807 xs0 = true := by simp only [short.sp, List.all_eq_true, decide_eq_true_eq]; exact fun r hr => (wx0 r hr).1
  have hargs' : @VRs noForb [] [] W [.ro (.rows .i64 xs0) xs0.length 1] (#[v0] : Array Value).toList := (@VRs.cons noForb [] [] W _ _ _ _ ax0 (@VRs.nil noForb [] [] W))
  exact (law_calls FnExactAreBallots.ok (us := [.ro (.rows .i64 xs0) xs0.length 1]) (new := []) (by simp [FnExactAreBallots.R, lx0, sx0]) hargs').mono fun e W' ⟨he, hb⟩ => ⟨_, he, hpost W' hb⟩

theorem proved : Rows.FnExactAreBallotsSaid :=
  OpenClaim.holds_of_wide 12 Try.f12 rfl rfl rfl rfl rfl rfl rfl ⟨rfl, rfl, rfl, rfl, rfl⟩ rfl rfl rfl rfl rfl (by kernel_rfl) Try.func12 (by kernel_rfl)
    (of_decide_eq_true (by kernel_rfl)) (by unfold Func.isWrapper; first | (rw [if_pos (by decide +kernel)]; kernel_rfl) | (rw [if_neg (by decide +kernel)]; exact ⟨rfl, rfl⟩))
    (fun os started H enc _ => lifted os started H enc)

end Go.Proofs.Ytmaegbgkpjbohaa.lwAreBallots
