/-
  ValidCrowd returns what the reference's returns, for all crowds, and leaves them. No condition.
-/
import Derived.Test.YtmaegbgkpjbohaaRows
import Derived.Test.YtmaegbgkpjbohaaAbLaw
import Derived.Lib.SmallJoins
import Derived.Test.YtmaegbgkpjbohaaFnI
namespace Go.Proofs.Ytmaegbgkpjbohaa.lwValidCrowd
open Go Go.ChangeShapes Go.WideShapes Go.ChangeAt Go.RowKit Go.Proofs.Ytmaegbgkpjbohaa.Ab
set_option linter.unusedVariables false
set_option linter.unusedSimpArgs false

theorem own : ownKnob Try.prog.godebug = none := by kernel_rfl
theorem laidOut : laidOutB Try.prog = true := by kernel_rfl

set_option maxRecDepth 100000 in
theorem lifted (os : Os) (started : os.Started) (H : Type) (enc : TypeId × Value → H) :
    ReturnsInHanded {} Try.checked os 7 .any (Rows.fnExactValidCrowdSpec.pre6 enc Try.prog Try.f7 Rows.fnExactValidCrowdRow.domain false) (Rows.fnExactValidCrowdSpec.post enc Try.prog Try.f7 false true false false) := by
  refine returnsInHanded_of_change (C := Try.checked) own started (by kernel_rfl) Try.func7
    (ChangeSpec.witness6 (enc := enc) (C := Try.checked) false ⟨#[], #[.agg #[.int .i64 0, .int .i64 0, .slice none 0 0, .slice none 0 0]], []⟩ 8 (by kernel_rfl) (by kernel_rfl) (by kernel_rfl) (by kernel_rfl)) ?_
  intro W base args ds gs before hval0 hW hcnd _
  have hval : ∀ (j : Nat) t v, Try.f7.params[j]? = some t → args[j]? = some v → Value.okWide Try.prog W .any base t v := hval0
  have hpost : ∀ W' : World, Below W.heap.size W W' → Rows.fnExactValidCrowdSpec.post enc Try.prog Try.f7 false true false false W args (.bool true) W' := fun W' hb =>
    law_post laidOut (tb := 4) (by decide +kernel) (by kernel_rfl) (by kernel_rfl) rfl (fun ds h => by match ds, h with | [_], _ => rfl) hW hb
  obtain ⟨p, q, hA0, hV, rfl, hfz, hnd⟩ := hW
  have hA : DataW.TrodAll enc Try.prog W 0 (fun _ => true) true Try.f7.params.toList args.toList ds p := hA0
  rw [Try.params7] at hA hval
  obtain ⟨v0, vs0, d0, ds0, p0, q0, hargs, rfl, rfl, h0, r0⟩ := trodAll_cons hA
  obtain ⟨rfl, rfl, rfl⟩ := trodAll_nil r0
  obtain rfl : args = #[v0] := by cases args; simp_all
  obtain ⟨c00, c01, c02, c03, y00, y01, y02, y03, fu0, rfl, rfl, rfl, k00, k01, k02, k03⟩ := Joins.open_agg4 Try.underlying28 (by kernel_rfl) (by kernel_rfl) (hval 0 28 v0 rfl rfl) h0
  obtain ⟨u0, wu0, au0⟩ := int_of Try.underlying2 k00
  obtain ⟨r0', wr0, ar0⟩ := int_of Try.underlying2 k01
  obtain ⟨ws0, ww0, lw0, aw0⟩ := ints_of Try.underlying22 Try.underlying2 (by kernel_rfl) k02
  obtain ⟨cs0, wc0, lc0, ac0⟩ := ints_of Try.underlying22 Try.underlying2 (by kernel_rfl) k03
  have ax0 : Arg W (.agg #[c00, c01, c02, c03]) (.agg [.int .i64 u0, .int .i64 r0', .ro (.ints .i64 ws0) ws0.length 1, .ro (.ints .i64 cs0) cs0.length 1]) :=
    arg_agg (@VRs.cons noForb [] [] W _ _ _ _ au0 (@VRs.cons noForb [] [] W _ _ _ _ ar0 (@VRs.cons noForb [] [] W _ _ _ _ aw0 (@VRs.cons noForb [] [] W _ _ _ _ ac0 (@VRs.nil noForb [] [] W)))))
  have hargs' : @VRs noForb [] [] W [(.agg [.int .i64 u0, .int .i64 r0', .ro (.ints .i64 ws0) ws0.length 1, .ro (.ints .i64 cs0) cs0.length 1])] (#[.agg #[c00, c01, c02, c03]] : Array Value).toList := (@VRs.cons noForb [] [] W _ _ _ _ ax0 (@VRs.nil noForb [] [] W))
  exact (law_calls FnExactValidCrowd.ok (us := [(.agg [.int .i64 u0, .int .i64 r0', .ro (.ints .i64 ws0) ws0.length 1, .ro (.ints .i64 cs0) cs0.length 1])]) (new := []) (by simp [FnExactValidCrowd.R, lw0, lc0]) hargs').mono fun e W' ⟨he, hb⟩ => ⟨_, he, hpost W' hb⟩

theorem proved : Rows.FnExactValidCrowdSaid :=
  OpenClaim.holds_of_wide 7 Try.f7 rfl rfl rfl rfl rfl rfl rfl ⟨rfl, rfl, rfl, rfl, rfl⟩ rfl rfl rfl rfl rfl (by kernel_rfl) Try.func7 (by kernel_rfl)
    (of_decide_eq_true (by kernel_rfl)) (by unfold Func.isWrapper; first | (rw [if_pos (by decide +kernel)]; kernel_rfl) | (rw [if_neg (by decide +kernel)]; exact ⟨rfl, rfl⟩))
    (fun os started H enc _ => lifted os started H enc)

end Go.Proofs.Ytmaegbgkpjbohaa.lwValidCrowd
