/-
  ProductPoint returns what the reference's returns, for every list of integers and all integers, and leaves the list. No condition.
-/
import Derived.Test.YtmaegbgkpjbohaaRows
import Derived.Test.YtmaegbgkpjbohaaAbLaw
import Derived.Lib.SmallJoins
import Derived.Test.YtmaegbgkpjbohaaFnO
namespace Go.Proofs.Ytmaegbgkpjbohaa.lwProductPoint
open Go Go.ChangeShapes Go.WideShapes Go.ChangeAt Go.RowKit Go.Proofs.Ytmaegbgkpjbohaa.Ab
set_option linter.unusedVariables false
set_option linter.unusedSimpArgs false

theorem own : ownKnob Try.prog.godebug = none := by kernel_rfl
theorem laidOut : laidOutB Try.prog = true := by kernel_rfl

set_option maxRecDepth 100000 in
theorem lifted (os : Os) (started : os.Started) (H : Type) (enc : TypeId × Value → H) :
    ReturnsInHanded {} Try.checked os 11 .any (Rows.fnExactProductPointSpec.pre6 enc Try.prog Try.f11 Rows.fnExactProductPointRow.domain false) (Rows.fnExactProductPointSpec.post enc Try.prog Try.f11 false true false false) := by
  refine returnsInHanded_of_change (C := Try.checked) own started (by kernel_rfl) Try.func11
    (ChangeSpec.witness6 (enc := enc) (C := Try.checked) false ⟨#[], #[.slice none 0 0, .int .i64 0, .int .i64 0], []⟩ 8 (by kernel_rfl) (by kernel_rfl) (by kernel_rfl) (by kernel_rfl)) ?_
  intro W base args ds gs before hval0 hW hcnd _
  have hval : ∀ (j : Nat) t v, Try.f11.params[j]? = some t → args[j]? = some v → Value.okWide Try.prog W .any base t v := hval0
  have hpost : ∀ W' : World, Below W.heap.size W W' → Rows.fnExactProductPointSpec.post enc Try.prog Try.f11 false true false false W args (.bool true) W' := fun W' hb =>
    law_post laidOut (tb := 4) (by decide +kernel) (by kernel_rfl) (by kernel_rfl) rfl (fun ds h => by match ds, h with | [_, _, _], _ => rfl) hW hb
  obtain ⟨p, q, hA0, hV, rfl, hfz, hnd⟩ := hW
  have hA : DataW.TrodAll enc Try.prog W 0 (fun _ => true) true Try.f11.params.toList args.toList ds p := hA0
  rw [Try.params11] at hA hval
  obtain ⟨v0, vs0, d0, ds0, p0, q0, hargs, rfl, rfl, h0, r0⟩ := trodAll_cons hA
  obtain ⟨v1, vs1, d1, ds1, p1, q1, rfl, rfl, rfl, h1, r1⟩ := trodAll_cons r0
  obtain ⟨v2, vs2, d2, ds2, p2, q2, rfl, rfl, rfl, h2, r2⟩ := trodAll_cons r1
  obtain ⟨rfl, rfl, rfl⟩ := trodAll_nil r2
  obtain rfl : args = #[v0, v1, v2] := by cases args; simp_all
  obtain ⟨xs0, wx0, lx0, ax0⟩ := arg_ints Try.underlying22 Try.underlying2 (by kernel_rfl) (hval 0 22 v0 rfl rfl) h0
  obtain ⟨n1, wn1, ax1⟩ := arg_int Try.underlying2 (hval 1 2 v1 rfl rfl) h1
  obtain ⟨n2, wn2, ax2⟩ := arg_int Try.underlying2 (hval 2 2 v2 rfl rfl) h2
  have hargs' : @VRs noForb [] [] W [.ro (.ints .i64 xs0) xs0.length 1, .int .i64 n1, .int .i64 n2] (#[v0, v1, v2] : Array Value).toList := (@VRs.cons noForb [] [] W _ _ _ _ ax0 (@VRs.cons noForb [] [] W _ _ _ _ ax1 (@VRs.cons noForb [] [] W _ _ _ _ ax2 (@VRs.nil noForb [] [] W))))
  exact (law_calls FnExactProductPoint.ok (us := [.ro (.ints .i64 xs0) xs0.length 1, .int .i64 n1, .int .i64 n2]) (new := []) (by simp [FnExactProductPoint.R, lx0]) hargs').mono fun e W' ⟨he, hb⟩ => ⟨_, he, hpost W' hb⟩

theorem proved : Rows.FnExactProductPointSaid :=
  OpenClaim.holds_of_wide 11 Try.f11 rfl rfl rfl rfl rfl rfl rfl ⟨rfl, rfl, rfl, rfl, rfl⟩ rfl rfl rfl rfl rfl (by kernel_rfl) Try.func11 (by kernel_rfl)
    (of_decide_eq_true (by kernel_rfl)) (by unfold Func.isWrapper; first | (rw [if_pos (by decide +kernel)]; kernel_rfl) | (rw [if_neg (by decide +kernel)]; exact ⟨rfl, rfl⟩))
    (fun os started H enc _ => lifted os started H enc)

end Go.Proofs.Ytmaegbgkpjbohaa.lwProductPoint
