/-
  LeastTotal returns what the reference's returns, for all crowds, leaves them, and hands out what nobody else holds. No condition.
-/
import Derived.Test.YtgeglpommdckgaaRows
import Derived.Test.YtgeglpommdckgaaAbLaw
import Derived.Lib.SmallJoins
import Derived.Test.YtgeglpommdckgaaFnOI
namespace Go.Proofs.Ytgeglpommdckgaa.lwLeastTotal
open Go Go.ChangeShapes Go.WideShapes Go.ChangeAt Go.RowKit Go.Proofs.Ytgeglpommdckgaa.Ab
set_option linter.unusedVariables false
set_option linter.unusedSimpArgs false

theorem own : ownKnob Try.prog.godebug = none := by kernel_rfl
theorem laidOut : laidOutB Try.prog = true := by kernel_rfl

set_option maxRecDepth 100000 in
theorem lifted (os : Os) (started : os.Started) (H : Type) (enc : TypeId × Value → H) :
    ReturnsInHanded {} Try.checked os 5 .any (Rows.fnExactLeastTotalSpec.pre6 enc Try.prog Try.f5 Rows.fnExactLeastTotalRow.domain false) (Rows.fnExactLeastTotalSpec.post enc Try.prog Try.f5 false true false false) := by
  refine returnsInHanded_of_change (C := Try.checked) own started (by kernel_rfl) Try.func5
    (ChangeSpec.witness6 (enc := enc) (C := Try.checked) false ⟨#[], #[.agg #[.int .i64 0, .int .i64 0, .slice none 0 0, .slice none 0 0]], []⟩ 8 (by kernel_rfl) (by kernel_rfl) (by kernel_rfl) (by kernel_rfl)) ?_
  intro W base args ds gs before hval0 hW hcnd _
  have hval : ∀ (j : Nat) t v, Try.f5.params[j]? = some t → args[j]? = some v → Value.okWide Try.prog W .any base t v := hval0
  have hpost : ∀ W' : World, Below W.heap.size W W' → Rows.fnExactLeastTotalSpec.post enc Try.prog Try.f5 false true false false W args (.bool true) W' := fun W' hb =>
    law_post laidOut (tb := 4) (by decide +kernel) (by kernel_rfl) (by kernel_rfl) rfl (fun ds h => by match ds, h with | [_], _ => rfl) hW hb
  obtain ⟨p, q, hA0, hV, rfl, hfz, hnd⟩ := hW
  have hA : DataW.TrodAll enc Try.prog W 0 (fun _ => true) true Try.f5.params.toList args.toList ds p := hA0
  rw [Try.params5] at hA hval
  obtain ⟨v0, vs0, d0, ds0, p0, q0, hargs, rfl, rfl, h0, r0⟩ := trodAll_cons hA
  obtain ⟨rfl, rfl, rfl⟩ := trodAll_nil r0
  obtain rfl : args = #[v0] := by cases args; simp_all
  obtain ⟨c00, c01, c02, c03, y00, y01, y02, y03, fu0, rfl, rfl, rfl, k00, k01, k02, k03⟩ := Joins.open_agg4 Try.underlying24 (by kernel_rfl) (by kernel_rfl) (hval 0 24 v0 rfl rfl) h0
  obtain ⟨u0, wu0, au0⟩ := int_of Try.underlying2 k00
  obtain ⟨r0', wr0, ar0⟩ := int_of Try.underlying2 k01
  obtain ⟨ws0, ww0, lw0, aw0⟩ := ints_of Try.underlying22 Try.underlying2 (by kernel_rfl) k02
  obtain ⟨cs0, wc0, lc0, ac0⟩ := ints_of Try.underlying22 Try.underlying2 (by kernel_rfl) k03
  have ax0 : Arg W (.agg #[c00, c01, c02, c03]) (.agg [.int .i64 u0, .int .i64 r0', .ro (.ints .i64 ws0) ws0.length 1, .ro (.ints .i64 cs0) cs0.length 1]) :=
    arg_agg (@VRs.cons noForb [] [] W _ _ _ _ au0 (@VRs.cons noForb [] [] W _ _ _ _ ar0 (@VRs.cons noForb [] [] W _ _ _ _ aw0 (@VRs.cons noForb [] [] W _ _ _ _ ac0 (@VRs.nil noForb [] [] W)))))
  have hargs' : @VRs noForb [] [] W [(.agg [.int .i64 u0, .int .i64 r0', .ro (.ints .i64 ws0) ws0.length 1, .ro (.ints .i64 cs0) cs0.length 1])] (#[.agg #[c00, c01, c02, c03]] : Array Value).toList := (@VRs.cons noForb [] [] W _ _ _ _ ax0 (@VRs.nil noForb [] [] W))
  exact (law_calls FnExactLeastTotal.ok (us := [(.agg [.int .i64 u0, .int .i64 r0', .ro (.ints .i64 ws0) ws0.length 1, .ro (.ints .i64 cs0) cs0.length 1])]) (new := []) (by simp [FnExactLeastTotal.R, lw0, lc0]) hargs').mono fun e W' ⟨he, hb⟩ => ⟨_, he, hpost W' hb⟩

/-! The program's words, one by one: all at once they are too much for the kernel. -/
def w0 : List Char := [104, 97, 114, 110, 101, 115, 115].map Char.ofNat
def w1 : List Char := [52, 50, 100, 100, 52, 97, 53, 53, 48, 56, 100, 98, 49, 53, 102, 54, 102, 51, 51, 101, 97, 102, 55, 49, 97, 48, 99, 102, 99, 55, 51, 101, 99, 98, 99, 100, 55, 98, 98, 56, 53, 49, 101, 98, 97, 53, 99, 100, 57, 51, 100, 99, 48, 53, 48, 100, 100, 53, 97, 56, 51, 51, 100, 49].map Char.ofNat
def w2 : List Char := [99, 117, 116].map Char.ofNat
def w3 : List Char := [97, 116, 32, 108, 111, 111, 112, 46, 101, 120, 97, 109, 112, 108, 101, 47, 103, 48, 49, 51, 54, 53, 47, 108, 97, 119, 115, 46, 70, 110, 69, 120, 97, 99, 116, 84, 111, 108, 108, 115, 79, 102, 32, 108, 111, 111, 112, 46, 101, 120, 97, 109, 112, 108, 101, 47, 103, 48, 49, 51, 54, 53, 47, 108, 97, 119, 115, 46, 70, 110, 69, 120, 97, 99, 116, 77, 111, 114, 101, 67, 111, 115, 116, 115, 32, 108, 111, 111, 112, 46, 101, 120, 97, 109, 112, 108, 101, 47, 103, 48, 49, 51, 54, 53, 47, 108, 97, 119, 115, 46, 70, 110, 69, 120, 97, 99, 116, 76, 101, 97, 115, 116, 84, 111, 116, 97, 108, 32, 108, 111, 111, 112, 46, 101, 120, 97, 109, 112, 108, 101, 47, 103, 48, 49, 51, 54, 53, 47, 108, 97, 119, 115, 46, 70, 110, 69, 120, 97, 99, 116, 69, 118, 101, 110, 70, 108, 111, 119, 32, 108, 111, 111, 112, 46, 101, 120, 97, 109, 112, 108, 101, 47, 103, 48, 49, 51, 54, 53, 47, 108, 97, 119, 115, 46, 70, 110, 69, 120, 97, 99, 116, 84, 111, 108, 108, 101, 100, 70, 108, 111, 119, 32, 108, 111, 111, 112, 46, 101, 120, 97, 109, 112, 108, 101, 47, 103, 48, 49, 51, 54, 53, 47, 108, 97, 119, 115, 46, 70, 110, 70, 108, 111, 119, 105, 110, 103].map Char.ofNat
theorem io : Try.prog.initOrder = String.ofList (w0 ++ Char.ofNat 32 :: (w1 ++ Char.ofNat 32 :: (w2 ++ Char.ofNat 32 :: w3))) := by kernel_rfl
theorem words : behindMainWord (wordsSigns Try.prog.initOrder.toList) = w2 :: wordsSigns w3 := by
  rw [io, String.toList_ofList, ws_app _ w0 (by decide +kernel), ws_app _ w1 (by decide +kernel), ws_app _ w2 (by decide +kernel)]
  kernel_rfl
theorem strips (rest : List (List Char)) : stripLifts liftWords (w2 :: rest) = ([], w2 :: rest) := by kernel_rfl
theorem enters : Try.prog.mayEnter = true := words_enter Try.prog w2 (wordsSigns w3) words (by kernel_rfl) (by kernel_rfl) (by kernel_rfl) (strips _) (by kernel_rfl) (by kernel_rfl) (by kernel_rfl) (by kernel_rfl)
theorem finals : Try.prog.liftsFinal = false := words_finals Try.prog w2 (wordsSigns w3) words (by kernel_rfl) (strips _) (by kernel_rfl)
theorem makes : Try.prog.make = some .cut := words_make Try.prog w2 (wordsSigns w3) words (by kernel_rfl) (by kernel_rfl) (by kernel_rfl)
theorem facts : joinedFacts Try.prog 5 Try.f5 Rows.fnExactLeastTotalSpec Rows.fnExactLeastTotalRow = true := by
  unfold joinedFacts
  rw [enters, finals, makes]
  kernel_rfl

theorem proved : Rows.FnExactLeastTotalSaid :=
  OpenClaim.holds_of_wide 5 Try.f5 rfl rfl rfl rfl rfl rfl rfl ⟨rfl, rfl, rfl, rfl, rfl⟩ rfl rfl rfl rfl rfl (by kernel_rfl) Try.func5 facts
    (of_decide_eq_true (by kernel_rfl)) (by unfold Func.isWrapper; first | (rw [if_pos (by decide +kernel)]; kernel_rfl) | (rw [if_neg (by decide +kernel)]; exact ⟨rfl, rfl⟩))
    (fun os started H enc _ => lifted os started H enc)

end Go.Proofs.Ytgeglpommdckgaa.lwLeastTotal
