/-
  AgreeRounds returns what the reference's returns, for all lists of floats, floats and integers, leaves them, and hands out what nobody else holds. No condition.
-/
import Derived.Test.YtdnnpdmeklpcoaaRows
import Derived.Test.YtdnnpdmeklpcoaaAbLaw
import Derived.Lib.SmallJoins
import Derived.Test.YtdnnpdmeklpcoaaFnML
namespace Go.Proofs.Ytdnnpdmeklpcoaa.lwAgreeRounds
open Go Go.ChangeShapes Go.WideShapes Go.ChangeAt Go.RowKit Go.Proofs.Ytdnnpdmeklpcoaa.Ab
set_option linter.unusedVariables false
set_option linter.unusedSimpArgs false

theorem own : ownKnob Try.prog.godebug = none := by kernel_rfl
theorem laidOut : laidOutB Try.prog = true := by kernel_rfl

set_option maxRecDepth 100000 in
theorem lifted (os : Os) (started : os.Started) (H : Type) (enc : TypeId × Value → H) :
    ReturnsInHanded {} Try.checked os 5 .any (Rows.fnExactAgreeRoundsSpec.pre6 enc Try.prog Try.f5 Rows.fnExactAgreeRoundsRow.domain false) (Rows.fnExactAgreeRoundsSpec.post enc Try.prog Try.f5 false true false false) := by
  refine returnsInHanded_of_change (C := Try.checked) own started (by kernel_rfl) Try.func5
    (ChangeSpec.witness6 (enc := enc) (C := Try.checked) false ⟨#[], #[.slice none 0 0, .float .f32 0, .float .f32 0, .int .i64 0], []⟩ 8 (by kernel_rfl) (by kernel_rfl) (by kernel_rfl) (by kernel_rfl)) ?_
  intro W base args ds gs before hval0 hW hcnd _
  have hval : ∀ (j : Nat) t v, Try.f5.params[j]? = some t → args[j]? = some v → Value.okWide Try.prog W .any base t v := hval0
  have hpost : ∀ W' : World, Below W.heap.size W W' → Rows.fnExactAgreeRoundsSpec.post enc Try.prog Try.f5 false true false false W args (.bool true) W' := fun W' hb =>
    law_post laidOut (tb := 4) (by decide +kernel) (by kernel_rfl) (by kernel_rfl) rfl (fun ds h => by match ds, h with | [_, _, _, _], _ => rfl) hW hb
  obtain ⟨p, q, hA0, hV, rfl, hfz, hnd⟩ := hW
  have hA : DataW.TrodAll enc Try.prog W 0 (fun _ => true) true Try.f5.params.toList args.toList ds p := hA0
  rw [Try.params5] at hA hval
  obtain ⟨v0, vs0, d0, ds0, p0, q0, hargs, rfl, rfl, h0, r0⟩ := trodAll_cons hA
  obtain ⟨v1, vs1, d1, ds1, p1, q1, rfl, rfl, rfl, h1, r1⟩ := trodAll_cons r0
  obtain ⟨v2, vs2, d2, ds2, p2, q2, rfl, rfl, rfl, h2, r2⟩ := trodAll_cons r1
  obtain ⟨v3, vs3, d3, ds3, p3, q3, rfl, rfl, rfl, h3, r3⟩ := trodAll_cons r2
  obtain ⟨rfl, rfl, rfl⟩ := trodAll_nil r3
  obtain rfl : args = #[v0, v1, v2, v3] := by cases args; simp_all
  obtain ⟨xs0, lx0, ax0⟩ := arg_flts Try.underlying22 Try.underlying23 (by kernel_rfl) (hval 0 22 v0 rfl rfl) h0
  obtain ⟨n1, ax1⟩ := arg_flt Try.underlying23 (hval 1 23 v1 rfl rfl) h1
  obtain ⟨n2, ax2⟩ := arg_flt Try.underlying23 (hval 2 23 v2 rfl rfl) h2
  obtain ⟨n3, wn3, ax3⟩ := arg_int Try.underlying2 (hval 3 2 v3 rfl rfl) h3
  have hargs' : @VRs noForb [] [] W [.ro (.flts .f32 xs0) xs0.length 1, .flt .f32 n1, .flt .f32 n2, .int .i64 n3] (#[v0, v1, v2, v3] : Array Value).toList := (@VRs.cons noForb [] [] W _ _ _ _ ax0 (@VRs.cons noForb [] [] W _ _ _ _ ax1 (@VRs.cons noForb [] [] W _ _ _ _ ax2 (@VRs.cons noForb [] [] W _ _ _ _ ax3 (@VRs.nil noForb [] [] W)))))
  exact (law_calls FnExactAgreeRounds.ok (us := [.ro (.flts .f32 xs0) xs0.length 1, .flt .f32 n1, .flt .f32 n2, .int .i64 n3]) (new := []) (by simp [FnExactAgreeRounds.R, lx0]) hargs').mono fun e W' ⟨he, hb⟩ => ⟨_, he, hpost W' hb⟩

/-! The program's words, one by one: all at once they are too much for the kernel. -/
def w0 : List Char := [104, 97, 114, 110, 101, 115, 115].map Char.ofNat
def w1 : List Char := [56, 102, 49, 98, 50, 51, 54, 98, 52, 97, 53, 54, 57, 98, 99, 54, 98, 99, 101, 53, 56, 49, 48, 55, 54, 53, 53, 98, 56, 51, 102, 102, 53, 98, 100, 54, 98, 50, 102, 49, 97, 99, 56, 100, 97, 97, 52, 101, 101, 55, 50, 102, 51, 57, 52, 100, 55, 50, 98, 49, 48, 53, 54, 48].map Char.ofNat
def w2 : List Char := [99, 117, 116].map Char.ofNat
def w3 : List Char := [97, 116, 32, 108, 111, 111, 112, 46, 101, 120, 97, 109, 112, 108, 101, 47, 103, 48, 49, 51, 54, 53, 47, 108, 97, 119, 115, 46, 70, 110, 69, 120, 97, 99, 116, 65, 103, 114, 101, 101, 79, 110, 99, 101, 32, 108, 111, 111, 112, 46, 101, 120, 97, 109, 112, 108, 101, 47, 103, 48, 49, 51, 54, 53, 47, 108, 97, 119, 115, 46, 70, 110, 69, 120, 97, 99, 116, 65, 114, 114, 111, 119, 115, 79, 102, 32, 108, 111, 111, 112, 46, 101, 120, 97, 109, 112, 108, 101, 47, 103, 48, 49, 51, 54, 53, 47, 108, 97, 119, 115, 46, 70, 110, 69, 120, 97, 99, 116, 65, 103, 114, 101, 101, 82, 111, 117, 110, 100, 115, 32, 108, 111, 111, 112, 46, 101, 120, 97, 109, 112, 108, 101, 47, 103, 48, 49, 51, 54, 53, 47, 108, 97, 119, 115, 46, 70, 110, 65, 114, 114, 111, 119, 115, 65, 103, 114, 101, 101].map Char.ofNat
theorem io : Try.prog.initOrder = String.ofList (w0 ++ Char.ofNat 32 :: (w1 ++ Char.ofNat 32 :: (w2 ++ Char.ofNat 32 :: w3))) := by kernel_rfl
theorem words : behindMainWord (wordsSigns Try.prog.initOrder.toList) = w2 :: wordsSigns w3 := by
  rw [io, String.toList_ofList, ws_app _ w0 (by decide +kernel), ws_app _ w1 (by decide +kernel), ws_app _ w2 (by decide +kernel)]
  kernel_rfl
theorem strips (rest : List (List Char)) : stripLifts liftWords (w2 :: rest) = ([], w2 :: rest) := by kernel_rfl
theorem enters : Try.prog.mayEnter = true := words_enter Try.prog w2 (wordsSigns w3) words (by kernel_rfl) (by kernel_rfl) (by kernel_rfl) (strips _) (by kernel_rfl) (by kernel_rfl) (by kernel_rfl) (by kernel_rfl)
theorem finals : Try.prog.liftsFinal = false := words_finals Try.prog w2 (wordsSigns w3) words (by kernel_rfl) (strips _) (by kernel_rfl)
theorem makes : Try.prog.make = some .cut := words_make Try.prog w2 (wordsSigns w3) words (by kernel_rfl) (by kernel_rfl) (by kernel_rfl)
theorem facts : joinedFacts Try.prog 5 Try.f5 Rows.fnExactAgreeRoundsSpec Rows.fnExactAgreeRoundsRow = true := by
  unfold joinedFacts
  rw [enters, finals, makes]
  kernel_rfl

theorem proved : Rows.FnExactAgreeRoundsSaid :=
  OpenClaim.holds_of_wide 5 Try.f5 rfl rfl rfl rfl rfl rfl rfl ⟨rfl, rfl, rfl, rfl, rfl⟩ rfl rfl rfl rfl rfl (by kernel_rfl) Try.func5 facts
    (of_decide_eq_true (by kernel_rfl)) (by unfold Func.isWrapper; first | (rw [if_pos (by decide +kernel)]; kernel_rfl) | (rw [if_neg (by decide +kernel)]; exact ⟨rfl, rfl⟩))
    (fun os started H enc _ => lifted os started H enc)

end Go.Proofs.Ytdnnpdmeklpcoaa.lwAgreeRounds
