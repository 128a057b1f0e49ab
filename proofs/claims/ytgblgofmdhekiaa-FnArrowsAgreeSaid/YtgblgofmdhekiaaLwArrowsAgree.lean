/-
  The law of arrows holds for all bytes. No condition.
-/
import Derived.Test.YtgblgofmdhekiaaRows
import Derived.Test.YtgblgofmdhekiaaAbLaw
import Derived.Lib.SmallJoins
import Derived.Test.YtgblgofmdhekiaaFnAJ
import Derived.Test.YtgblgofmdhekiaaFnBy
namespace Go.Proofs.Ytgblgofmdhekiaa.lwArrowsAgree
open Go Go.ChangeShapes Go.WideShapes Go.ChangeAt Go.RowKit Go.Proofs.Ytgblgofmdhekiaa.Ab
set_option linter.unusedVariables false
set_option linter.unusedSimpArgs false

theorem own : ownKnob Try.prog.godebug = none := by kernel_rfl
theorem laidOut : laidOutB Try.prog = true := by kernel_rfl

set_option maxRecDepth 100000 in
theorem lifted (os : Os) (started : os.Started) (H : Type) (enc : TypeId × Value → H) :
    ReturnsInHanded {} Try.checked os 6 .any (Rows.fnArrowsAgreeSpec.pre6 enc Try.prog Try.f6 Rows.fnArrowsAgreeRow.domain false) (Rows.fnArrowsAgreeSpec.post enc Try.prog Try.f6 false true false false) := by
  refine returnsInHanded_of_change (C := Try.checked) own started (by kernel_rfl) Try.func6
    (ChangeSpec.witness6 (enc := enc) (C := Try.checked) false ⟨#[], #[.slice none 0 0, .slice none 0 0], []⟩ 8 (by kernel_rfl) (by kernel_rfl) (by kernel_rfl) (by kernel_rfl)) ?_
  intro W base args ds gs before hval0 hW hcnd _
  have hval : ∀ (j : Nat) t v, Try.f6.params[j]? = some t → args[j]? = some v → Value.okWide Try.prog W .any base t v := hval0
  have hpost : ∀ W' : World, Below W.heap.size W W' → Rows.fnArrowsAgreeSpec.post enc Try.prog Try.f6 false true false false W args (.bool true) W' := fun W' hb =>
    law_post laidOut (tb := 4) (by decide +kernel) (by kernel_rfl) (by kernel_rfl) rfl (fun ds h => by match ds, h with | [_, _], _ => rfl) hW hb
  obtain ⟨p, q, hA0, hV, rfl, hfz, hnd⟩ := hW
  have hA : DataW.TrodAll enc Try.prog W 0 (fun _ => true) true Try.f6.params.toList args.toList ds p := hA0
  rw [Try.params6] at hA hval
  obtain ⟨v0, vs0, d0, ds0, p0, q0, hargs, rfl, rfl, h0, r0⟩ := trodAll_cons hA
  obtain ⟨v1, vs1, d1, ds1, p1, q1, rfl, rfl, rfl, h1, r1⟩ := trodAll_cons r0
  obtain ⟨rfl, rfl, rfl⟩ := trodAll_nil r1
  obtain rfl : args = #[v0, v1] := by cases args; simp_all
  obtain ⟨xs0, wx0, lx0, ax0⟩ := arg_ints Try.underlying22 Try.underlying5 (by kernel_rfl) (hval 0 22 v0 rfl rfl) h0
  have bx0 : r8.bytes.sp xs0 = true := r8.bytes_of wx0
  obtain ⟨xs1, wx1, lx1, ax1⟩ := arg_ints Try.underlying22 Try.underlying5 (by kernel_rfl) (hval 1 22 v1 rfl rfl) h1
  have bx1 : r8.bytes.sp xs1 = true := r8.bytes_of wx1
  have hargs' : @VRs noForb [] [] W [.ro (.ints .u8 xs0) xs0.length 1, .ro (.ints .u8 xs1) xs1.length 1] (#[v0, v1] : Array Value).toList := (@VRs.cons noForb [] [] W _ _ _ _ ax0 (@VRs.cons noForb [] [] W _ _ _ _ ax1 (@VRs.nil noForb [] [] W)))
  exact (law_calls FnArrowsAgree.ok (us := [.ro (.ints .u8 xs0) xs0.length 1, .ro (.ints .u8 xs1) xs1.length 1]) (new := []) (by simp [FnArrowsAgree.R, fArrows.R, bx0, bx1]) hargs').mono fun e W' ⟨he, hb⟩ => ⟨_, he, hpost W' hb⟩

/-! The program's words, one by one: all at once they are too much for the kernel. -/
def w0 : List Char := [104, 97, 114, 110, 101, 115, 115].map Char.ofNat
def w1 : List Char := [56, 51, 50, 99, 99, 55, 54, 55, 51, 99, 52, 54, 100, 51, 50, 98, 49, 51, 98, 48, 99, 51, 99, 97, 48, 53, 102, 97, 100, 99, 57, 53, 102, 51, 57, 53, 49, 49, 99, 48, 101, 102, 50, 97, 48, 99, 51, 48, 51, 99, 57, 51, 56, 52, 56, 99, 102, 57, 49, 53, 52, 102, 100, 101].map Char.ofNat
def w2 : List Char := [99, 117, 116].map Char.ofNat
def w3 : List Char := [97, 116, 32, 108, 111, 111, 112, 46, 101, 120, 97, 109, 112, 108, 101, 47, 103, 48, 49, 51, 54, 53, 47, 108, 97, 119, 115, 46, 70, 110, 77, 97, 99, 104, 105, 110, 101, 115, 80, 108, 97, 121, 32, 108, 111, 111, 112, 46, 101, 120, 97, 109, 112, 108, 101, 47, 103, 48, 49, 51, 54, 53, 47, 108, 97, 119, 115, 46, 70, 110, 77, 105, 120, 116, 117, 114, 101, 115, 32, 108, 111, 111, 112, 46, 101, 120, 97, 109, 112, 108, 101, 47, 103, 48, 49, 51, 54, 53, 47, 108, 97, 119, 115, 46, 70, 110, 70, 108, 111, 119, 105, 110, 103, 32, 108, 111, 111, 112, 46, 101, 120, 97, 109, 112, 108, 101, 47, 103, 48, 49, 51, 54, 53, 47, 108, 97, 119, 115, 46, 70, 110, 65, 114, 114, 111, 119, 115, 65, 103, 114, 101, 101].map Char.ofNat
theorem io : Try.prog.initOrder = String.ofList (w0 ++ Char.ofNat 32 :: (w1 ++ Char.ofNat 32 :: (w2 ++ Char.ofNat 32 :: w3))) := by kernel_rfl
theorem words : behindMainWord (wordsSigns Try.prog.initOrder.toList) = w2 :: wordsSigns w3 := by
  rw [io, String.toList_ofList, ws_app _ w0 (by decide +kernel), ws_app _ w1 (by decide +kernel), ws_app _ w2 (by decide +kernel)]
  kernel_rfl
theorem strips (rest : List (List Char)) : stripLifts liftWords (w2 :: rest) = ([], w2 :: rest) := by kernel_rfl
theorem enters : Try.prog.mayEnter = true := words_enter Try.prog w2 (wordsSigns w3) words (by kernel_rfl) (by kernel_rfl) (by kernel_rfl) (strips _) (by kernel_rfl) (by kernel_rfl) (by kernel_rfl) (by kernel_rfl)
theorem finals : Try.prog.liftsFinal = false := words_finals Try.prog w2 (wordsSigns w3) words (by kernel_rfl) (strips _) (by kernel_rfl)
theorem makes : Try.prog.make = some .cut := words_make Try.prog w2 (wordsSigns w3) words (by kernel_rfl) (by kernel_rfl) (by kernel_rfl)
theorem facts : joinedFacts Try.prog 6 Try.f6 Rows.fnArrowsAgreeSpec Rows.fnArrowsAgreeRow = true := by
  unfold joinedFacts
  rw [enters, finals, makes]
  kernel_rfl

theorem proved : Rows.FnArrowsAgreeSaid :=
  OpenClaim.holds_of_wide 6 Try.f6 rfl rfl rfl rfl rfl rfl rfl ⟨rfl, rfl, rfl, rfl, rfl⟩ rfl rfl rfl rfl rfl (by kernel_rfl) Try.func6 facts
    (of_decide_eq_true (by kernel_rfl)) (by unfold Func.isWrapper; first | (rw [if_pos (by decide +kernel)]; kernel_rfl) | (rw [if_neg (by decide +kernel)]; exact ⟨rfl, rfl⟩))
    (fun os started H enc _ => lifted os started H enc)

end Go.Proofs.Ytgblgofmdhekiaa.lwArrowsAgree
