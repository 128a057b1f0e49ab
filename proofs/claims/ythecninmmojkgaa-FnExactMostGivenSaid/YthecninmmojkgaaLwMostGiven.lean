/-
  MostGiven returns what the reference's returns, for all lists and numbers, leaves them, and hands out what nobody else holds. No condition.
-/
import Derived.Test.YthecninmmojkgaaRows
import Derived.Test.YthecninmmojkgaaAbLaw
import Derived.Lib.SmallJoins
import Derived.Test.YthecninmmojkgaaFnKT
namespace Go.Proofs.Ythecninmmojkgaa.lwMostGiven
open Go Go.ChangeShapes Go.WideShapes Go.ChangeAt Go.RowKit Go.Proofs.Ythecninmmojkgaa.Ab
set_option linter.unusedVariables false
set_option linter.unusedSimpArgs false

theorem own : ownKnob Try.prog.godebug = none := by kernel_rfl
theorem laidOut : laidOutB Try.prog = true := by kernel_rfl

set_option maxRecDepth 100000 in
theorem lifted (os : Os) (started : os.Started) (H : Type) (enc : TypeId × Value → H) :
    ReturnsInHanded {} Try.checked os 4 .any (Rows.fnExactMostGivenSpec.pre6 enc Try.prog Try.f4 Rows.fnExactMostGivenRow.domain false) (Rows.fnExactMostGivenSpec.post enc Try.prog Try.f4 false true false false) := by
  refine returnsInHanded_of_change (C := Try.checked) own started (by kernel_rfl) Try.func4
    (ChangeSpec.witness6 (enc := enc) (C := Try.checked) false ⟨#[], #[.slice none 0 0, .int .i64 0], []⟩ 8 (by kernel_rfl) (by kernel_rfl) (by kernel_rfl) (by kernel_rfl)) ?_
  intro W base args ds gs before hval0 hW hcnd _
  have hval : ∀ (j : Nat) t v, Try.f4.params[j]? = some t → args[j]? = some v → Value.okWide Try.prog W .any base t v := hval0
  have hpost : ∀ W' : World, Below W.heap.size W W' → Rows.fnExactMostGivenSpec.post enc Try.prog Try.f4 false true false false W args (.bool true) W' := fun W' hb =>
    law_post laidOut (tb := 4) (by decide +kernel) (by kernel_rfl) (by kernel_rfl) rfl (fun ds h => by match ds, h with | [_, _], _ => rfl) hW hb
  obtain ⟨p, q, hA0, hV, rfl, hfz, hnd⟩ := hW
  have hA : DataW.TrodAll enc Try.prog W 0 (fun _ => true) true Try.f4.params.toList args.toList ds p := hA0
  rw [Try.params4] at hA hval
  obtain ⟨v0, vs0, d0, ds0, p0, q0, hargs, rfl, rfl, h0, r0⟩ := trodAll_cons hA
  obtain ⟨v1, vs1, d1, ds1, p1, q1, rfl, rfl, rfl, h1, r1⟩ := trodAll_cons r0
  obtain ⟨rfl, rfl, rfl⟩ := trodAll_nil r1
  obtain rfl : args = #[v0, v1] := by cases args; simp_all
  obtain ⟨xs0, lx0, wx0, ax0⟩ := arg_rows Try.underlying34 Try.underlying24 Try.underlying2 (by kernel_rfl) (by kernel_rfl) (hval 0 34 v0 rfl rfl) h0
  have sx0 : short.sp 9223372036854775807 xs0 = true := by simp only [short.sp, List.all_eq_true, decide_eq_true_eq]; exact fun r hr => (wx0 r hr).1
  obtain ⟨n1, wn1, ax1⟩ := arg_int Try.underlying2 (hval 1 2 v1 rfl rfl) h1
  have hargs' : @VRs noForb [] [] W [.ro (.rows .i64 xs0) xs0.length 1, .int .i64 n1] (#[v0, v1] : Array Value).toList := (@VRs.cons noForb [] [] W _ _ _ _ ax0 (@VRs.cons noForb [] [] W _ _ _ _ ax1 (@VRs.nil noForb [] [] W)))
  exact (FnExactMostGiven.calls xs0 lx0 sx0 n1 hargs').mono fun e W' ⟨he, hb⟩ => ⟨_, he, hpost W' hb⟩

/-! The program's words, one by one: all at once they are too much for the kernel. -/
def w0 : List Char := [104, 97, 114, 110, 101, 115, 115].map Char.ofNat
def w1 : List Char := [52, 48, 57, 52, 57, 100, 101, 49, 50, 56, 97, 49, 99, 53, 99, 50, 99, 56, 53, 53, 98, 98, 52, 101, 52, 49, 53, 49, 99, 53, 55, 52, 102, 54, 49, 48, 49, 52, 56, 55, 100, 98, 52, 97, 97, 97, 56, 52, 98, 48, 51, 98, 51, 55, 48, 50, 97, 98, 49, 98, 101, 99, 53, 100].map Char.ofNat
def w2 : List Char := [99, 117, 116].map Char.ofNat
def w3 : List Char := [97, 116, 32, 108, 111, 111, 112, 46, 101, 120, 97, 109, 112, 108, 101, 47, 103, 48, 49, 51, 54, 53, 47, 108, 97, 119, 115, 46, 70, 110, 69, 120, 97, 99, 116, 71, 97, 109, 101, 115, 83, 104, 97, 114, 101, 100, 32, 108, 111, 111, 112, 46, 101, 120, 97, 109, 112, 108, 101, 47, 103, 48, 49, 51, 54, 53, 47, 108, 97, 119, 115, 46, 70, 110, 69, 120, 97, 99, 116, 77, 111, 115, 116, 71, 105, 118, 101, 110, 32, 108, 111, 111, 112, 46, 101, 120, 97, 109, 112, 108, 101, 47, 103, 48, 49, 51, 54, 53, 47, 108, 97, 119, 115, 46, 70, 110, 69, 120, 97, 99, 116, 87, 105, 115, 104, 101, 115, 83, 104, 97, 114, 101, 100].map Char.ofNat
theorem io : Try.prog.initOrder = String.ofList (w0 ++ Char.ofNat 32 :: (w1 ++ Char.ofNat 32 :: (w2 ++ Char.ofNat 32 :: w3))) := by kernel_rfl
theorem words : behindMainWord (wordsSigns Try.prog.initOrder.toList) = w2 :: wordsSigns w3 := by
  rw [io, String.toList_ofList, ws_app _ w0 (by decide +kernel), ws_app _ w1 (by decide +kernel), ws_app _ w2 (by decide +kernel)]
  kernel_rfl
theorem strips (rest : List (List Char)) : stripLifts liftWords (w2 :: rest) = ([], w2 :: rest) := by kernel_rfl
theorem enters : Try.prog.mayEnter = true := words_enter Try.prog w2 (wordsSigns w3) words (by kernel_rfl) (by kernel_rfl) (by kernel_rfl) (strips _) (by kernel_rfl) (by kernel_rfl) (by kernel_rfl) (by kernel_rfl)
theorem finals : Try.prog.liftsFinal = false := words_finals Try.prog w2 (wordsSigns w3) words (by kernel_rfl) (strips _) (by kernel_rfl)
theorem makes : Try.prog.make = some .cut := words_make Try.prog w2 (wordsSigns w3) words (by kernel_rfl) (by kernel_rfl) (by kernel_rfl)
theorem facts : joinedFacts Try.prog 4 Try.f4 Rows.fnExactMostGivenSpec Rows.fnExactMostGivenRow = true := by
  unfold joinedFacts
  rw [enters, finals, makes]
  kernel_rfl

theorem proved : Rows.FnExactMostGivenSaid :=
  OpenClaim.holds_of_wide 4 Try.f4 rfl rfl rfl rfl rfl rfl rfl ⟨rfl, rfl, rfl, rfl, rfl⟩ rfl rfl rfl rfl rfl (by kernel_rfl) Try.func4 facts
    (of_decide_eq_true (by kernel_rfl)) (by unfold Func.isWrapper; first | (rw [if_pos (by decide +kernel)]; kernel_rfl) | (rw [if_neg (by decide +kernel)]; exact ⟨rfl, rfl⟩))
    (fun os started H enc _ => lifted os started H enc)

end Go.Proofs.Ythecninmmojkgaa.lwMostGiven
