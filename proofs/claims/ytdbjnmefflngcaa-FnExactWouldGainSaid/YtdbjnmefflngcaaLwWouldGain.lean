/-
  WouldGain returns what the reference's returns, bit by bit, for all games and lists, and leaves them. No condition.
-/
import Derived.Test.YtdbjnmefflngcaaRows
import Derived.Test.YtdbjnmefflngcaaAbLaw
import Derived.Lib.SmallJoins
import Derived.Test.YtdbjnmefflngcaaFnGT
namespace Go.Proofs.Ytdbjnmefflngcaa.lwWouldGain
open Go Go.ChangeShapes Go.WideShapes Go.ChangeAt Go.RowKit Go.Proofs.Ytdbjnmefflngcaa.Ab
set_option linter.unusedVariables false
set_option linter.unusedSimpArgs false

theorem own : ownKnob Try.prog.godebug = none := by kernel_rfl
theorem laidOut : laidOutB Try.prog = true := by kernel_rfl

set_option maxRecDepth 100000 in
theorem lifted (os : Os) (started : os.Started) (H : Type) (enc : TypeId × Value → H) :
    ReturnsInHanded {} Try.checked os 4 .any (Rows.fnExactWouldGainSpec.pre6 enc Try.prog Try.f4 Rows.fnExactWouldGainRow.domain false) (Rows.fnExactWouldGainSpec.post enc Try.prog Try.f4 false true false false) := by
  refine returnsInHanded_of_change (C := Try.checked) own started (by kernel_rfl) Try.func4
    (ChangeSpec.witness6 (enc := enc) (C := Try.checked) false ⟨#[], #[.agg #[.int .i64 0, .int .i64 0, .slice none 0 0, .slice none 0 0], .slice none 0 0, .slice none 0 0], []⟩ 8 (by kernel_rfl) (by kernel_rfl) (by kernel_rfl) (by kernel_rfl)) ?_
  intro W base args ds gs before hval0 hW hcnd _
  have hval : ∀ (j : Nat) t v, Try.f4.params[j]? = some t → args[j]? = some v → Value.okWide Try.prog W .any base t v := hval0
  have hpost : ∀ W' : World, Below W.heap.size W W' → Rows.fnExactWouldGainSpec.post enc Try.prog Try.f4 false true false false W args (.bool true) W' := fun W' hb =>
    law_post laidOut (tb := 4) (by decide +kernel) (by kernel_rfl) (by kernel_rfl) rfl (fun ds h => by match ds, h with | [_, _, _], _ => rfl) hW hb
  obtain ⟨p, q, hA0, hV, rfl, hfz, hnd⟩ := hW
  have hA : DataW.TrodAll enc Try.prog W 0 (fun _ => true) true Try.f4.params.toList args.toList ds p := hA0
  rw [Try.params4] at hA hval
  obtain ⟨v0, vs0, d0, ds0, p0, q0, hargs, rfl, rfl, h0, r0⟩ := trodAll_cons hA
  obtain ⟨v1, vs1, d1, ds1, p1, q1, rfl, rfl, rfl, h1, r1⟩ := trodAll_cons r0
  obtain ⟨v2, vs2, d2, ds2, p2, q2, rfl, rfl, rfl, h2, r2⟩ := trodAll_cons r1
  obtain ⟨rfl, rfl, rfl⟩ := trodAll_nil r2
  obtain rfl : args = #[v0, v1, v2] := by cases args; simp_all
  obtain ⟨c00, c01, c02, c03, y00, y01, y02, y03, fu0, rfl, rfl, rfl, k00, k01, k02, k03⟩ := Joins.open_agg4 Try.underlying24 (by kernel_rfl) (by kernel_rfl) (hval 0 24 v0 rfl rfl) h0
  obtain ⟨u0, wu0, au0⟩ := int_of Try.underlying2 k00
  obtain ⟨r0', wr0, ar0⟩ := int_of Try.underlying2 k01
  obtain ⟨ws0, ww0, lw0, aw0⟩ := ints_of Try.underlying22 Try.underlying2 (by kernel_rfl) k02
  obtain ⟨cs0, wc0, lc0, ac0⟩ := ints_of Try.underlying22 Try.underlying2 (by kernel_rfl) k03
  have ax0 : Arg W (.agg #[c00, c01, c02, c03]) (.agg [.int .i64 u0, .int .i64 r0', .ro (.ints .i64 ws0) ws0.length 1, .ro (.ints .i64 cs0) cs0.length 1]) :=
    arg_agg (@VRs.cons noForb [] [] W _ _ _ _ au0 (@VRs.cons noForb [] [] W _ _ _ _ ar0 (@VRs.cons noForb [] [] W _ _ _ _ aw0 (@VRs.cons noForb [] [] W _ _ _ _ ac0 (@VRs.nil noForb [] [] W)))))
  obtain ⟨xs1, lx1, ax1⟩ := arg_flts Try.underlying35 Try.underlying36 (by kernel_rfl) (hval 1 35 v1 rfl rfl) h1
  obtain ⟨xs2, lx2, ax2⟩ := arg_flts Try.underlying35 Try.underlying36 (by kernel_rfl) (hval 2 35 v2 rfl rfl) h2
  have hargs' : @VRs noForb [] [] W [(.agg [.int .i64 u0, .int .i64 r0', .ro (.ints .i64 ws0) ws0.length 1, .ro (.ints .i64 cs0) cs0.length 1]), .ro (.flts .f32 xs1) xs1.length 1, .ro (.flts .f32 xs2) xs2.length 1] (#[.agg #[c00, c01, c02, c03], v1, v2] : Array Value).toList := (@VRs.cons noForb [] [] W _ _ _ _ ax0 (@VRs.cons noForb [] [] W _ _ _ _ ax1 (@VRs.cons noForb [] [] W _ _ _ _ ax2 (@VRs.nil noForb [] [] W))))
  exact (law_calls FnExactWouldGain.ok (us := [(.agg [.int .i64 u0, .int .i64 r0', .ro (.ints .i64 ws0) ws0.length 1, .ro (.ints .i64 cs0) cs0.length 1]), .ro (.flts .f32 xs1) xs1.length 1, .ro (.flts .f32 xs2) xs2.length 1]) (new := []) (by simp [FnExactWouldGain.R, lw0, lc0, lx1, lx2]) hargs').mono fun e W' ⟨he, hb⟩ => ⟨_, he, hpost W' hb⟩

/-! The program's words, one by one: all at once they are too much for the kernel. -/
def w0 : List Char := [104, 97, 114, 110, 101, 115, 115].map Char.ofNat
def w1 : List Char := [57, 50, 99, 48, 49, 49, 102, 98, 101, 53, 102, 55, 57, 57, 55, 97, 51, 56, 54, 54, 51, 48, 52, 53, 52, 98, 57, 49, 52, 57, 49, 50, 52, 98, 54, 102, 49, 98, 99, 49, 48, 98, 101, 49, 49, 99, 49, 52, 57, 52, 97, 49, 56, 52, 102, 51, 51, 97, 98, 98, 99, 56, 54, 99].map Char.ofNat
def w2 : List Char := [99, 117, 116].map Char.ofNat
def w3 : List Char := [97, 116, 32, 108, 111, 111, 112, 46, 101, 120, 97, 109, 112, 108, 101, 47, 103, 48, 49, 51, 54, 53, 47, 108, 97, 119, 115, 46, 70, 110, 69, 120, 97, 99, 116, 76, 101, 97, 114, 110, 82, 111, 119, 115, 32, 108, 111, 111, 112, 46, 101, 120, 97, 109, 112, 108, 101, 47, 103, 48, 49, 51, 54, 53, 47, 108, 97, 119, 115, 46, 70, 110, 69, 120, 97, 99, 116, 87, 111, 117, 108, 100, 71, 97, 105, 110, 32, 108, 111, 111, 112, 46, 101, 120, 97, 109, 112, 108, 101, 47, 103, 48, 49, 51, 54, 53, 47, 108, 97, 119, 115, 46, 70, 110, 69, 120, 97, 99, 116, 71, 97, 109, 101, 115, 83, 104, 97, 114, 101, 100, 32, 108, 111, 111, 112, 46, 101, 120, 97, 109, 112, 108, 101, 47, 103, 48, 49, 51, 54, 53, 47, 108, 97, 119, 115, 46, 70, 110, 83, 117, 114, 118, 105, 118, 111, 114, 115, 32, 108, 111, 111, 112, 46, 101, 120, 97, 109, 112, 108, 101, 47, 103, 48, 49, 51, 54, 53, 47, 108, 97, 119, 115, 46, 70, 110, 65, 110, 115, 119, 101, 114, 115, 32, 108, 111, 111, 112, 46, 101, 120, 97, 109, 112, 108, 101, 47, 103, 48, 49, 51, 54, 53, 47, 108, 97, 119, 115, 46, 70, 110, 77, 97, 99, 104, 105, 110, 101, 115, 80, 108, 97, 121, 32, 108, 111, 111, 112, 46, 101, 120, 97, 109, 112, 108, 101, 47, 103, 48, 49, 51, 54, 53, 47, 108, 97, 119, 115, 46, 70, 110, 77, 105, 120, 116, 117, 114, 101, 115].map Char.ofNat
theorem io : Try.prog.initOrder = String.ofList (w0 ++ Char.ofNat 32 :: (w1 ++ Char.ofNat 32 :: (w2 ++ Char.ofNat 32 :: w3))) := by kernel_rfl
theorem words : behindMainWord (wordsSigns Try.prog.initOrder.toList) = w2 :: wordsSigns w3 := by
  rw [io, String.toList_ofList, ws_app _ w0 (by decide +kernel), ws_app _ w1 (by decide +kernel), ws_app _ w2 (by decide +kernel)]
  kernel_rfl
theorem strips (rest : List (List Char)) : stripLifts liftWords (w2 :: rest) = ([], w2 :: rest) := by kernel_rfl
theorem enters : Try.prog.mayEnter = true := words_enter Try.prog w2 (wordsSigns w3) words (by kernel_rfl) (by kernel_rfl) (by kernel_rfl) (strips _) (by kernel_rfl) (by kernel_rfl) (by kernel_rfl) (by kernel_rfl)
theorem finals : Try.prog.liftsFinal = false := words_finals Try.prog w2 (wordsSigns w3) words (by kernel_rfl) (strips _) (by kernel_rfl)
theorem makes : Try.prog.make = some .cut := words_make Try.prog w2 (wordsSigns w3) words (by kernel_rfl) (by kernel_rfl) (by kernel_rfl)
theorem facts : joinedFacts Try.prog 4 Try.f4 Rows.fnExactWouldGainSpec Rows.fnExactWouldGainRow = true := by
  unfold joinedFacts
  rw [enters, finals, makes]
  kernel_rfl

theorem proved : Rows.FnExactWouldGainSaid :=
  OpenClaim.holds_of_wide 4 Try.f4 rfl rfl rfl rfl rfl rfl rfl ⟨rfl, rfl, rfl, rfl, rfl⟩ rfl rfl rfl rfl rfl (by kernel_rfl) Try.func4 facts
    (of_decide_eq_true (by kernel_rfl)) (by unfold Func.isWrapper; first | (rw [if_pos (by decide +kernel)]; kernel_rfl) | (rw [if_neg (by decide +kernel)]; exact ⟨rfl, rfl⟩))
    (fun os started H enc _ => lifted os started H enc)

end Go.Proofs.Ytdbjnmefflngcaa.lwWouldGain
