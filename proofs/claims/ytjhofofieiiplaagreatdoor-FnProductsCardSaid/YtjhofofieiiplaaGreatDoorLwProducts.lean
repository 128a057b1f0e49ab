/-
  The law of products holds for all bytes: the row and its card, tied to the program's text. No condition.
-/
import Derived.Test.YtjhofofieiiplaaGreatDoorCards
import Derived.Test.YtjhofofieiiplaaGreatDoorTie
import Derived.Test.YtjhofofieiiplaaGreatDoorAbLaw
import Derived.Lib.SmallJoins
import Derived.Lay
import Derived.LaidHandle
import Derived.Lib.LaidU8
import Derived.SevenTiedAt
import Derived.Test.YtjhofofieiiplaaGreatDoorFnPm
import Derived.Test.YtjhofofieiiplaaGreatDoorFnBy
namespace Go.Proofs.YtjhofofieiiplaaGreatDoor.lwProducts
open Go Go.ChangeShapes Go.WideShapes Go.ChangeAt Go.RowKit Go.Proofs.YtjhofofieiiplaaGreatDoor.Ab
set_option linter.unusedVariables false
set_option linter.unusedSimpArgs false

theorem own : ownKnob Tryz.prog.godebug = none := by kernel_rfl
theorem laidOut : laidOutB Tryz.prog = true := by kernel_rfl
theorem noHandle : (Rows.fnProductsRow.laid.filter fun x => x.2.handleName?.isSome) = [] := by kernel_rfl
theorem laidH {W : World} (h : laidMet Tryz.prog Rows.fnProductsRow.laid W) : laidMetH Tryz.prog Rows.fnProductsRow.laid W := by
  unfold laidMetH
  rw [noHandle]
  exact h
theorem laidP {W : World} (h : laidMetH Tryz.prog Rows.fnProductsRow.laid W) : laidMet Tryz.prog Rows.fnProductsRow.laid W := by
  unfold laidMetH at h
  rw [noHandle] at h
  exact h
def tab : List Int := [0, 1, 56, 2, 57, 49, 28, 3, 61, 58, 42, 50, 38, 29, 17, 4, 62, 47, 59, 36, 45, 43, 51, 22, 53, 39, 33, 30, 24, 18, 12, 5, 63, 55, 48, 27, 60, 41, 37, 16, 46, 35, 44, 21, 52, 32, 23, 11, 54, 26, 40, 15, 34, 20, 31, 10, 25, 14, 19, 9, 13, 8, 7, 6]
/-- The library's table, as it was laid. -/
theorem gl {W : World} (h : laidMet Tryz.prog Rows.fnProductsRow.laid W) : @GL noForb [] W := by
  have hr : Lib.VarReads Tryz.prog W "math/bits.deBruijn64tab" Rows.laid_math_bits_deBruijn64tab := Lib.laidMet.reads h (.tail _ (.head _))
  obtain ⟨g, t, cs, fuel, q, hg, ht, hv, hd⟩ := hr
  obtain rfl := Option.some.inj ((show Tryz.prog.globalNamed "math/bits.deBruijn64tab" = some 6 by kernel_rfl).symm.trans hg)
  obtain rfl := Option.some.inj ((show (Tryz.prog.globals[6]?).map (·.type) = some 157 by kernel_rfl).symm.trans ht)
  have hcs := Lib.cells_of_tab (zs := tab) (k := .u8) Tryz.underlying157 Tryz.underlying5 (by kernel_rfl) (by kernel_rfl) hd
  have cell : ∀ (i : Nat) (n : Int), tab[i]? = some n → W.cell? ⟨6, i, none⟩ = some (.int .u8 n) := by
    intro i n hi
    rw [World.var?_cell hg hv i, ← Array.getElem?_toList, hcs, List.getElem?_map, hi]
    rfl
  intro p hp
  obtain rfl : p = (6, tab) := List.mem_singleton.1 hp
  exact ⟨⟨cell_stb (cell 0 0 rfl), List.not_mem_nil, List.not_mem_nil⟩, cell⟩

set_option maxRecDepth 100000 in
theorem witness (os : Os) (H : Type) (enc : TypeId × Value → H) : ∃ (w : World) (tape : Tape) (i : Input), w.os = os ∧ (w.forCall tape i).Shaped Tryz.checked.prog ∧ i.vars = [] ∧ Input.okWide Tryz.checked.prog (w.forCall tape i) .any w.heap.size 3 i ∧
      ((Rows.fnProductsSpec.pre enc Tryz.checked.prog Tryz.f3 Rows.fnProductsRow.domain false (w.forCall tape i).memory i.args ∧ laidMetH Tryz.prog Rows.fnProductsRow.laid (w.forCall tape i).memory) ∧ sizedMet enc Tryz.checked.prog Tryz.f3 (OpenSpec.ofChange Rows.fnProductsSpec) false (w.forCall tape i).memory i.args) ∧ ({ modest := false } : Assume).holds Tryz.checked.prog (lone (Frame.enter Tryz.checked.prog 3 i.args .normal) [] (w.forCall tape i)) :=
  ChangeSpec.witness_shaped (enc := enc) (C := Tryz.checked) (os := os) (X := fun w _ => laidMetH Tryz.prog Rows.fnProductsRow.laid w) false (World.laidAll Tryz.prog os Rows.fnProductsRow.laid) #[.slice none 0 0, .slice none 0 0] 8 (World.laidAll_os _ _ _)
    (World.shaped_of_ZipB (by kernel_rfl) (by kernel_rfl)) (by kernel_rfl) (by kernel_rfl) (by kernel_rfl) (laidH (laidMet_laidAll _ (by kernel_rfl) (by kernel_rfl)))

set_option maxRecDepth 100000 in
theorem lifted (os : Os) (started : os.Started) (H : Type) (enc : TypeId × Value → H) :
    ReturnsInHanded {} Tryz.checked os 3 .any (fun w args => (Rows.fnProductsSpec.pre enc Tryz.checked.prog Tryz.f3 Rows.fnProductsRow.domain false w args ∧ laidMetH Tryz.prog Rows.fnProductsRow.laid w) ∧ sizedMet enc Tryz.checked.prog Tryz.f3 (OpenSpec.ofChange Rows.fnProductsSpec) false w args)
      (Rows.fnProductsSpec.post enc Tryz.prog Tryz.f3 false true false false) := by
  refine returnsInHanded_of_change_and (C := Tryz.checked) (X := fun w _ => laidMetH Tryz.prog Rows.fnProductsRow.laid w) (fun _ _ _ hh h => laidH ((laidP h).of_heap hh)) own started (by kernel_rfl) Tryz.func3 (witness os H enc) ?_
  intro W base args ds gs before hval0 hW hcnd _ hL _
  have hval : ∀ (j : Nat) t v, Tryz.f3.params[j]? = some t → args[j]? = some v → Value.okWide Tryz.prog W .any base t v := hval0
  have hpost : ∀ W' : World, Below W.heap.size W W' → Rows.fnProductsSpec.post enc Tryz.prog Tryz.f3 false true false false W args (.bool true) W' := fun W' hb =>
    law_post laidOut (tb := 4) (by decide +kernel) (by kernel_rfl) (by kernel_rfl) rfl (fun ds h => by match ds, h with | [_, _], _ => rfl) hW hb
  obtain ⟨p, q, hA0, hV, rfl, hfz, hnd⟩ := hW
  have hA : DataW.TrodAll enc Tryz.prog W 0 (fun _ => true) true Tryz.f3.params.toList args.toList ds p := hA0
  rw [Tryz.params3] at hA hval
  obtain ⟨v0, vs0, d0, ds0, p0, q0, hargs, rfl, rfl, h0, r0⟩ := trodAll_cons hA
  obtain ⟨v1, vs1, d1, ds1, p1, q1, rfl, rfl, rfl, h1, r1⟩ := trodAll_cons r0
  obtain ⟨rfl, rfl, rfl⟩ := trodAll_nil r1
  obtain rfl : args = #[v0, v1] := by cases args; simp_all
  obtain ⟨xs0, wx0, lx0, ax0⟩ := arg_ints Tryz.underlying22 Tryz.underlying5 (by kernel_rfl) (hval 0 22 v0 rfl rfl) h0
  have bx0 : r8.bytes.sp xs0 = true := r8.bytes_of wx0
  obtain ⟨xs1, wx1, lx1, ax1⟩ := arg_ints Tryz.underlying22 Tryz.underlying5 (by kernel_rfl) (hval 1 22 v1 rfl rfl) h1
  have bx1 : r8.bytes.sp xs1 = true := r8.bytes_of wx1
  have hargs' : @VRs noForb [] [] W [.ro (.ints .u8 xs0) xs0.length 1, .ro (.ints .u8 xs1) xs1.length 1] (#[v0, v1] : Array Value).toList := (@VRs.cons noForb [] [] W _ _ _ _ ax0 (@VRs.cons noForb [] [] W _ _ _ _ ax1 (@VRs.nil noForb [] [] W)))
  exact (law_calls lawProducts.ok (us := [.ro (.ints .u8 xs0) xs0.length 1, .ro (.ints .u8 xs1) xs1.length 1]) (new := []) (by simp [lawProducts.R, bx0, bx1]) hargs' (gl (laidP hL))).mono fun e W' ⟨he, hb⟩ => ⟨_, he, hpost W' hb⟩

/-! The program's words, one by one: all at once they are too much for the kernel. -/
def w0 : List Char := [104, 97, 114, 110, 101, 115, 115].map Char.ofNat
def w1 : List Char := [50, 55, 53, 49, 51, 50, 48, 51, 98, 101, 54, 55, 55, 50, 102, 55, 100, 56, 48, 99, 50, 50, 48, 99, 57, 50, 102, 57, 51, 56, 48, 52, 99, 52, 99, 49, 52, 50, 52, 54, 97, 99, 56, 51, 98, 50, 50, 56, 57, 53, 54, 50, 100, 98, 57, 48, 51, 50, 48, 97, 97, 99, 100, 52].map Char.ofNat
def w2 : List Char := [99, 117, 116].map Char.ofNat
def w3 : List Char := [97, 116, 32, 108, 111, 111, 112, 46, 101, 120, 97, 109, 112, 108, 101, 47, 103, 48, 49, 51, 54, 53, 47, 108, 97, 119, 115, 46, 70, 110, 80, 114, 111, 100, 117, 99, 116, 115, 32, 108, 111, 111, 112, 46, 101, 120, 97, 109, 112, 108, 101, 47, 103, 48, 49, 51, 54, 53, 47, 108, 97, 119, 115, 46, 70, 110, 78, 117, 109, 98, 101, 114, 115].map Char.ofNat
theorem io : Tryz.prog.initOrder = String.ofList (w0 ++ Char.ofNat 32 :: (w1 ++ Char.ofNat 32 :: (w2 ++ Char.ofNat 32 :: w3))) := by kernel_rfl
theorem words : behindMainWord (wordsSigns Tryz.prog.initOrder.toList) = w2 :: wordsSigns w3 := by
  rw [io, String.toList_ofList, ws_app _ w0 (by decide +kernel), ws_app _ w1 (by decide +kernel), ws_app _ w2 (by decide +kernel)]
  kernel_rfl
theorem strips (rest : List (List Char)) : stripLifts liftWords (w2 :: rest) = ([], w2 :: rest) := by kernel_rfl
theorem enters : Tryz.prog.mayEnter = true := words_enter Tryz.prog w2 (wordsSigns w3) words (by kernel_rfl) (by kernel_rfl) (by kernel_rfl) (strips _) (by kernel_rfl) (by kernel_rfl) (by kernel_rfl) (by kernel_rfl)
theorem finals : Tryz.prog.liftsFinal = false := words_finals Tryz.prog w2 (wordsSigns w3) words (by kernel_rfl) (strips _) (by kernel_rfl)
theorem makes : Tryz.prog.make = some .cut := words_make Tryz.prog w2 (wordsSigns w3) words (by kernel_rfl) (by kernel_rfl) (by kernel_rfl)
theorem facts : joinedFacts Tryz.prog 3 Tryz.f3 Rows.fnProductsSpec Rows.fnProductsRow = true := by
  unfold joinedFacts
  rw [enters, finals, makes]
  kernel_rfl

theorem row : Rows.FnProductsSaid :=
  OpenClaim.holds_of_wide 3 Tryz.f3 rfl rfl rfl rfl rfl rfl rfl ⟨rfl, rfl, rfl, rfl, rfl⟩ rfl rfl rfl rfl rfl (by kernel_rfl) Tryz.func3 facts
    (of_decide_eq_true (by kernel_rfl)) (by unfold Func.isWrapper; first | (rw [if_pos (by decide +kernel)]; kernel_rfl) | (rw [if_neg (by decide +kernel)]; exact ⟨rfl, rfl⟩))
    (fun os started H enc _ => lifted os started H enc)

theorem proved : Rows.FnProductsCardSaid :=
  Claim7.holds_tied_plain_at .later [] [.data, .data, .data, .data, .sentinel, .sentinel, .pinned] true (true, "27513203be6772f7d80c220c92f93804c4c14246ac83b2289562db90320aacd4") true
    row (fun _ h => by cases h) (by kernel_rfl) (fun _ h => by cases h) fnProducts_row_tie rfl ⟨rfl, rfl⟩ (by kernel_rfl) rfl
    (fun f fn hf hfn => by
      obtain rfl : f = 3 := Option.some.inj ((show Tryz.prog.funcNamed "loop.example/g01365/laws.FnProducts" = some 3 by kernel_rfl).symm.trans hf) |>.symm
      obtain rfl : fn = Tryz.f3 := (Option.some.inj (Tryz.func3.symm.trans hfn)).symm
      exact ⟨by kernel_rfl, fun j t ht => by
        rw [Tryz.params3] at ht
        have h3 : t = 22 := by
          rcases j with _ | _ | j
          · simpa using ht.symm
          · simpa using ht.symm
          · simp at ht
        subst h3
        exact (show Tryz.prog.wantsStandIn 22 = false by kernel_rfl)⟩)
    (by kernel_rfl)

end Go.Proofs.YtjhofofieiiplaaGreatDoor.lwProducts
