/-
  Functions of the library on texts: repeated, joined, split at commas; by the shelf's contracts.
-/
import Derived.Test.YtjhofofieiiplaaGreatDoorFnNb
import Derived.Test.YtjhofofieiiplaaGreatDoorFnNa
import Derived.Shelf.Strings.Repeat
import Derived.Shelf.Strings.OnBuilder
import Derived.Shelf.Strings.Split
import Derived.Shelf.Lay
namespace Go.Proofs
open Go.Shelf Go.RowKit
shelf_lay Lays.n105 Nm 105 at Tryz as Tryz.laysRep
shelf_lay Lays.n156 Nm 156 at Tryz as Tryz.laysJoin
shelf_lay Lays.n221 Nm 221 at Tryz as Tryz.laysSplit
theorem Tryz.extraRep : Builder.Extra Tryz.prog Tryz.laysRep_ren where
  sizeBuilder := by kernel_rfl
  liesBuilder := by kernel_rfl
  t5 := Tryz.laysRep.t5
  a5 := Tryz.laysRep.a5
  z5 := Tryz.laysRep.z5
  v5 := Tryz.laysRep.v5
  infoByte := by kernel_rfl
  cellsByte := by kernel_rfl
  sizeByte := by kernel_rfl
  neB5 := by decide
theorem Tryz.extraJoin : Builder.Extra Tryz.prog Tryz.laysJoin_ren where
  sizeBuilder := by kernel_rfl
  liesBuilder := by kernel_rfl
  t5 := Tryz.laysRep.t5
  a5 := Tryz.laysRep.a5
  z5 := Tryz.laysRep.z5
  v5 := Tryz.laysRep.v5
  infoByte := by kernel_rfl
  cellsByte := by kernel_rfl
  sizeByte := by kernel_rfl
  neB5 := by decide
end Go.Proofs
namespace Go.Proofs.YtjhofofieiiplaaGreatDoor.Ab
open Go
set_option linter.unusedVariables false
set_option linter.unusedSimpArgs false
set_option maxRecDepth 100000

namespace sx
def comma : ByteArray := ⟨#[44]⟩
/-- A text so many times. -/
def rep.sv (s : ByteArray) (n : Nat) : ByteArray := ⟨(Lib.repeatL s.data.toList n).toArray⟩
/-- Texts with another between them. -/
def join.sv (xs : List ByteArray) (s : ByteArray) : ByteArray := ⟨(Lib.join (xs.map (·.data.toList)) s.data.toList).toArray⟩
def jok.sp (xs : List ByteArray) (s : ByteArray) : Bool := decide ((Lib.join (xs.map (·.data.toList)) s.data.toList).length ≤ 140737488355328)
/-- The pieces between commas. -/
def split.sv (s : ByteArray) : List ByteArray := Lib.splitB comma 0 (Lib.countB s comma) s
def isC.sp (s : ByteArray) : Bool := s.data.toList == [44]
theorem isC {s : ByteArray} (h : isC.sp s = true) : s = comma := by
  unfold isC.sp at h
  rw [beq_iff_eq] at h
  obtain ⟨⟨l⟩⟩ := s
  simp only at h
  subst h
  rfl
theorem index_one (c : UInt8) : ∀ l : List UInt8, Lib.index l [c] = Lib.indexByte l c
  | [] => rfl
  | b :: l => by
    unfold Lib.index Lib.indexByte
    rw [index_one c l]
    have e : ([c].isPrefixOf (b :: l)) = (b == c) := by
      simp only [List.isPrefixOf, Bool.and_true]
      by_cases h : b = c
      · subst h; rfl
      · rw [beq_eq_false_iff_ne.2 h, beq_eq_false_iff_ne.2 (fun hh => h hh.symm)]
    rw [e]
end sx

theorem args_str [Fb : Forb] {w : World} {s : ByteArray} {r : List AVal} {cs : List Value} (h : VRs [] [] w (.str s :: r) cs) : ∃ cs', cs = .string s :: cs' ∧ VRs [] [] w r cs' := by
  obtain ⟨c, cs', rfl, h1, h2⟩ := h.inv_cons
  cases h1
  exact ⟨cs', rfl, h2⟩
theorem args_int [Fb : Forb] {w : World} {k : IntKind} {n : Int} {r : List AVal} {cs : List Value} (h : VRs [] [] w (.int k n :: r) cs) : ∃ cs', cs = .int k n :: cs' ∧ VRs [] [] w r cs' := by
  obtain ⟨c, cs', rfl, h1, h2⟩ := h.inv_cons
  cases h1
  exact ⟨cs', rfl, h2⟩
theorem arr_of {cargs : Array Value} {l : List Value} (h : cargs.toList = l) : cargs = l.toArray := by subst h; rfl

namespace strRepeat
def R : List AVal → Option (Bool × AVal × List Blk)
  | [.str s, .int .i64 n] => some (decide (0 ≤ n ∧ n ≤ 1000 ∧ s.size ≤ 1000), .str (sx.rep.sv s n.toNat), [])
  | _ => none
theorem ok : EntOk Tryz.prog ⟨73, R⟩ := by
  refine ent_of ⟨_, Tryz.func73, by kernel_rfl, by kernel_rfl⟩ fun args v new h => ?_
  unfold R at h
  split at h
  · rename_i s n
    simp only [Option.some.injEq, Prod.mk.injEq, decide_eq_true_eq] at h
    obtain ⟨⟨h1, h2, h3⟩, rfl, rfl⟩ := h
    refine ⟨rfl, ?_⟩
    intro F w cargs S hargs gl
    obtain ⟨cs, e1, q1⟩ := args_str hargs
    obtain ⟨cs, rfl, q2⟩ := args_int q1
    obtain rfl := q2.inv_nil
    obtain rfl := arr_of e1
    obtain ⟨n, rfl⟩ : ∃ k : Nat, n = k := ⟨n.toNat, by omega⟩
    have hm : s.size * n ≤ 1000 * 1000 := Nat.mul_le_mul h3 (by omega)
    have hc := Any.strings_Repeat Tryz.laysRep Tryz.extraRep s n w (by omega) (by omega)
    exact hc.mono fun e w' ⟨he, hb⟩ => ⟨_, he, hb, fun _ => .str _⟩
  · cases h
end strRepeat

namespace strJoin
def R : List AVal → Option (Bool × AVal × List Blk)
  | [.ro (.strs xs) n 1, .str s] => some (decide (n = xs.length ∧ 1 ≤ n ∧ n ≤ 1000) && sx.jok.sp xs s, .str (sx.join.sv xs s), [])
  | _ => none
theorem ok : EntOk Tryz.prog ⟨74, R⟩ := by
  refine ent_of ⟨_, Tryz.func74, by kernel_rfl, by kernel_rfl⟩ fun args v new h => ?_
  unfold R at h
  split at h
  · rename_i xs n s
    simp only [Option.some.injEq, Prod.mk.injEq, Bool.and_eq_true, decide_eq_true_eq, sx.jok.sp] at h
    obtain ⟨⟨⟨rfl, h1, h2⟩, h3⟩, rfl, rfl⟩ := h
    refine ⟨rfl, ?_⟩
    intro F w cargs S hargs gl
    obtain ⟨c, cs, e1, hv, q1⟩ := hargs.inv_cons
    obtain ⟨cs, rfl, q2⟩ := args_str q1
    obtain rfl := q2.inv_nil
    obtain rfl := arr_of e1
    cases hv
    rename_i a cap hcr h0 hm hl
    obtain ⟨p, rfl⟩ : ∃ p, a = some p := by
      cases a with
      | none => have := h0 rfl; omega
      | some p => exact ⟨p, rfl⟩
    have hcells := hcr p rfl
    obtain ⟨x0, hx0⟩ : ∃ x, xs[0]? = some x := ⟨xs[0], List.getElem?_eq_getElem (by omega)⟩
    obtain ⟨st, hp⟩ := hcells 0 x0 (by rw [Nat.add_zero]; exact hx0)
    obtain ⟨bk, o, sp⟩ := p
    have hsp : sp = none := by
      cases sp with
      | none => rfl
      | some q => 
        simp only [Addr.add, if_true, World.cell?] at hp
        split at hp <;> simp at hp
    subst hsp
    have hc := Any.strings_Join Tryz.laysJoin Tryz.extraJoin bk o cap xs s w (fun j x hj => by
      have := (hcells j x (by rw [Nat.zero_add]; exact hj)).2
      rwa [add_lit] at this) st.1 (by omega) hm h3
    exact hc.mono fun e w' ⟨he, hb⟩ => ⟨_, he, hb, fun _ => .str _⟩
  · cases h
end strJoin

namespace genSplit
def R : List AVal → Option (Bool × AVal × List Blk)
  | [.str s, .str c, .int .i64 k, .int .i64 n] => some (decide (k = 0 ∧ n = -1 ∧ s.size ≤ 1000000) && sx.isC.sp c, .ro (.strs (sx.split.sv s)) (sx.split.sv s).length 1, [])
  | _ => none
theorem ok : EntOk Tryz.prog ⟨91, R⟩ := by
  refine ent_of ⟨_, Tryz.func91, by kernel_rfl, by kernel_rfl⟩ fun args v new h => ?_
  unfold R at h
  split at h
  · rename_i s c k n
    simp only [Option.some.injEq, Prod.mk.injEq, Bool.and_eq_true, decide_eq_true_eq] at h
    obtain ⟨⟨⟨rfl, rfl, h1⟩, h2⟩, rfl, rfl⟩ := h
    obtain rfl := sx.isC h2
    refine ⟨rfl, ?_⟩
    intro F w cargs S hargs gl
    obtain ⟨cs, e1, q1⟩ := args_str hargs
    obtain ⟨cs, rfl, q2⟩ := args_str q1
    obtain ⟨cs, rfl, q3⟩ := args_int q2
    obtain ⟨cs, rfl, q4⟩ := args_int q3
    obtain rfl := q4.inv_nil
    obtain rfl := arr_of e1
    have hs1 : sx.comma.size = 1 := rfl
    have hle := Lib.countB_le sx.comma (by omega) s.size s (Nat.le_refl _)
    have hlen := Lib.splitB_all sx.comma (by omega) 0 _ s rfl
    have hc := Any.strings_genSplit_core Tryz.laysSplit (by kernel_rfl) s sx.comma 0 (-1) (Lib.countB s sx.comma + 1) w (by omega) (by omega) (Nat.zero_le _)
      (fun x cs hx => by
        have := Any.strings_Index_one (P := Tryz.prog) (ρ := Tryz.laysSplit_ren) { Tryz.laysSplit with } x 44 (w.alloc (.cells cs (Tryz.laysSplit_ren.t 9)))
        refine this.mono fun e w' ⟨he, hw⟩ => ⟨?_, hw⟩
        rw [he, ← sx.index_one]
        rfl)
      (by
        have := Any.strings_Count_one (P := Tryz.prog) (ρ := Tryz.laysSplit_ren) { Tryz.laysSplit with } s 44 w
        refine this.mono fun e w' ⟨he, hw⟩ => ⟨?_, hw⟩
        rw [he]
        show _ = Ending.returned (Value.int .i64 ((Lib.count s.data.toList [44] : Nat) : Int))
        rw [Lib.count_one]
        rfl) (by decide) (by decide) (by rw [if_pos (by decide)]; omega)
    rw [Nat.add_sub_cancel, hlen] at hc
    have e2 : Lib.cellsOf (Lib.splitB sx.comma 0 (Lib.countB s sx.comma) s) (Lib.countB s sx.comma + 1) = ((Lib.splitB sx.comma 0 (Lib.countB s sx.comma) s).map Value.string).toArray := by rw [← hlen]; exact Lib.cellsOf_full _
    rw [e2] at hc
    refine hc.mono fun e w' ⟨he, hw⟩ => ⟨_, he, ?_, fun S' => ?_⟩
    · rw [hw]; exact ⟨rfl, rfl, rfl, by simp, fun k hk => alloc_old w _ k hk⟩
    · rw [← hlen]
      refine .ro _ _ _ _ _ (fun hn => by cases hn) (fun p hp => ?_) (Nat.le_refl _) (by simp [Cont.len])
      simp only [Option.some.injEq] at hp; subst hp
      intro i x hx
      refine ⟨⟨by rw [hw]; simp, by simp, fun hf => Nat.lt_irrefl _ (S.forb _ hf).1⟩, ?_⟩
      rw [add_lit, hw]
      simp only [World.cell?, alloc_new]
      rw [Nat.zero_add] at hx
      have hx2 : (Lib.splitB sx.comma 0 (Lib.countB s sx.comma) s)[i]? = some x := hx
      simp [hx2]
  · cases h
end genSplit

end Go.Proofs.YtjhofofieiiplaaGreatDoor.Ab
