/-
  Functions of the library on texts: repeated, joined, split at commas; by the shelf's contracts.
-/
import Derived.Test.YtjhofofieiiplaaGreatDoorFnNb
import Derived.Test.YtjhofofieiiplaaGreatDoorFnNa
import Derived.Shelf.Strings.Repeat
import Derived.Shelf.Strings.OnBuilder
import Derived.Shelf.Strings.Split
namespace Go.Proofs
open Go.Shelf Go.RowKit
def Tryz.laysRep_ren : Go.Shelf.Ren := ⟨fun | 105 => 73 | 212 => 85 | 99 => 86 | 165 => 87 | 166 => 88 | 170 => 89 | 169 => 90 | 263 => 98 | 264 => 99 | 206 => 100 | 240 => 101 | 241 => 102 | 276 => 117 | 277 => 118 | n => n, fun | 9 => 9 | 3 => 3 | 4 => 4 | 20 => 20 | 0 => 0 | 46 => 102 | 109 => 103 | 5 => 5 | 72 => 108 | 76 => 110 | 51 => 79 | 146 => 122 | 53 => 85 | 148 => 124 | 70 => 106 | 37 => 22 | 75 => 94 | 127 => 126 | 164 => 141 | 80 => 113 | n => n, fun | n => n⟩
theorem Tryz.laysRep : Go.Proofs.Lays.n105 Tryz.prog Tryz.laysRep_ren := {
  mixed := by kernel_rfl
  f99 := Tryz.func86.trans (congrArg some (by kernel_rfl))
  f105 := Tryz.func73.trans (congrArg some (by kernel_rfl))
  f165 := Tryz.func87.trans (congrArg some (by kernel_rfl))
  f166 := Tryz.func88.trans (congrArg some (by kernel_rfl))
  f169 := Tryz.func90.trans (congrArg some (by kernel_rfl))
  f170 := Tryz.func89.trans (congrArg some (by kernel_rfl))
  f206 := Tryz.func100.trans (congrArg some (by kernel_rfl))
  f212 := Tryz.func85.trans (congrArg some (by kernel_rfl))
  f240 := Tryz.func101.trans (congrArg some (by kernel_rfl))
  f241 := Tryz.func102.trans (congrArg some (by kernel_rfl))
  f263 := Tryz.func98.trans (congrArg some (by kernel_rfl))
  f264 := Tryz.func99.trans (congrArg some (by kernel_rfl))
  f276 := Tryz.func117.trans (congrArg some (by kernel_rfl))
  f277 := Tryz.func118.trans (congrArg some (by kernel_rfl))
  t0 := Tryz.underlying0
  a0 := Tryz.isAgg0
  z0 := Tryz.sizeOf0
  v0 := Tryz.zeroValue0
  t3 := Tryz.underlying3
  a3 := Tryz.isAgg3
  z3 := Tryz.sizeOf3
  v3 := Tryz.zeroValue3
  t4 := Tryz.underlying4
  a4 := Tryz.isAgg4
  z4 := Tryz.sizeOf4
  v4 := Tryz.zeroValue4
  t5 := Tryz.underlying5
  a5 := Tryz.isAgg5
  z5 := Tryz.sizeOf5
  v5 := Tryz.zeroValue5
  t9 := Tryz.underlying9
  a9 := Tryz.isAgg9
  z9 := Tryz.sizeOf9
  v9 := Tryz.zeroValue9
  t20 := Tryz.underlying20
  a20 := Tryz.isAgg20
  z20 := Tryz.sizeOf20
  v20 := Tryz.zeroValue20
  t37 := Tryz.underlying22
  a37 := Tryz.isAgg22
  z37 := Tryz.sizeOf22
  v37 := Tryz.zeroValue22
  t46 := Tryz.underlying102
  a46 := Tryz.isAgg102
  z46 := Tryz.sizeOf102
  v46 := Tryz.zeroValue102
  t51 := Tryz.underlying79
  a51 := Tryz.isAgg79
  z51 := Tryz.sizeOf79
  v51 := Tryz.zeroValue79
  t53 := Tryz.underlying85
  a53 := Tryz.isAgg85
  z53 := Tryz.sizeOf85
  v53 := Tryz.zeroValue85
  t70 := Tryz.underlying106
  a70 := Tryz.isAgg106
  z70 := Tryz.sizeOf106
  v70 := Tryz.zeroValue106
  t72 := Tryz.underlying108
  a72 := Tryz.isAgg108
  z72 := Tryz.sizeOf108
  v72 := Tryz.zeroValue108
  t75 := Tryz.underlying94
  a75 := Tryz.isAgg94
  z75 := Tryz.sizeOf94
  v75 := Tryz.zeroValue94
  t76 := Tryz.underlying110
  a76 := Tryz.isAgg110
  z76 := Tryz.sizeOf110
  v76 := Tryz.zeroValue110
  t109 := Tryz.underlying103
  a109 := Tryz.isAgg103
  z109 := Tryz.sizeOf103
  v109 := Tryz.zeroValue103
  t127 := Tryz.underlying126
  a127 := Tryz.isAgg126
  z127 := Tryz.sizeOf126
  v127 := Tryz.zeroValue126
  t146 := Tryz.underlying122
  a146 := Tryz.isAgg122
  z146 := Tryz.sizeOf122
  v146 := Tryz.zeroValue122
  t148 := Tryz.underlying124
  a148 := Tryz.isAgg124
  z148 := Tryz.sizeOf124
  v148 := Tryz.zeroValue124
  t164 := Tryz.underlying141
  a164 := Tryz.isAgg141
  z164 := Tryz.sizeOf141
  v164 := Tryz.zeroValue141 }
def Tryz.laysJoin_ren : Go.Shelf.Ren := ⟨fun | 156 => 74 | 165 => 87 | 166 => 88 | 169 => 90 | 240 => 101 | 241 => 102 | 276 => 117 | 277 => 118 | n => n, fun | 31 => 69 | 9 => 9 | 3 => 3 | 4 => 4 | 0 => 0 | 20 => 20 | 72 => 108 | 76 => 110 | 70 => 106 | 37 => 22 | 75 => 94 | 127 => 126 | 164 => 141 | 5 => 5 | 80 => 113 | n => n, fun | n => n⟩
theorem Tryz.laysJoin : Go.Proofs.Lays.n156 Tryz.prog Tryz.laysJoin_ren := {
  mixed := by kernel_rfl
  f156 := Tryz.func74.trans (congrArg some (by kernel_rfl))
  f165 := Tryz.func87.trans (congrArg some (by kernel_rfl))
  f166 := Tryz.func88.trans (congrArg some (by kernel_rfl))
  f169 := Tryz.func90.trans (congrArg some (by kernel_rfl))
  f240 := Tryz.func101.trans (congrArg some (by kernel_rfl))
  f241 := Tryz.func102.trans (congrArg some (by kernel_rfl))
  f276 := Tryz.func117.trans (congrArg some (by kernel_rfl))
  f277 := Tryz.func118.trans (congrArg some (by kernel_rfl))
  t0 := Tryz.underlying0
  a0 := Tryz.isAgg0
  z0 := Tryz.sizeOf0
  v0 := Tryz.zeroValue0
  t3 := Tryz.underlying3
  a3 := Tryz.isAgg3
  z3 := Tryz.sizeOf3
  v3 := Tryz.zeroValue3
  t4 := Tryz.underlying4
  a4 := Tryz.isAgg4
  z4 := Tryz.sizeOf4
  v4 := Tryz.zeroValue4
  t9 := Tryz.underlying9
  a9 := Tryz.isAgg9
  z9 := Tryz.sizeOf9
  v9 := Tryz.zeroValue9
  t20 := Tryz.underlying20
  a20 := Tryz.isAgg20
  z20 := Tryz.sizeOf20
  v20 := Tryz.zeroValue20
  t31 := Tryz.underlying69
  a31 := Tryz.isAgg69
  z31 := Tryz.sizeOf69
  v31 := Tryz.zeroValue69
  t37 := Tryz.underlying22
  a37 := Tryz.isAgg22
  z37 := Tryz.sizeOf22
  v37 := Tryz.zeroValue22
  t70 := Tryz.underlying106
  a70 := Tryz.isAgg106
  z70 := Tryz.sizeOf106
  v70 := Tryz.zeroValue106
  t72 := Tryz.underlying108
  a72 := Tryz.isAgg108
  z72 := Tryz.sizeOf108
  v72 := Tryz.zeroValue108
  t75 := Tryz.underlying94
  a75 := Tryz.isAgg94
  z75 := Tryz.sizeOf94
  v75 := Tryz.zeroValue94
  t76 := Tryz.underlying110
  a76 := Tryz.isAgg110
  z76 := Tryz.sizeOf110
  v76 := Tryz.zeroValue110
  t127 := Tryz.underlying126
  a127 := Tryz.isAgg126
  z127 := Tryz.sizeOf126
  v127 := Tryz.zeroValue126
  t164 := Tryz.underlying141
  a164 := Tryz.isAgg141
  z164 := Tryz.sizeOf141
  v164 := Tryz.zeroValue141 }
def Tryz.laysSplit_ren : Go.Shelf.Ren := ⟨fun | 221 => 91 | 268 => 103 | 138 => 104 | 143 => 105 | 195 => 119 | 197 => 120 | 218 => 121 | 219 => 122 | 260 => 128 | 217 => 129 | 225 => 130 | 224 => 131 | 267 => 132 | 266 => 134 | 314 => 135 | n => n, fun | 9 => 9 | 3 => 3 | 31 => 69 | 4 => 4 | 0 => 0 | 105 => 145 | 21 => 21 | 5 => 5 | 46 => 102 | 119 => 158 | 139 => 161 | 138 => 160 | 146 => 122 | 51 => 79 | n => n, fun | 1 => 4 | 3 => 7 | 4 => 8 | n => n⟩
theorem Tryz.laysSplit : Go.Proofs.Lays.n221 Tryz.prog Tryz.laysSplit_ren := {
  mixed := by kernel_rfl
  f138 := Tryz.func104.trans (congrArg some (by kernel_rfl))
  f143 := Tryz.func105.trans (congrArg some (by kernel_rfl))
  f195 := Tryz.func119.trans (congrArg some (by kernel_rfl))
  f197 := Tryz.func120.trans (congrArg some (by kernel_rfl))
  f217 := Tryz.func129.trans (congrArg some (by kernel_rfl))
  f218 := Tryz.func121.trans (congrArg some (by kernel_rfl))
  f219 := Tryz.func122.trans (congrArg some (by kernel_rfl))
  f221 := Tryz.func91.trans (congrArg some (by kernel_rfl))
  f224 := Tryz.func131.trans (congrArg some (by kernel_rfl))
  f225 := Tryz.func130.trans (congrArg some (by kernel_rfl))
  f260 := Tryz.func128.trans (congrArg some (by kernel_rfl))
  f266 := Tryz.func134.trans (congrArg some (by kernel_rfl))
  f267 := Tryz.func132.trans (congrArg some (by kernel_rfl))
  f268 := Tryz.func103.trans (congrArg some (by kernel_rfl))
  f314 := Tryz.func135.trans (congrArg some (by kernel_rfl))
  t0 := Tryz.underlying0
  a0 := Tryz.isAgg0
  z0 := Tryz.sizeOf0
  v0 := Tryz.zeroValue0
  t3 := Tryz.underlying3
  a3 := Tryz.isAgg3
  z3 := Tryz.sizeOf3
  v3 := Tryz.zeroValue3
  t4 := Tryz.underlying4
  a4 := Tryz.isAgg4
  z4 := Tryz.sizeOf4
  v4 := Tryz.zeroValue4
  t5 := Tryz.underlying5
  a5 := Tryz.isAgg5
  z5 := Tryz.sizeOf5
  v5 := Tryz.zeroValue5
  t9 := Tryz.underlying9
  a9 := Tryz.isAgg9
  z9 := Tryz.sizeOf9
  v9 := Tryz.zeroValue9
  t21 := Tryz.underlying21
  a21 := Tryz.isAgg21
  z21 := Tryz.sizeOf21
  v21 := Tryz.zeroValue21
  t31 := Tryz.underlying69
  a31 := Tryz.isAgg69
  z31 := Tryz.sizeOf69
  v31 := Tryz.zeroValue69
  t46 := Tryz.underlying102
  a46 := Tryz.isAgg102
  z46 := Tryz.sizeOf102
  v46 := Tryz.zeroValue102
  t51 := Tryz.underlying79
  a51 := Tryz.isAgg79
  z51 := Tryz.sizeOf79
  v51 := Tryz.zeroValue79
  t105 := Tryz.underlying145
  a105 := Tryz.isAgg145
  z105 := Tryz.sizeOf145
  v105 := Tryz.zeroValue145
  t119 := Tryz.underlying158
  a119 := Tryz.isAgg158
  z119 := Tryz.sizeOf158
  t138 := Tryz.underlying160
  a138 := Tryz.isAgg160
  z138 := Tryz.sizeOf160
  v138 := Tryz.zeroValue160
  t139 := Tryz.underlying161
  a139 := Tryz.isAgg161
  z139 := Tryz.sizeOf161
  v139 := Tryz.zeroValue161
  t146 := Tryz.underlying122
  a146 := Tryz.isAgg122
  z146 := Tryz.sizeOf122
  v146 := Tryz.zeroValue122
  g1 := by kernel_rfl
  g3 := by kernel_rfl
  g4 := by kernel_rfl }
theorem Tryz.extraRep : Builder.Extra Tryz.prog Tryz.laysRep_ren := {
  sizeBuilder := by kernel_rfl
  liesBuilder := by kernel_rfl
  t5 := Tryz.laysRep.t5
  a5 := Tryz.laysRep.a5
  z5 := Tryz.laysRep.z5
  v5 := Tryz.laysRep.v5
  infoByte := by kernel_rfl
  cellsByte := by kernel_rfl
  sizeByte := by kernel_rfl
  neB5 := by decide }
theorem Tryz.extraJoin : Builder.Extra Tryz.prog Tryz.laysJoin_ren := {
  sizeBuilder := by kernel_rfl
  liesBuilder := by kernel_rfl
  t5 := Tryz.laysRep.t5
  a5 := Tryz.laysRep.a5
  z5 := Tryz.laysRep.z5
  v5 := Tryz.laysRep.v5
  infoByte := by kernel_rfl
  cellsByte := by kernel_rfl
  sizeByte := by kernel_rfl
  neB5 := by decide }
end Go.Proofs
namespace Go.Proofs.YtjhofofieiiplaaGreatDoor.Ab
open Go
set_option linter.unusedVariables false
set_option linter.unusedSimpArgs false
set_option maxRecDepth 100000

namespace sx
def comma : ByteArray := ⟨#[44]⟩
/-- A text so many times. -/
def rep.sv (s : ByteArray) (n : Nat) : ByteArray := ⟨(Lib.repeatL s.data.toList n).toArray⟩
/-- Texts with another between them. -/
def join.sv (xs : List ByteArray) (s : ByteArray) : ByteArray := ⟨(Lib.join (xs.map (·.data.toList)) s.data.toList).toArray⟩
def jok.sp (xs : List ByteArray) (s : ByteArray) : Bool := decide ((Lib.join (xs.map (·.data.toList)) s.data.toList).length ≤ 140737488355328)
/-- The pieces between commas. -/
def split.sv (s : ByteArray) : List ByteArray := Lib.splitB comma 0 (Lib.countB s comma) s
def isC.sp (s : ByteArray) : Bool := s.data.toList == [44]
theorem isC {s : ByteArray} (h : isC.sp s = true) : s = comma := by
  unfold isC.sp at h
  rw [beq_iff_eq] at h
  obtain ⟨⟨l⟩⟩ := s
  simp only at h
  subst h
  rfl
theorem index_one (c : UInt8) : ∀ l : List UInt8, Lib.index l [c] = Lib.indexByte l c
  | [] => rfl
  | b :: l => by
    unfold Lib.index Lib.indexByte
    rw [index_one c l]
    have e : ([c].isPrefixOf (b :: l)) = (b == c) := by
      simp only [List.isPrefixOf, Bool.and_true]
      by_cases h : b = c
      · subst h; rfl
      · rw [beq_eq_false_iff_ne.2 h, beq_eq_false_iff_ne.2 (fun hh => h hh.symm)]
    rw [e]
end sx

theorem args_str [Fb : Forb] {w : World} {s : ByteArray} {r : List AVal} {cs : List Value} (h : VRs [] [] w (.str s :: r) cs) : ∃ cs', cs = .string s :: cs' ∧ VRs [] [] w r cs' := by
  obtain ⟨c, cs', rfl, h1, h2⟩ := h.inv_cons
  cases h1
  exact ⟨cs', rfl, h2⟩
theorem args_int [Fb : Forb] {w : World} {k : IntKind} {n : Int} {r : List AVal} {cs : List Value} (h : VRs [] [] w (.int k n :: r) cs) : ∃ cs', cs = .int k n :: cs' ∧ VRs [] [] w r cs' := by
  obtain ⟨c, cs', rfl, h1, h2⟩ := h.inv_cons
  cases h1
  exact ⟨cs', rfl, h2⟩
theorem arr_of {cargs : Array Value} {l : List Value} (h : cargs.toList = l) : cargs = l.toArray := by subst h; rfl

namespace strRepeat
def R : List AVal → Option (Bool × AVal × List Blk)
  | [.str s, .int .i64 n] => some (decide (0 ≤ n ∧ n ≤ 1000 ∧ s.size ≤ 1000), .str (sx.rep.sv s n.toNat), [])
  | _ => none
theorem ok : EntOk Tryz.prog ⟨73, R⟩ := by
  refine ent_of ⟨_, Tryz.func73, by kernel_rfl, by kernel_rfl⟩ fun args v new h => ?_
  unfold R at h
  split at h
  · rename_i s n
    simp only [Option.some.injEq, Prod.mk.injEq, decide_eq_true_eq] at h
    obtain ⟨⟨h1, h2, h3⟩, rfl, rfl⟩ := h
    refine ⟨rfl, ?_⟩
    intro F w cargs S hargs gl
    obtain ⟨cs, e1, q1⟩ := args_str hargs
    obtain ⟨cs, rfl, q2⟩ := args_int q1
    obtain rfl := q2.inv_nil
    obtain rfl := arr_of e1
    obtain ⟨n, rfl⟩ : ∃ k : Nat, n = k := ⟨n.toNat, by omega⟩
    have hm : s.size * n ≤ 1000 * 1000 := Nat.mul_le_mul h3 (by omega)
    have hc := Any.strings_Repeat Tryz.laysRep Tryz.extraRep s n w (by omega) (by omega)
    exact hc.mono fun e w' ⟨he, hb⟩ => ⟨_, he, hb, fun _ => .str _⟩
  · cases h
end strRepeat

namespace strJoin
def R : List AVal → Option (Bool × AVal × List Blk)
  | [.ro (.strs xs) n 1, .str s] => some (decide (n = xs.length ∧ 1 ≤ n ∧ n ≤ 1000) && sx.jok.sp xs s, .str (sx.join.sv xs s), [])
  | _ => none
theorem ok : EntOk Tryz.prog ⟨74, R⟩ := by
  refine ent_of ⟨_, Tryz.func74, by kernel_rfl, by kernel_rfl⟩ fun args v new h => ?_
  unfold R at h
  split at h
  · rename_i xs n s
    simp only [Option.some.injEq, Prod.mk.injEq, Bool.and_eq_true, decide_eq_true_eq, sx.jok.sp] at h
    obtain ⟨⟨⟨rfl, h1, h2⟩, h3⟩, rfl, rfl⟩ := h
    refine ⟨rfl, ?_⟩
    intro F w cargs S hargs gl
    obtain ⟨c, cs, e1, hv, q1⟩ := hargs.inv_cons
    obtain ⟨cs, rfl, q2⟩ := args_str q1
    obtain rfl := q2.inv_nil
    obtain rfl := arr_of e1
    cases hv
    rename_i a cap hcr h0 hm hl
    obtain ⟨p, rfl⟩ : ∃ p, a = some p := by
      cases a with
      | none => have := h0 rfl; omega
      | some p => exact ⟨p, rfl⟩
    have hcells := hcr p rfl
    obtain ⟨x0, hx0⟩ : ∃ x, xs[0]? = some x := ⟨xs[0], List.getElem?_eq_getElem (by omega)⟩
    obtain ⟨st, hp⟩ := hcells 0 x0 (by rw [Nat.add_zero]; exact hx0)
    obtain ⟨bk, o, sp⟩ := p
    have hsp : sp = none := by
      cases sp with
      | none => rfl
      | some q => 
        simp only [Addr.add, if_true, World.cell?] at hp
        split at hp <;> simp at hp
    subst hsp
    have hc := Any.strings_Join Tryz.laysJoin Tryz.extraJoin bk o cap xs s w (fun j x hj => by
      have := (hcells j x (by rw [Nat.zero_add]; exact hj)).2
      rwa [add_lit] at this) st.1 (by omega) hm h3
    exact hc.mono fun e w' ⟨he, hb⟩ => ⟨_, he, hb, fun _ => .str _⟩
  · cases h
end strJoin

namespace genSplit
def R : List AVal → Option (Bool × AVal × List Blk)
  | [.str s, .str c, .int .i64 k, .int .i64 n] => some (decide (k = 0 ∧ n = -1 ∧ s.size ≤ 1000000) && sx.isC.sp c, .ro (.strs (sx.split.sv s)) (sx.split.sv s).length 1, [])
  | _ => none
theorem ok : EntOk Tryz.prog ⟨91, R⟩ := by
  refine ent_of ⟨_, Tryz.func91, by kernel_rfl, by kernel_rfl⟩ fun args v new h => ?_
  unfold R at h
  split at h
  · rename_i s c k n
    simp only [Option.some.injEq, Prod.mk.injEq, Bool.and_eq_true, decide_eq_true_eq] at h
    obtain ⟨⟨⟨rfl, rfl, h1⟩, h2⟩, rfl, rfl⟩ := h
    obtain rfl := sx.isC h2
    refine ⟨rfl, ?_⟩
    intro F w cargs S hargs gl
    obtain ⟨cs, e1, q1⟩ := args_str hargs
    obtain ⟨cs, rfl, q2⟩ := args_str q1
    obtain ⟨cs, rfl, q3⟩ := args_int q2
    obtain ⟨cs, rfl, q4⟩ := args_int q3
    obtain rfl := q4.inv_nil
    obtain rfl := arr_of e1
    have hs1 : sx.comma.size = 1 := rfl
    have hle := Lib.countB_le sx.comma (by omega) s.size s (Nat.le_refl _)
    have hlen := Lib.splitB_all sx.comma (by omega) 0 _ s rfl
    have hc := Any.strings_genSplit_core Tryz.laysSplit (by kernel_rfl) s sx.comma 0 (-1) (Lib.countB s sx.comma + 1) w (by omega) (by omega) (Nat.zero_le _)
      (fun x cs hx => by
        have := Any.strings_Index_one (P := Tryz.prog) (ρ := Tryz.laysSplit_ren) { Tryz.laysSplit with } x 44 (w.alloc (.cells cs (Tryz.laysSplit_ren.t 9)))
        refine this.mono fun e w' ⟨he, hw⟩ => ⟨?_, hw⟩
        rw [he, ← sx.index_one]
        rfl)
      (by
        have := Any.strings_Count_one (P := Tryz.prog) (ρ := Tryz.laysSplit_ren) { Tryz.laysSplit with } s 44 w
        refine this.mono fun e w' ⟨he, hw⟩ => ⟨?_, hw⟩
        rw [he]
        show _ = Ending.returned (Value.int .i64 ((Lib.count s.data.toList [44] : Nat) : Int))
        rw [Lib.count_one]
        rfl) (by decide) (by decide) (by rw [if_pos (by decide)]; omega)
    rw [Nat.add_sub_cancel, hlen] at hc
    have e2 : Lib.cellsOf (Lib.splitB sx.comma 0 (Lib.countB s sx.comma) s) (Lib.countB s sx.comma + 1) = ((Lib.splitB sx.comma 0 (Lib.countB s sx.comma) s).map Value.string).toArray := by rw [← hlen]; exact Lib.cellsOf_full _
    rw [e2] at hc
    refine hc.mono fun e w' ⟨he, hw⟩ => ⟨_, he, ?_, fun S' => ?_⟩
    · rw [hw]; exact ⟨rfl, rfl, rfl, by simp, fun k hk => alloc_old w _ k hk⟩
    · rw [← hlen]
      refine .ro _ _ _ _ _ (fun hn => by cases hn) (fun p hp => ?_) (Nat.le_refl _) (by simp [Cont.len])
      simp only [Option.some.injEq] at hp; subst hp
      intro i x hx
      refine ⟨⟨by rw [hw]; simp, by simp, fun hf => Nat.lt_irrefl _ (S.forb _ hf).1⟩, ?_⟩
      rw [add_lit, hw]
      simp only [World.cell?, alloc_new]
      rw [Nat.zero_add] at hx
      have hx2 : (Lib.splitB sx.comma 0 (Lib.countB s sx.comma) s)[i]? = some x := hx
      simp [hx2]
  · cases h
end genSplit

end Go.Proofs.YtjhofofieiiplaaGreatDoor.Ab
