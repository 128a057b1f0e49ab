/-
  Functions: the law of numbers: its run.
-/
import Derived.Test.YtjhofofieiiplaaGreatDoorFnNl
import Derived.Test.YtjhofofieiiplaaGreatDoorFnNg
namespace Go.Proofs.YtjhofofieiiplaaGreatDoor.Ab
open Go
set_option linter.unusedVariables false
set_option linter.unusedSimpArgs false
set_option maxRecDepth 100000

namespace lawNumbers
def R : List AVal → Option (Bool × AVal × List Blk)
  | [.ro (.ints .u8 xs) m 1, .ro (.ints .u8 ys) k 1] => some (decide (m = xs.length ∧ k = ys.length) && (r8.bytes.sp xs && r8.bytes.sp ys), .bool true, [])
  | _ => none
def hd : Nat → Head := fun i => bif eqN i 0 then ⟨[5, 6, 7, 8, 9, 10, 11, 40, 41], none⟩ else ⟨[5, 6, 10, 17, 112, 113], none⟩
noncomputable def L0 (f n : Nat) (s : State) := loopAt Tryz.prog (orc [⟨5, b10Long.R⟩, ⟨19, B10Number.R⟩, ⟨21, BitsOf.R⟩, ⟨20, FromBits.R⟩, ⟨28, FlushNumber.R⟩, ⟨16, b10At.R⟩, ⟨29, B10Numbers.R⟩, ⟨30, SumNumbers.R⟩, ⟨31, NumbersText.R⟩, ⟨32, ReadNumbers.R⟩, ⟨10, sSameNumber.R⟩, ⟨33, IsSubnormal.R⟩, ⟨34, AngleTurns.R⟩, ⟨35, AngleOf.R⟩, ⟨36, NarrowNumber.R⟩, ⟨37, SineTurns.R⟩]) hd Dr.std 0 f (bodyOf Tryz.f4) 0 [true, true, true, true, true, true, true, true, false, true] (retK Tryz.prog [4] 0 none) n s
noncomputable def L2 (f n : Nat) (s : State) := loopAt Tryz.prog (orc [⟨5, b10Long.R⟩, ⟨19, B10Number.R⟩, ⟨21, BitsOf.R⟩, ⟨20, FromBits.R⟩, ⟨28, FlushNumber.R⟩, ⟨16, b10At.R⟩, ⟨29, B10Numbers.R⟩, ⟨30, SumNumbers.R⟩, ⟨31, NumbersText.R⟩, ⟨32, ReadNumbers.R⟩, ⟨10, sSameNumber.R⟩, ⟨33, IsSubnormal.R⟩, ⟨34, AngleTurns.R⟩, ⟨35, AngleOf.R⟩, ⟨36, NarrowNumber.R⟩, ⟨37, SineTurns.R⟩]) hd Dr.std 0 f (bodyOf Tryz.f4) 0 [true, true, true, true, true, true, true, true, true, true, true, true, true, false, true] (retK Tryz.prog [4] 0 none) n s
theorem start (xs ys : List Int) (f : Nat) :
  runFn Tryz.prog (orc [⟨5, b10Long.R⟩, ⟨19, B10Number.R⟩, ⟨21, BitsOf.R⟩, ⟨20, FromBits.R⟩, ⟨28, FlushNumber.R⟩, ⟨16, b10At.R⟩, ⟨29, B10Numbers.R⟩, ⟨30, SumNumbers.R⟩, ⟨31, NumbersText.R⟩, ⟨32, ReadNumbers.R⟩, ⟨10, sSameNumber.R⟩, ⟨33, IsSubnormal.R⟩, ⟨34, AngleTurns.R⟩, ⟨35, AngleOf.R⟩, ⟨36, NarrowNumber.R⟩, ⟨37, SineTurns.R⟩]) hd Dr.std none f (bodyOf Tryz.f4) 146 [4] [.ro (.ints .u8 xs) xs.length 1, .ro (.ints .u8 ys) ys.length 1] []
  = (bif true && (true && (true && true) || true && true) then bif decide ((1048576 : Int) < (↑xs.length : Int)) || decide ((1048576 : Int) < (↑ys.length : Int)) then some (AVal.bool true, []) else bif decide (xs.length = xs.length ∧ xs.length ≤ (2000000 : Nat)) && r8.bytes.sp xs && (true && true || true && true) then bif decide (ys.length = ys.length ∧ ys.length ≤ (2000000 : Nat)) && r8.bytes.sp ys && (true && true || true && true) then bif true && (true && true || true && true) then bif decide ((0 : Int) ≤ nw.bits.sv (dw.n.sv xs) ∧ nw.bits.sv (dw.n.sv xs) ≤ (4294967295 : Int)) && (true && true || true && true && true) then bif true && (true && true || true && true) then bif decide (xs.length = xs.length ∧ (0 : Int) ≤ (0 : Int) ∧ (0 : Int) ≤ (1000 : Int) ∧ (2 : Int) ≤ (12 : Int) ∧ (12 : Int) ≤ (1000 : Int)) && r8.bytes.sp xs && (true && true || true && true) then bif decide (ys.length = ys.length ∧ ys.length ≤ (2000000 : Nat) ∧ (0 : Int) ≤ wo.at.sv xs (Int.toNat (0 : Int)) (12 : Int) ∧ wo.at.sv xs (Int.toNat (0 : Int)) (12 : Int) ≤ (1000 : Int)) && r8.bytes.sp ys && (true && (true && true) || true && (true && true)) then L0 f f (mkS (146 : Nat) [((5 : Nat), AVal.flt FloatKind.f32 (dw.n.sv xs)), ((6 : Nat), AVal.flt FloatKind.f32 (dw.n.sv ys)), ((7 : Nat), AVal.flt FloatKind.f32 (nw.bits.sv (dw.n.sv xs)).toNat), ((8 : Nat), AVal.bool true), ((9 : Nat), AVal.flt FloatKind.f32 (nw.fl.sv (dw.n.sv xs))), ((10 : Nat), AVal.own (0 : Nat) (0 : Nat) (wo.at.sv xs (0 : Nat) (12 : Int)).toNat (0 : Nat) (1 : Nat)), ((11 : Nat), AVal.flt FloatKind.f32 (0 : Nat)), ((40 : Nat), AVal.int IntKind.i64 (↑(wo.at.sv xs (0 : Nat) (12 : Int)).toNat : Int)), ((41 : Nat), AVal.int IntKind.i64 (0 : Int))] [{ c := BC.typ (Cont.flts FloatKind.f32 (dw.fl.sv ys (wo.at.sv xs (0 : Nat) (12 : Int)).toNat (0 : Int) (0 : Int))), ver := (0 : Nat) }]) else none else none else none else none else none else none else none else none) := by kernel_rfl
theorem round0 (x y w z m v : Nat) (i : Int) (T : List Nat) (f k : Nat) :
  L0 f (k + 1) (mkS 146 [(5, .flt .f32 x), (6, .flt .f32 y), (7, .flt .f32 w), (8, .bool true), (9, .flt .f32 z), (10, .own 0 0 m 0 1), (11, .flt .f32 v), (40, .int .i64 ((m : Nat) : Int)), (41, .int .i64 i)] [⟨.typ (.flts .f32 T), 0⟩])
  = (bif decide (i < (↑m : Int)) then bif true && (decide ((0 : Int) ≤ i) && decide (i < (↑m : Int))) then bif true && decide (i.toNat < T.length) then L0 f k (mkS (146 : Nat) [((5 : Nat), AVal.flt FloatKind.f32 x), ((6 : Nat), AVal.flt FloatKind.f32 y), ((7 : Nat), AVal.flt FloatKind.f32 w), ((8 : Nat), AVal.bool true), ((9 : Nat), AVal.flt FloatKind.f32 z), ((10 : Nat), AVal.own (0 : Nat) (0 : Nat) m (0 : Nat) (1 : Nat)), ((11 : Nat), AVal.flt FloatKind.f32 (fadd FloatKind.f32 v (gn T i.toNat))), ((40 : Nat), AVal.int IntKind.i64 (↑m : Int)), ((41 : Nat), AVal.int IntKind.i64 (IntKind.i64.wrap (i + (1 : Int))))] [{ c := BC.typ (Cont.flts FloatKind.f32 T), ver := (0 : Nat) }]) else none else none else bif decide (m = T.length ∧ m ≤ (256 : Nat)) && (false && true || true && true && true) then bif decide (m = T.length ∧ m ≤ (256 : Nat) ∧ ∀ (x : Nat), x ∈ T → x < (4294967296 : Nat)) && (false && true || true && true && true) then bif nt.rdok.sp (nt.tx.sv T) && (true && true || true && true && (true && true)) then bif true && (true && (true && true) || true && true) then bif !nw.bits.sv w == nw.bits.sv x then some (AVal.bool false, [{ c := BC.typ (Cont.flts FloatKind.f32 T), ver := (0 : Nat) }, { c := BC.typ (Cont.flts FloatKind.f32 (nt.rd.sv (nt.tx.sv T))), ver := (0 : Nat) }]) else bif true && (true && true || true && true) then bif nw.sub.sp z then some (AVal.bool false, [{ c := BC.typ (Cont.flts FloatKind.f32 T), ver := (0 : Nat) }, { c := BC.typ (Cont.flts FloatKind.f32 (nt.rd.sv (nt.tx.sv T))), ver := (0 : Nat) }]) else bif true && (true && true || true && true) then bif true && (true && (true && true) || true && true) then bif nw.sub.sp x == (nw.bits.sv x == nw.bits.sv z) then some (AVal.bool false, [{ c := BC.typ (Cont.flts FloatKind.f32 T), ver := (0 : Nat) }, { c := BC.typ (Cont.flts FloatKind.f32 (nt.rd.sv (nt.tx.sv T))), ver := (0 : Nat) }]) else bif true && (true && (true && true) || true && true) then bif !nw.bits.sv (dw.sm.sv T) == nw.bits.sv v then some (AVal.bool false, [{ c := BC.typ (Cont.flts FloatKind.f32 T), ver := (0 : Nat) }, { c := BC.typ (Cont.flts FloatKind.f32 (nt.rd.sv (nt.tx.sv T))), ver := (0 : Nat) }]) else bif (↑(nt.rd.sv (nt.tx.sv T)).length : Int) != (↑m : Int) then some (AVal.bool false, [{ c := BC.typ (Cont.flts FloatKind.f32 T), ver := (0 : Nat) }, { c := BC.typ (Cont.flts FloatKind.f32 (nt.rd.sv (nt.tx.sv T))), ver := (0 : Nat) }]) else L2 f f (mkS (146 : Nat) [((5 : Nat), AVal.flt FloatKind.f32 x), ((6 : Nat), AVal.flt FloatKind.f32 y), ((10 : Nat), AVal.own (0 : Nat) (0 : Nat) m (0 : Nat) (1 : Nat)), ((17 : Nat), AVal.own (1 : Nat) (0 : Nat) (nt.rd.sv (nt.tx.sv T)).length (0 : Nat) (1 : Nat)), ((112 : Nat), AVal.int IntKind.i64 (↑m : Int)), ((113 : Nat), AVal.int IntKind.i64 (0 : Int))] [{ c := BC.typ (Cont.flts FloatKind.f32 T), ver := (0 : Nat) }, { c := BC.typ (Cont.flts FloatKind.f32 (nt.rd.sv (nt.tx.sv T))), ver := (0 : Nat) }]) else none else none else none else none else none else none else none else none) := by kernel_rfl
theorem round2 (x y m q : Nat) (i : Int) (T Q : List Nat) (f k : Nat) :
  L2 f (k + 1) (mkS 146 [(5, .flt .f32 x), (6, .flt .f32 y), (10, .own 0 0 m 0 1), (17, .own 1 0 q 0 1), (112, .int .i64 ((m : Nat) : Int)), (113, .int .i64 i)] [⟨.typ (.flts .f32 T), 0⟩, ⟨.typ (.flts .f32 Q), 0⟩])
  = (bif decide (i < (↑m : Int)) then bif true && (decide ((0 : Int) ≤ i) && decide (i < (↑q : Int))) then bif true && decide (i.toNat < Q.length) then bif true && (decide ((0 : Int) ≤ i) && decide (i < (↑m : Int))) then bif true && decide (i.toNat < T.length) then bif true && (true && (true && true) || true && true) then bif !nw.bits.sv (gn Q i.toNat) == nw.bits.sv (gn T i.toNat) then some (AVal.top, [{ c := BC.typ (Cont.flts FloatKind.f32 T), ver := (0 : Nat) }, { c := BC.typ (Cont.flts FloatKind.f32 Q), ver := (0 : Nat) }]) else L2 f k (mkS (146 : Nat) [((5 : Nat), AVal.flt FloatKind.f32 x), ((6 : Nat), AVal.flt FloatKind.f32 y), ((10 : Nat), AVal.own (0 : Nat) (0 : Nat) m (0 : Nat) (1 : Nat)), ((17 : Nat), AVal.own (1 : Nat) (0 : Nat) q (0 : Nat) (1 : Nat)), ((112 : Nat), AVal.int IntKind.i64 (↑m : Int)), ((113 : Nat), AVal.int IntKind.i64 (IntKind.i64.wrap (i + (1 : Int))))] [{ c := BC.typ (Cont.flts FloatKind.f32 T), ver := (0 : Nat) }, { c := BC.typ (Cont.flts FloatKind.f32 Q), ver := (0 : Nat) }]) else none else none else none else none else none else bif true && (true && (true && true) || true && true) then bif true && (true && true || true && true) then bif true && (true && (true && true) || true && true) then bif nw.bits.sv (an.at.sv y x) == nw.bits.sv (an.at.sv y x) then bif nar.ok.sp (fwid.sv x) && (true && true || true && true) then bif true && (true && (true && true) || true && true) then bif nw.bits.sv (nar.sv (fwid.sv x)) == nw.bits.sv x then bif (1048576000 : Nat) == (1048576000 : Nat) && (true && true || true && true) then some (AVal.bool (FloatKind.f32.format.order (1065353216 : Nat) (1065353216 : Nat) == some Ordering.eq), [{ c := BC.typ (Cont.flts FloatKind.f32 T), ver := (0 : Nat) }, { c := BC.typ (Cont.flts FloatKind.f32 Q), ver := (0 : Nat) }]) else none else some (AVal.bool false, [{ c := BC.typ (Cont.flts FloatKind.f32 T), ver := (0 : Nat) }, { c := BC.typ (Cont.flts FloatKind.f32 Q), ver := (0 : Nat) }]) else none else none else some (AVal.bool false, [{ c := BC.typ (Cont.flts FloatKind.f32 T), ver := (0 : Nat) }, { c := BC.typ (Cont.flts FloatKind.f32 Q), ver := (0 : Nat) }]) else none else none else none) := by kernel_rfl
theorem gn_map (T : List Nat) (i : Nat) (h : i < T.length) : gn (T.map nt.canon.sv) i = nt.canon.sv (gn T i) := by
  simp [gn, h]
theorem gn_mem (T : List Nat) (i : Nat) (h : i < T.length) : gn T i ∈ T := by
  have e : gn T i = T[i] := by simp [gn, h]
  rw [e]; exact List.getElem_mem h
theorem loop2 (x y : Nat) (T Q : List Nat) (f : Nat) (hx : x < 4294967296) (hT : ∀ t ∈ T, t < 4294967296) (hQ : Q = T.map nt.canon.sv) (hm : T.length ≤ 256) : ∀ (d n i : Nat), i + d = T.length → d < n →
    regc [] (L2 f n (mkS 146 [(5, .flt .f32 x), (6, .flt .f32 y), (10, .own 0 0 T.length 0 1), (17, .own 1 0 Q.length 0 1), (112, .int .i64 ((T.length : Nat) : Int)), (113, .int .i64 ((i : Nat) : Int))] [⟨.typ (.flts .f32 T), 0⟩, ⟨.typ (.flts .f32 Q), 0⟩])) = some (.bool true, []) := by
  have hl : Q.length = T.length := by rw [hQ, List.length_map]
  have n1 := (fl.nar_wide hx).1
  have n2 := (fl.nar_wide hx).2
  have o1 : (FloatKind.f32.format.order 1065353216 1065353216 == some Ordering.eq) = true := by decide +kernel
  intro d
  induction d with
  | zero =>
    intro n i hi hn
    obtain ⟨n, rfl⟩ : ∃ k, n = k + 1 := ⟨n - 1, by omega⟩
    rw [round2]
    simp -implicitDefEqProofs (disch := omega) only [n1, n2, o1, beq_self_eq_true, take_one, set_one, decide_eq_true, decide_eq_false, IntWalk.i64_in, beqT, beqF, bneT, bneF, nat_succ, ← Int.natCast_mul, ← Int.natCast_add, Int.toNat_natCast, Int.zero_mul, Int.zero_add, Int.add_zero, Nat.zero_add, Nat.add_zero, Nat.zero_mul, List.length_singleton, List.length_append, List.length_nil, List.length_cons, List.take_length, List.drop_zero, List.replicate_zero, List.take_nil, List.nil_append, Nat.reduceBEq, Nat.reduceMul, Nat.reduceLeDiff, eq_self, and_self, true_and, and_true, decide_true, decide_false, Bool.and_self, Bool.or_self, Bool.and_true, Bool.true_and, Bool.and_false, Bool.false_and, Bool.or_true, Bool.true_or, Bool.or_false, Bool.false_or, Bool.not_true, Bool.not_false, cond_true, cond_false]
    try rfl
  | succ d ih =>
    intro n i hi hn
    obtain ⟨n, rfl⟩ : ∃ k, n = k + 1 := ⟨n - 1, by omega⟩
    have g := ih n (i + 1) (by omega) (by omega)
    have hg : nw.bits.sv (gn Q i) = nw.bits.sv (gn T i) := by
      rw [hQ, gn_map T i (by omega)]
      exact nt.canon_bits (hT _ (gn_mem T i (by omega)))
    rw [round2]
    simp -implicitDefEqProofs (disch := omega) only [hg, beq_self_eq_true, take_one, set_one, decide_eq_true, decide_eq_false, IntWalk.i64_in, beqT, beqF, bneT, bneF, nat_succ, ← Int.natCast_mul, ← Int.natCast_add, Int.toNat_natCast, Int.zero_mul, Int.zero_add, Int.add_zero, Nat.zero_add, Nat.add_zero, Nat.zero_mul, List.length_singleton, List.length_append, List.length_nil, List.length_cons, List.take_length, List.drop_zero, List.replicate_zero, List.take_nil, List.nil_append, Nat.reduceBEq, Nat.reduceMul, Nat.reduceLeDiff, eq_self, and_self, true_and, and_true, decide_true, decide_false, Bool.and_self, Bool.or_self, Bool.and_true, Bool.true_and, Bool.and_false, Bool.false_and, Bool.or_true, Bool.true_or, Bool.or_false, Bool.false_or, Bool.not_true, Bool.not_false, cond_true, cond_false]
    exact g
theorem loop0 (x y w z : Nat) (T : List Nat) (f : Nat) (hf : 300 ≤ f) (hx : x < 4294967296) (hT : ∀ t ∈ T, t < 4294967296) (hm : T.length ≤ 256) (hw : (nw.bits.sv w == nw.bits.sv x) = true) (hz : nw.sub.sp z = false) (hs : (nw.sub.sp x == (nw.bits.sv x == nw.bits.sv z)) = false) : ∀ (d n i v : Nat), i + d = T.length → d < n → (T.drop i).foldl (fadd .f32) v = dw.sm.sv T →
    regc [] (L0 f n (mkS 146 [(5, .flt .f32 x), (6, .flt .f32 y), (7, .flt .f32 w), (8, .bool true), (9, .flt .f32 z), (10, .own 0 0 T.length 0 1), (11, .flt .f32 v), (40, .int .i64 ((T.length : Nat) : Int)), (41, .int .i64 ((i : Nat) : Int))] [⟨.typ (.flts .f32 T), 0⟩])) = some (.bool true, []) := by
  have hl : (T.map nt.canon.sv).length = T.length := List.length_map _
  have hr := nt.tx_ok hT hm
  have ht := nt.rd_tx hT
  have hA : (∀ t ∈ T, t < 4294967296) = True := eq_true hT
  intro d
  induction d with
  | zero =>
    intro n i v hi hn hv
    obtain ⟨n, rfl⟩ : ∃ k, n = k + 1 := ⟨n - 1, by omega⟩
    rw [List.drop_eq_nil_of_le (by omega), List.foldl_nil] at hv
    subst hv
    have g := loop2 x y T (T.map nt.canon.sv) f hx hT rfl hm T.length f 0 (by omega) (by omega)
    rw [hl] at g
    rw [round0]
    simp -implicitDefEqProofs (disch := omega) only [hr, ht, hA, hw, hz, hs, hl, beq_self_eq_true, take_one, set_one, decide_eq_true, decide_eq_false, IntWalk.i64_in, beqT, beqF, bneT, bneF, nat_succ, ← Int.natCast_mul, ← Int.natCast_add, Int.toNat_natCast, Int.zero_mul, Int.zero_add, Int.add_zero, Nat.zero_add, Nat.add_zero, Nat.zero_mul, List.length_singleton, List.length_append, List.length_nil, List.length_cons, List.take_length, List.drop_zero, List.replicate_zero, List.take_nil, List.nil_append, Nat.reduceBEq, Nat.reduceMul, Nat.reduceLeDiff, eq_self, and_self, true_and, and_true, decide_true, decide_false, Bool.and_self, Bool.or_self, Bool.and_true, Bool.true_and, Bool.and_false, Bool.false_and, Bool.or_true, Bool.true_or, Bool.or_false, Bool.false_or, Bool.not_true, Bool.not_false, cond_true, cond_false]
    exact g
  | succ d ih =>
    intro n i v hi hn hv
    obtain ⟨n, rfl⟩ : ∃ k, n = k + 1 := ⟨n - 1, by omega⟩
    have hlt : i < T.length := by omega
    have hg : gn T i = T[i] := by simp [gn, hlt]
    rw [List.drop_eq_getElem_cons hlt, List.foldl_cons, ← hg] at hv
    have g := ih n (i + 1) (fadd .f32 v (gn T i)) (by omega) (by omega) hv
    rw [round0]
    simp -implicitDefEqProofs (disch := omega) only [take_one, set_one, decide_eq_true, decide_eq_false, IntWalk.i64_in, beqT, beqF, bneT, bneF, nat_succ, ← Int.natCast_mul, ← Int.natCast_add, Int.toNat_natCast, Int.zero_mul, Int.zero_add, Int.add_zero, Nat.zero_add, Nat.add_zero, Nat.zero_mul, List.length_singleton, List.length_append, List.length_nil, List.length_cons, List.take_length, List.drop_zero, List.replicate_zero, List.take_nil, List.nil_append, Nat.reduceBEq, Nat.reduceMul, Nat.reduceLeDiff, eq_self, and_self, true_and, and_true, decide_true, decide_false, Bool.and_self, Bool.or_self, Bool.and_true, Bool.true_and, Bool.and_false, Bool.false_and, Bool.or_true, Bool.true_or, Bool.or_false, Bool.false_or, Bool.not_true, Bool.not_false, cond_true, cond_false]
    exact g
theorem run : ∀ args v new, R args = some (true, v, new) → ∃ fuel, regc [] (runFn Tryz.prog (orc [⟨5, b10Long.R⟩, ⟨19, B10Number.R⟩, ⟨21, BitsOf.R⟩, ⟨20, FromBits.R⟩, ⟨28, FlushNumber.R⟩, ⟨16, b10At.R⟩, ⟨29, B10Numbers.R⟩, ⟨30, SumNumbers.R⟩, ⟨31, NumbersText.R⟩, ⟨32, ReadNumbers.R⟩, ⟨10, sSameNumber.R⟩, ⟨33, IsSubnormal.R⟩, ⟨34, AngleTurns.R⟩, ⟨35, AngleOf.R⟩, ⟨36, NarrowNumber.R⟩, ⟨37, SineTurns.R⟩]) hd Dr.std none fuel (bodyOf Tryz.f4) 146 [4] args []) = some (v, new) := by
  intro args v new h
  unfold R at h
  split at h
  · rename_i xs m ys k
    simp only [Option.some.injEq, Prod.mk.injEq, Bool.and_eq_true, decide_eq_true_eq] at h
    obtain ⟨⟨⟨rfl, rfl⟩, hx, hy⟩, rfl, rfl⟩ := h
    obtain ⟨F, hF⟩ : ∃ F : Nat, F = 1000 := ⟨1000, rfl⟩
    refine ⟨F, ?_⟩
    rw [start]
    by_cases c1 : (1048576 : Int) < ((xs.length : Nat) : Int)
    · rw [decide_eq_true c1, Bool.true_or, cond_true]
      rfl
    · by_cases c2 : (1048576 : Int) < ((ys.length : Nat) : Int)
      · rw [decide_eq_true c2, Bool.or_true, cond_true]
        rfl
      · have a := wo.at_in hx 0 (n := 12) (by decide)
        have b := nt.bits_in (dw.n_lt hx)
        obtain ⟨q, hq⟩ : ∃ q : Nat, wo.at.sv xs 0 12 = (q : Int) := ⟨(wo.at.sv xs 0 12).toNat, by omega⟩
        have T1 := dw.fl_lt hy q 0 0
        have T2 := dw.fl_len ys q 0 0
        have hw : (nw.bits.sv (nw.bits.sv (dw.n.sv xs)).toNat == nw.bits.sv (dw.n.sv xs)) = true := by
          have := nt.canon_bits (dw.n_lt hx)
          unfold nt.canon.sv at this
          rw [this, beq_self_eq_true]
        have g := loop0 (dw.n.sv xs) (dw.n.sv ys) (nw.bits.sv (dw.n.sv xs)).toNat (nw.fl.sv (dw.n.sv xs)) (dw.fl.sv ys q 0 0) F (by omega) (dw.n_lt hx) T1 (by omega) hw (nw.fl_sub _) (nw.fl_same (dw.n_lt hx)) q F 0 0 (by omega) (by omega) rfl
        rw [T2] at g
        have z0 : Int.toNat 0 = 0 := rfl
        rw [hq] at a
        simp -implicitDefEqProofs (disch := omega) only [hx, hy, z0, hq, Int.toNat_natCast, take_one, set_one, decide_eq_true, decide_eq_false, IntWalk.i64_in, beqT, beqF, bneT, bneF, nat_succ, ← Int.natCast_mul, ← Int.natCast_add, Int.toNat_natCast, Int.zero_mul, Int.zero_add, Int.add_zero, Nat.zero_add, Nat.add_zero, Nat.zero_mul, List.length_singleton, List.length_append, List.length_nil, List.length_cons, List.take_length, List.drop_zero, List.replicate_zero, List.take_nil, List.nil_append, Nat.reduceBEq, Nat.reduceMul, Nat.reduceLeDiff, eq_self, and_self, true_and, and_true, decide_true, decide_false, Bool.and_self, Bool.or_self, Bool.and_true, Bool.true_and, Bool.and_false, Bool.false_and, Bool.or_true, Bool.true_or, Bool.or_false, Bool.false_or, Bool.not_true, Bool.not_false, cond_true, cond_false]
        exact g

  · cases h
theorem ok : EntOk Tryz.prog ⟨4, R⟩ :=
  ent_okAG (ks := []) mixed (A := (orc [⟨5, b10Long.R⟩, ⟨19, B10Number.R⟩, ⟨21, BitsOf.R⟩, ⟨20, FromBits.R⟩, ⟨28, FlushNumber.R⟩, ⟨16, b10At.R⟩, ⟨29, B10Numbers.R⟩, ⟨30, SumNumbers.R⟩, ⟨31, NumbersText.R⟩, ⟨32, ReadNumbers.R⟩, ⟨10, sSameNumber.R⟩, ⟨33, IsSubnormal.R⟩, ⟨34, AngleTurns.R⟩, ⟨35, AngleOf.R⟩, ⟨36, NarrowNumber.R⟩, ⟨37, SineTurns.R⟩])) (orc_ok (by simp only [List.mem_cons, List.not_mem_nil, or_false, forall_eq_or_imp, forall_eq]; exact ⟨b10Long.ok, B10Number.ok, BitsOf.ok, FromBits.ok, FlushNumber.ok, b10At.ok, B10Numbers.ok, SumNumbers.ok, NumbersText.ok, ReadNumbers.ok, sSameNumber.ok, IsSubnormal.ok, AngleTurns.ok, AngleOf.ok, NarrowNumber.ok, SineTurns.ok⟩)) Tryz.func4 (by kernel_rfl) (by kernel_rfl) (n := 146) (ts := [4]) (hd := hd) (dr := Dr.std) (cut := none) (by kernel_rfl) (by kernel_rfl) (by kernel_rfl) run
end lawNumbers

end Go.Proofs.YtjhofofieiiplaaGreatDoor.Ab
