/-
  Functions: turns come nearer to one another, once.
-/
import Derived.Test.YtgblgofmdhekiaaFnMI
namespace Go.Proofs.Ytgblgofmdhekiaa.Ab
open Go
set_option linter.unusedVariables false
set_option linter.unusedSimpArgs false
set_option maxRecDepth 100000

theorem ag.gc_arr {xs : List Nat} {i : Nat} (h : i < xs.length) : gc (ag.arr.sv xs) i = ag.a.sv xs[i] := by
  rw [gc_eq (by rw [ag.arr_length]; exact h)]
  unfold ag.arr.sv
  rw [List.getElem_map]
theorem one_setF (v : Nat) : (List.replicate 1 (0 : Nat)).set 0 v = [v] := rfl





namespace iAgreeOnce_t
def R : List AVal → Option (Bool × AVal × List Blk)
  | [.ro (.flts .f32 xs) m 1, .flt .f32 b] => some (decide (m = xs.length ∧ m ≤ 4611686018427387904) && ag.sp xs b, .tup [.own 0 0 (ag.o.sv xs b).length 0 1, .bool true], [⟨.typ (.flts .f32 (ag.o.sv xs b)), 0⟩])
  | _ => none
def hd : Nat → Head := fun i => bif eqN i 2 then ⟨[1, 6, 9, 11, 50, 51, 52], some 2⟩ else ⟨[0, 1, 6, 29, 30, 31], some 1⟩
noncomputable def LA (f n : Nat) (s : State) := loopAt Try.prog (orc [⟨65, areLong.R⟩, ⟨54, areFinite.R⟩, ⟨50, iIsFinite.R⟩, ⟨64, PhasorOf.R⟩, ⟨29, MeanArrow.R⟩, ⟨73, ConjugateOf.R⟩, ⟨72, MulComplex.R⟩]) hd Dr.std 0 f (bodyOf Try.f32) 0 [true, true, true, false, true] (retK Try.prog [4, 5] 0 none) n s
noncomputable def LB (f n : Nat) (s : State) := loopAt Try.prog (orc [⟨65, areLong.R⟩, ⟨54, areFinite.R⟩, ⟨50, iIsFinite.R⟩, ⟨64, PhasorOf.R⟩, ⟨29, MeanArrow.R⟩, ⟨73, ConjugateOf.R⟩, ⟨72, MulComplex.R⟩]) hd Dr.std 0 f (bodyOf Try.f32) 0 [true, true, true, true, true, true, true, false, true] (retK Try.prog [4, 5] 0 none) n s
theorem start (xs : List Nat) (b f : Nat) :
  runFn Try.prog (orc [⟨65, areLong.R⟩, ⟨54, areFinite.R⟩, ⟨50, iIsFinite.R⟩, ⟨64, PhasorOf.R⟩, ⟨29, MeanArrow.R⟩, ⟨73, ConjugateOf.R⟩, ⟨72, MulComplex.R⟩]) hd Dr.std none f (bodyOf Try.f32) 77 [4, 5] [.ro (.flts .f32 xs) xs.length 1, .flt .f32 b] []
  = (bif true && (true && true || true && true) then bif !(decide ((1 : Int) ≤ (↑xs.length : Int)) && decide ((↑xs.length : Int) ≤ (64 : Int))) then some (AVal.tup [AVal.nils, AVal.bool false], []) else bif decide (xs.length ≤ xs.length ∧ xs.length ≤ (4611686018427387904 : Nat)) && (true && true || true && true) then bif !!(List.take xs.length xs).any areFinite_1.sp then some (AVal.tup [AVal.nils, AVal.bool false], []) else bif true && (true && true || true && true) then bif !flo.fin.sp b then some (AVal.tup [AVal.nils, AVal.bool false], []) else LA f f (mkS (77 : Nat) [((0 : Nat), AVal.ro (Cont.flts FloatKind.f32 xs) xs.length (1 : Nat)), ((1 : Nat), AVal.flt FloatKind.f32 b), ((6 : Nat), AVal.own (0 : Nat) (0 : Nat) (0 : Nat) (0 : Nat) (1 : Nat)), ((29 : Nat), AVal.ro (Cont.flts FloatKind.f32 xs) xs.length (1 : Nat)), ((30 : Nat), AVal.int IntKind.i64 (↑xs.length : Int)), ((31 : Nat), AVal.int IntKind.i64 (0 : Int))] [{ c := BC.typ (Cont.cpxs FloatKind.f32 (List.replicate (0 : Nat) ((0 : Nat), (0 : Nat)))), ver := (0 : Nat) }]) else none else none else none) := by kernel_rfl
theorem roundA (xs : List Nat) (zs : List (Nat × Nat)) (b q i f n : Nat) :
  LA f (n + 1) (mkS 77 [(0, .ro (.flts .f32 xs) xs.length 1), (1, .flt .f32 b), (6, .own 0 0 q 0 1), (29, .ro (.flts .f32 xs) xs.length 1), (30, .int .i64 (xs.length : Int)), (31, .int .i64 (i : Int))] [⟨.typ (.cpxs .f32 zs), 0⟩])
  = (bif decide ((↑i : Int) < (↑xs.length : Int)) then bif true && (decide ((0 : Int) ≤ (↑i : Int)) && decide ((↑i : Int) < (↑xs.length : Int))) then bif decide ((↑i : Int).toNat < xs.length) then bif fl.ok.sp (fwid.sv (gn xs (↑i : Int).toNat)) && (true && true || true && true) then bif (1 : Nat) == (1 : Nat) && (1 : Nat) == (1 : Nat) && (true && (true && true) && (true && true && (decide (q + (List.take (1 : Nat) (List.drop (0 : Nat) ((List.replicate (1 : Nat) ((0 : Nat), (0 : Nat))).set (0 : Nat) (fl.re.sv (fwid.sv (gn xs (↑i : Int).toNat)), fl.im.sv (fwid.sv (gn xs (↑i : Int).toNat)))))).length ≤ (4611686018427387904 : Nat)) && decide ((q + (List.take (1 : Nat) (List.drop (0 : Nat) ((List.replicate (1 : Nat) ((0 : Nat), (0 : Nat))).set (0 : Nat) (fl.re.sv (fwid.sv (gn xs (↑i : Int).toNat)), fl.im.sv (fwid.sv (gn xs (↑i : Int).toNat)))))).length) * (8 : Nat) ≤ (140737488355328 : Nat))))) then LA f n (mkS (77 : Nat) [((0 : Nat), AVal.ro (Cont.flts FloatKind.f32 xs) xs.length (1 : Nat)), ((1 : Nat), AVal.flt FloatKind.f32 b), ((6 : Nat), AVal.own (0 : Nat) (0 : Nat) (q + (List.take (1 : Nat) (List.drop (0 : Nat) ((List.replicate (1 : Nat) ((0 : Nat), (0 : Nat))).set (0 : Nat) (fl.re.sv (fwid.sv (gn xs (↑i : Int).toNat)), fl.im.sv (fwid.sv (gn xs (↑i : Int).toNat)))))).length) (0 : Nat) (1 : Nat)), ((29 : Nat), AVal.ro (Cont.flts FloatKind.f32 xs) xs.length (1 : Nat)), ((30 : Nat), AVal.int IntKind.i64 (↑xs.length : Int)), ((31 : Nat), AVal.int IntKind.i64 (IntKind.i64.wrap ((↑i : Int) + (1 : Int))))] [{ c := BC.typ (Cont.cpxs FloatKind.f32 (List.take q zs ++ List.take (1 : Nat) (List.drop (0 : Nat) ((List.replicate (1 : Nat) ((0 : Nat), (0 : Nat))).set (0 : Nat) (fl.re.sv (fwid.sv (gn xs (↑i : Int).toNat)), fl.im.sv (fwid.sv (gn xs (↑i : Int).toNat))))))), ver := (0 : Nat) }]) else none else none else none else none else bif decide (q = zs.length ∧ (1 : Nat) ≤ q ∧ q ≤ (64 : Nat)) && zs.all fl.modc.sp && (false && true || true && true && true) then LB f f (mkS (77 : Nat) [((1 : Nat), AVal.flt FloatKind.f32 b), ((6 : Nat), AVal.own (0 : Nat) (0 : Nat) q (0 : Nat) (1 : Nat)), ((9 : Nat), AVal.cpx FloatKind.f32 (fl.mean.sv zs).1 (fl.mean.sv zs).2), ((11 : Nat), AVal.own (1 : Nat) (0 : Nat) (0 : Nat) (0 : Nat) (1 : Nat)), ((50 : Nat), AVal.ro (Cont.flts FloatKind.f32 xs) xs.length (1 : Nat)), ((51 : Nat), AVal.int IntKind.i64 (↑xs.length : Int)), ((52 : Nat), AVal.int IntKind.i64 (0 : Int))] [{ c := BC.typ (Cont.cpxs FloatKind.f32 zs), ver := (0 : Nat) }, { c := BC.typ (Cont.flts FloatKind.f32 (List.replicate (0 : Nat) (0 : Nat))), ver := (0 : Nat) }]) else none) := by kernel_rfl
theorem roundB (xs os : List Nat) (zs : List (Nat × Nat)) (b mr mi q p i f n : Nat) :
  LB f (n + 1) (mkS 77 [(1, .flt .f32 b), (6, .own 0 0 q 0 1), (9, .cpx .f32 mr mi), (11, .own 1 0 p 0 1), (50, .ro (.flts .f32 xs) xs.length 1), (51, .int .i64 (xs.length : Int)), (52, .int .i64 (i : Int))] [⟨.typ (.cpxs .f32 zs), 0⟩, ⟨.typ (.flts .f32 os), 0⟩])
  = (bif decide ((↑i : Int) < (↑xs.length : Int)) then bif true && (decide ((0 : Int) ≤ (↑i : Int)) && decide ((↑i : Int) < (↑xs.length : Int))) then bif decide ((↑i : Int).toNat < xs.length) then bif true && (decide ((0 : Int) ≤ (↑i : Int)) && decide ((↑i : Int) < (↑q : Int))) then bif true && decide ((↑i : Int).toNat < zs.length) then bif true && (true && true || true && true) then bif fl.mok.sp mr mi (gc zs (↑i : Int).toNat).1 (Op.negFloat FloatKind.f32 (gc zs (↑i : Int).toNat).2) && (true && (true && true) || true && true) then bif (1 : Nat) == (1 : Nat) && (1 : Nat) == (1 : Nat) && (true && (true && true) && (true && true && (decide (p + (List.take (1 : Nat) (List.drop (0 : Nat) ((List.replicate (1 : Nat) (0 : Nat)).set (0 : Nat) (fadd FloatKind.f32 (gn xs (↑i : Int).toNat) (fmul FloatKind.f32 b (fl.mim.sv mr mi (gc zs (↑i : Int).toNat).1 (Op.negFloat FloatKind.f32 (gc zs (↑i : Int).toNat).2))))))).length ≤ (4611686018427387904 : Nat)) && decide ((p + (List.take (1 : Nat) (List.drop (0 : Nat) ((List.replicate (1 : Nat) (0 : Nat)).set (0 : Nat) (fadd FloatKind.f32 (gn xs (↑i : Int).toNat) (fmul FloatKind.f32 b (fl.mim.sv mr mi (gc zs (↑i : Int).toNat).1 (Op.negFloat FloatKind.f32 (gc zs (↑i : Int).toNat).2))))))).length) * (4 : Nat) ≤ (140737488355328 : Nat))))) then LB f n (mkS (77 : Nat) [((1 : Nat), AVal.flt FloatKind.f32 b), ((6 : Nat), AVal.own (0 : Nat) (0 : Nat) q (0 : Nat) (1 : Nat)), ((9 : Nat), AVal.cpx FloatKind.f32 mr mi), ((11 : Nat), AVal.own (1 : Nat) (0 : Nat) (p + (List.take (1 : Nat) (List.drop (0 : Nat) ((List.replicate (1 : Nat) (0 : Nat)).set (0 : Nat) (fadd FloatKind.f32 (gn xs (↑i : Int).toNat) (fmul FloatKind.f32 b (fl.mim.sv mr mi (gc zs (↑i : Int).toNat).1 (Op.negFloat FloatKind.f32 (gc zs (↑i : Int).toNat).2))))))).length) (0 : Nat) (1 : Nat)), ((50 : Nat), AVal.ro (Cont.flts FloatKind.f32 xs) xs.length (1 : Nat)), ((51 : Nat), AVal.int IntKind.i64 (↑xs.length : Int)), ((52 : Nat), AVal.int IntKind.i64 (IntKind.i64.wrap ((↑i : Int) + (1 : Int))))] [{ c := BC.typ (Cont.cpxs FloatKind.f32 zs), ver := (0 : Nat) }, { c := BC.typ (Cont.flts FloatKind.f32 (List.take p os ++ List.take (1 : Nat) (List.drop (0 : Nat) ((List.replicate (1 : Nat) (0 : Nat)).set (0 : Nat) (fadd FloatKind.f32 (gn xs (↑i : Int).toNat) (fmul FloatKind.f32 b (fl.mim.sv mr mi (gc zs (↑i : Int).toNat).1 (Op.negFloat FloatKind.f32 (gc zs (↑i : Int).toNat).2)))))))), ver := (0 : Nat) }]) else none else none else none else none else none else none else none else bif decide (p ≤ os.length ∧ p ≤ (4611686018427387904 : Nat)) && (false && true || true && true) then bif !!(List.take p os).any areFinite_1.sp then some (AVal.tup [AVal.nils, AVal.bool false], [{ c := BC.typ (Cont.cpxs FloatKind.f32 zs), ver := (0 : Nat) }, { c := BC.typ (Cont.flts FloatKind.f32 os), ver := (0 : Nat) }]) else some (AVal.tup [AVal.own (1 : Nat) (0 : Nat) p (0 : Nat) (1 : Nat), AVal.bool true], [{ c := BC.typ (Cont.cpxs FloatKind.f32 zs), ver := (0 : Nat) }, { c := BC.typ (Cont.flts FloatKind.f32 os), ver := (0 : Nat) }]) else none) := by kernel_rfl
theorem loopA (xs : List Nat) (b f : Nat) (hx1 : 1 ≤ xs.length) (hx : xs.length ≤ 64) (hf : xs.any areFinite_1.sp = false) : ∀ (d i n : Nat), i + d = xs.length → d < n →
    LA f n (mkS 77 [(0, .ro (.flts .f32 xs) xs.length 1), (1, .flt .f32 b), (6, .own 0 0 i 0 1), (29, .ro (.flts .f32 xs) xs.length 1), (30, .int .i64 (xs.length : Int)), (31, .int .i64 ((i : Nat) : Int))] [⟨.typ (.cpxs .f32 ((xs.take i).map ag.a.sv)), 0⟩]) = LB f f (mkS 77 [(1, .flt .f32 b), (6, .own 0 0 xs.length 0 1), (9, .cpx .f32 (ag.m.sv xs).1 (ag.m.sv xs).2), (11, .own 1 0 0 0 1), (50, .ro (.flts .f32 xs) xs.length 1), (51, .int .i64 (xs.length : Int)), (52, .int .i64 ((0 : Nat) : Int))] [⟨.typ (.cpxs .f32 (ag.arr.sv xs)), 0⟩, ⟨.typ (.flts .f32 []), 0⟩]) := by
  intro d
  induction d with
  | zero =>
    intro i n hi hn
    obtain ⟨n, rfl⟩ : ∃ k, n = k + 1 := ⟨n - 1, by omega⟩
    obtain rfl : i = xs.length := by omega
    have e : xs.map ag.a.sv = ag.arr.sv xs := rfl
    have em : fl.mean.sv (ag.arr.sv xs) = ag.m.sv xs := rfl
    have hm := ag.as_mod hf
    have hl := ag.arr_length xs
    have c1 : xs.length ≤ 1000 := by omega
    rw [List.take_length, e, roundA]
    simp -implicitDefEqProofs only [Int.lt_irrefl, hl, hm, em, c1, hx1, hx, List.replicate_zero, and_self, eq_self, decide_true, decide_false, Bool.and_self, Bool.or_self, Bool.and_true, Bool.true_and, Bool.and_false, Bool.false_and, Bool.or_true, Bool.true_or, Bool.or_false, Bool.false_or, Bool.not_true, Bool.not_false, cond_true, cond_false]
    try rfl
  | succ d ih =>
    intro i n hi hn
    obtain ⟨n, rfl⟩ : ∃ k, n = k + 1 := ⟨n - 1, by omega⟩
    have h1 : i < xs.length := by omega
    have h4 : (0 : Int) ≤ (i : Int) := Int.natCast_nonneg _
    have h5 : (i : Int) < (xs.length : Int) := by omega
    have wi : IntKind.i64.wrap ((i : Int) + 1) = ((i + 1 : Nat) : Int) := wrap_nat i (by omega)
    have hc : gn xs i = xs[i] := gn_eq h1
    have k0 : i + 1 ≤ 4611686018427387904 := by omega
    have k1 : (i + 1) * 8 ≤ 140737488355328 := by omega
    have k2 : (i + 1) * 4 ≤ 140737488355328 := by omega
    have hl : ((xs.take i).map ag.a.sv).length = i := by rw [List.length_map, List.length_take]; omega
    have ht : ((xs.take i).map ag.a.sv).take i = (xs.take i).map ag.a.sv := List.take_of_length_le (by omega)
    have hs : (xs.take i).map ag.a.sv ++ [ag.a.sv xs[i]] = (xs.take (i + 1)).map ag.a.sv := by rw [List.take_succ_eq_append_getElem h1, List.map_append]; rfl
    have ee : (fl.re.sv (fwid.sv xs[i]), fl.im.sv (fwid.sv xs[i])) = ag.a.sv xs[i] := rfl
    have hok := ag.ok_of hf (List.getElem_mem h1)
    have hih := ih (i + 1) n (by omega) (by omega)
    rw [← hs] at hih
    rw [roundA]
    simp -implicitDefEqProofs only [hok, ee, h4, h5, h1, wi, hc, ht, k0, k1, k2, ar.one_setC, one_setF, List.drop_zero, List.take_length, List.length_singleton, List.take_succ_cons, List.take_zero, Nat.reduceBEq, Int.toNat_natCast, decide_true, decide_false, Bool.and_self, Bool.or_self, Bool.and_true, Bool.true_and, Bool.and_false, Bool.false_and, Bool.or_true, Bool.true_or, Bool.or_false, Bool.false_or, Bool.not_true, Bool.not_false, cond_true, cond_false]
    exact hih
theorem loopB (xs : List Nat) (b f : Nat) (hx1 : 1 ≤ xs.length) (hx : xs.length ≤ 64) (hf : xs.any areFinite_1.sp = false) (hfo : (ag.o.sv xs b).any areFinite_1.sp = false) : ∀ (d i n : Nat), i + d = xs.length → d < n →
    LB f n (mkS 77 [(1, .flt .f32 b), (6, .own 0 0 xs.length 0 1), (9, .cpx .f32 (ag.m.sv xs).1 (ag.m.sv xs).2), (11, .own 1 0 i 0 1), (50, .ro (.flts .f32 xs) xs.length 1), (51, .int .i64 (xs.length : Int)), (52, .int .i64 ((i : Nat) : Int))] [⟨.typ (.cpxs .f32 (ag.arr.sv xs)), 0⟩, ⟨.typ (.flts .f32 ((xs.take i).map (ag.one.sv b (ag.m.sv xs)))), 0⟩]) = some (.tup [.own 1 0 xs.length 0 1, .bool true], [⟨.typ (.cpxs .f32 (ag.arr.sv xs)), 0⟩, ⟨.typ (.flts .f32 (ag.o.sv xs b)), 0⟩]) := by
  have hts : ag.t.sp xs = true := by
    simp only [ag.t.sp, hx1, hx, hf, decide_true, Bool.not_false, Bool.and_self]
  intro d
  induction d with
  | zero =>
    intro i n hi hn
    obtain ⟨n, rfl⟩ : ∃ k, n = k + 1 := ⟨n - 1, by omega⟩
    obtain rfl : i = xs.length := by omega
    have e : xs.map (ag.one.sv b (ag.m.sv xs)) = ag.o.sv xs b := rfl
    have hl := ag.o_length xs b
    have ht : (ag.o.sv xs b).take xs.length = ag.o.sv xs b := List.take_of_length_le (by omega)
    have c1 : xs.length ≤ 4611686018427387904 := by omega
    rw [List.take_length, e, roundB]
    simp -implicitDefEqProofs only [Int.lt_irrefl, hl, ht, c1, hfo,  Nat.le_refl, and_self, eq_self, decide_true, decide_false, Bool.and_self, Bool.or_self, Bool.and_true, Bool.true_and, Bool.and_false, Bool.false_and, Bool.or_true, Bool.true_or, Bool.or_false, Bool.false_or, Bool.not_true, Bool.not_false, cond_true, cond_false]
    try rfl
  | succ d ih =>
    intro i n hi hn
    obtain ⟨n, rfl⟩ : ∃ k, n = k + 1 := ⟨n - 1, by omega⟩
    have h1 : i < xs.length := by omega
    have h4 : (0 : Int) ≤ (i : Int) := Int.natCast_nonneg _
    have h5 : (i : Int) < (xs.length : Int) := by omega
    have wi : IntKind.i64.wrap ((i : Int) + 1) = ((i + 1 : Nat) : Int) := wrap_nat i (by omega)
    have hc : gn xs i = xs[i] := gn_eq h1
    have k0 : i + 1 ≤ 4611686018427387904 := by omega
    have k1 : (i + 1) * 8 ≤ 140737488355328 := by omega
    have k2 : (i + 1) * 4 ≤ 140737488355328 := by omega
    have hl : ((xs.take i).map (ag.one.sv b (ag.m.sv xs))).length = i := by rw [List.length_map, List.length_take]; omega
    have ht : ((xs.take i).map (ag.one.sv b (ag.m.sv xs))).take i = (xs.take i).map (ag.one.sv b (ag.m.sv xs)) := List.take_of_length_le (by omega)
    have hs : (xs.take i).map (ag.one.sv b (ag.m.sv xs)) ++ [ag.one.sv b (ag.m.sv xs) xs[i]] = (xs.take (i + 1)).map (ag.one.sv b (ag.m.sv xs)) := by rw [List.take_succ_eq_append_getElem h1, List.map_append]; rfl
    have hg := ag.gc_arr h1
    have h6 : i < (ag.arr.sv xs).length := by rw [ag.arr_length]; exact h1
    have ee : fadd .f32 xs[i] (fmul .f32 b (fl.mim.sv (ag.m.sv xs).1 (ag.m.sv xs).2 (ag.a.sv xs[i]).1 (Op.negFloat .f32 (ag.a.sv xs[i]).2))) = ag.one.sv b (ag.m.sv xs) xs[i] := rfl
    have hok := ag.mok hts (List.getElem_mem h1)
    have hih := ih (i + 1) n (by omega) (by omega)
    rw [← hs] at hih
    rw [roundB]
    simp -implicitDefEqProofs only [hg, h6, hok, ee, h4, h5, h1, wi, hc, ht, k0, k1, k2, ar.one_setC, one_setF, List.drop_zero, List.take_length, List.length_singleton, List.take_succ_cons, List.take_zero, Nat.reduceBEq, Int.toNat_natCast, decide_true, decide_false, Bool.and_self, Bool.or_self, Bool.and_true, Bool.true_and, Bool.and_false, Bool.false_and, Bool.or_true, Bool.true_or, Bool.or_false, Bool.false_or, Bool.not_true, Bool.not_false, cond_true, cond_false]
    exact hih
theorem run : ∀ args v new, R args = some (true, v, new) → ∃ fuel, regc [1] (runFn Try.prog (orc [⟨65, areLong.R⟩, ⟨54, areFinite.R⟩, ⟨50, iIsFinite.R⟩, ⟨64, PhasorOf.R⟩, ⟨29, MeanArrow.R⟩, ⟨73, ConjugateOf.R⟩, ⟨72, MulComplex.R⟩]) hd Dr.std none fuel (bodyOf Try.f32) 77 [4, 5] args []) = some (v, new) := by
  intro args v new h
  unfold R at h
  split at h
  · rename_i xs m b
    simp only [Option.some.injEq, Prod.mk.injEq, Bool.and_eq_true, decide_eq_true_eq, Bool.not_eq_true'] at h
    obtain ⟨⟨⟨rfl, h3⟩, hs⟩, rfl, rfl⟩ := h
    simp only [ag.sp, ag.t.sp, Bool.and_eq_true, decide_eq_true_eq, Bool.not_eq_true'] at hs
    obtain ⟨⟨⟨⟨b1, b2⟩, b3⟩, b4⟩, b5⟩ := hs
    obtain ⟨F, hF⟩ : ∃ F : Nat, F = 100 := ⟨100, rfl⟩
    refine ⟨F, ?_⟩
    have hA := loopA xs b F b1 b2 b3 xs.length 0 F (by omega) (by omega)
    have hB := loopB xs b F b1 b2 b3 b5 xs.length 0 F (by omega) (by omega)
    simp only [List.take_zero, List.map_nil] at hA hB
    have e1 : decide ((1 : Int) ≤ (xs.length : Int)) = decide (1 ≤ xs.length) := by congr 1; apply propext; omega
    have e2 : decide ((xs.length : Int) ≤ 64) = decide (xs.length ≤ 64) := by congr 1; apply propext; omega
    rw [start, ag.o_length]
    simp -implicitDefEqProofs only [h3, e1, e2, b1, b2, b3, b4, List.take_length, List.replicate_zero, Nat.le_refl, and_self, eq_self, decide_true, decide_false, Bool.and_self, Bool.or_self, Bool.and_true, Bool.true_and, Bool.and_false, Bool.false_and, Bool.or_true, Bool.true_or, Bool.or_false, Bool.false_or, Bool.not_true, Bool.not_false, cond_true, cond_false]
    exact (congrArg (regc [1]) (hA.trans hB)).trans rfl
  · cases h
theorem ok : EntOk Try.prog ⟨32, R⟩ :=
  ent_okAG (ks := [1]) mixed (A := (orc [⟨65, areLong.R⟩, ⟨54, areFinite.R⟩, ⟨50, iIsFinite.R⟩, ⟨64, PhasorOf.R⟩, ⟨29, MeanArrow.R⟩, ⟨73, ConjugateOf.R⟩, ⟨72, MulComplex.R⟩])) (orc_ok (by simp only [List.mem_cons, List.not_mem_nil, or_false, forall_eq_or_imp, forall_eq]; exact ⟨areLong.ok, areFinite.ok, iIsFinite.ok, PhasorOf.ok, MeanArrow.ok, ConjugateOf.ok, MulComplex.ok⟩)) Try.func32 (by kernel_rfl) (by kernel_rfl) (n := 77) (ts := [4, 5]) (hd := hd) (dr := Dr.std) (cut := none) (by kernel_rfl) (by kernel_rfl) (by kernel_rfl) run
end iAgreeOnce_t

namespace iAgreeOnce_f
def R : List AVal → Option (Bool × AVal × List Blk)
  | [.ro (.flts .f32 xs) m 1, .flt .f32 b] => some (decide (m = xs.length ∧ m ≤ 4611686018427387904) && !ag.sp xs b, .tup [.nils, .bool false], [])
  | _ => none
def hd : Nat → Head := fun i => bif eqN i 2 then ⟨[1, 6, 9, 11, 50, 51, 52], some 2⟩ else ⟨[0, 1, 6, 29, 30, 31], some 1⟩
noncomputable def LA (f n : Nat) (s : State) := loopAt Try.prog (orc [⟨65, areLong.R⟩, ⟨54, areFinite.R⟩, ⟨50, iIsFinite.R⟩, ⟨64, PhasorOf.R⟩, ⟨29, MeanArrow.R⟩, ⟨73, ConjugateOf.R⟩, ⟨72, MulComplex.R⟩]) hd Dr.std 0 f (bodyOf Try.f32) 0 [true, true, true, false, true] (retK Try.prog [4, 5] 0 none) n s
noncomputable def LB (f n : Nat) (s : State) := loopAt Try.prog (orc [⟨65, areLong.R⟩, ⟨54, areFinite.R⟩, ⟨50, iIsFinite.R⟩, ⟨64, PhasorOf.R⟩, ⟨29, MeanArrow.R⟩, ⟨73, ConjugateOf.R⟩, ⟨72, MulComplex.R⟩]) hd Dr.std 0 f (bodyOf Try.f32) 0 [true, true, true, true, true, true, true, false, true] (retK Try.prog [4, 5] 0 none) n s
theorem start (xs : List Nat) (b f : Nat) :
  runFn Try.prog (orc [⟨65, areLong.R⟩, ⟨54, areFinite.R⟩, ⟨50, iIsFinite.R⟩, ⟨64, PhasorOf.R⟩, ⟨29, MeanArrow.R⟩, ⟨73, ConjugateOf.R⟩, ⟨72, MulComplex.R⟩]) hd Dr.std none f (bodyOf Try.f32) 77 [4, 5] [.ro (.flts .f32 xs) xs.length 1, .flt .f32 b] []
  = (bif true && (true && true || true && true) then bif !(decide ((1 : Int) ≤ (↑xs.length : Int)) && decide ((↑xs.length : Int) ≤ (64 : Int))) then some (AVal.tup [AVal.nils, AVal.bool false], []) else bif decide (xs.length ≤ xs.length ∧ xs.length ≤ (4611686018427387904 : Nat)) && (true && true || true && true) then bif !!(List.take xs.length xs).any areFinite_1.sp then some (AVal.tup [AVal.nils, AVal.bool false], []) else bif true && (true && true || true && true) then bif !flo.fin.sp b then some (AVal.tup [AVal.nils, AVal.bool false], []) else LA f f (mkS (77 : Nat) [((0 : Nat), AVal.ro (Cont.flts FloatKind.f32 xs) xs.length (1 : Nat)), ((1 : Nat), AVal.flt FloatKind.f32 b), ((6 : Nat), AVal.own (0 : Nat) (0 : Nat) (0 : Nat) (0 : Nat) (1 : Nat)), ((29 : Nat), AVal.ro (Cont.flts FloatKind.f32 xs) xs.length (1 : Nat)), ((30 : Nat), AVal.int IntKind.i64 (↑xs.length : Int)), ((31 : Nat), AVal.int IntKind.i64 (0 : Int))] [{ c := BC.typ (Cont.cpxs FloatKind.f32 (List.replicate (0 : Nat) ((0 : Nat), (0 : Nat)))), ver := (0 : Nat) }]) else none else none else none) := by kernel_rfl
theorem roundA (xs : List Nat) (zs : List (Nat × Nat)) (b q i f n : Nat) :
  LA f (n + 1) (mkS 77 [(0, .ro (.flts .f32 xs) xs.length 1), (1, .flt .f32 b), (6, .own 0 0 q 0 1), (29, .ro (.flts .f32 xs) xs.length 1), (30, .int .i64 (xs.length : Int)), (31, .int .i64 (i : Int))] [⟨.typ (.cpxs .f32 zs), 0⟩])
  = (bif decide ((↑i : Int) < (↑xs.length : Int)) then bif true && (decide ((0 : Int) ≤ (↑i : Int)) && decide ((↑i : Int) < (↑xs.length : Int))) then bif decide ((↑i : Int).toNat < xs.length) then bif fl.ok.sp (fwid.sv (gn xs (↑i : Int).toNat)) && (true && true || true && true) then bif (1 : Nat) == (1 : Nat) && (1 : Nat) == (1 : Nat) && (true && (true && true) && (true && true && (decide (q + (List.take (1 : Nat) (List.drop (0 : Nat) ((List.replicate (1 : Nat) ((0 : Nat), (0 : Nat))).set (0 : Nat) (fl.re.sv (fwid.sv (gn xs (↑i : Int).toNat)), fl.im.sv (fwid.sv (gn xs (↑i : Int).toNat)))))).length ≤ (4611686018427387904 : Nat)) && decide ((q + (List.take (1 : Nat) (List.drop (0 : Nat) ((List.replicate (1 : Nat) ((0 : Nat), (0 : Nat))).set (0 : Nat) (fl.re.sv (fwid.sv (gn xs (↑i : Int).toNat)), fl.im.sv (fwid.sv (gn xs (↑i : Int).toNat)))))).length) * (8 : Nat) ≤ (140737488355328 : Nat))))) then LA f n (mkS (77 : Nat) [((0 : Nat), AVal.ro (Cont.flts FloatKind.f32 xs) xs.length (1 : Nat)), ((1 : Nat), AVal.flt FloatKind.f32 b), ((6 : Nat), AVal.own (0 : Nat) (0 : Nat) (q + (List.take (1 : Nat) (List.drop (0 : Nat) ((List.replicate (1 : Nat) ((0 : Nat), (0 : Nat))).set (0 : Nat) (fl.re.sv (fwid.sv (gn xs (↑i : Int).toNat)), fl.im.sv (fwid.sv (gn xs (↑i : Int).toNat)))))).length) (0 : Nat) (1 : Nat)), ((29 : Nat), AVal.ro (Cont.flts FloatKind.f32 xs) xs.length (1 : Nat)), ((30 : Nat), AVal.int IntKind.i64 (↑xs.length : Int)), ((31 : Nat), AVal.int IntKind.i64 (IntKind.i64.wrap ((↑i : Int) + (1 : Int))))] [{ c := BC.typ (Cont.cpxs FloatKind.f32 (List.take q zs ++ List.take (1 : Nat) (List.drop (0 : Nat) ((List.replicate (1 : Nat) ((0 : Nat), (0 : Nat))).set (0 : Nat) (fl.re.sv (fwid.sv (gn xs (↑i : Int).toNat)), fl.im.sv (fwid.sv (gn xs (↑i : Int).toNat))))))), ver := (0 : Nat) }]) else none else none else none else none else bif decide (q = zs.length ∧ (1 : Nat) ≤ q ∧ q ≤ (64 : Nat)) && zs.all fl.modc.sp && (false && true || true && true && true) then LB f f (mkS (77 : Nat) [((1 : Nat), AVal.flt FloatKind.f32 b), ((6 : Nat), AVal.own (0 : Nat) (0 : Nat) q (0 : Nat) (1 : Nat)), ((9 : Nat), AVal.cpx FloatKind.f32 (fl.mean.sv zs).1 (fl.mean.sv zs).2), ((11 : Nat), AVal.own (1 : Nat) (0 : Nat) (0 : Nat) (0 : Nat) (1 : Nat)), ((50 : Nat), AVal.ro (Cont.flts FloatKind.f32 xs) xs.length (1 : Nat)), ((51 : Nat), AVal.int IntKind.i64 (↑xs.length : Int)), ((52 : Nat), AVal.int IntKind.i64 (0 : Int))] [{ c := BC.typ (Cont.cpxs FloatKind.f32 zs), ver := (0 : Nat) }, { c := BC.typ (Cont.flts FloatKind.f32 (List.replicate (0 : Nat) (0 : Nat))), ver := (0 : Nat) }]) else none) := by kernel_rfl
theorem roundB (xs os : List Nat) (zs : List (Nat × Nat)) (b mr mi q p i f n : Nat) :
  LB f (n + 1) (mkS 77 [(1, .flt .f32 b), (6, .own 0 0 q 0 1), (9, .cpx .f32 mr mi), (11, .own 1 0 p 0 1), (50, .ro (.flts .f32 xs) xs.length 1), (51, .int .i64 (xs.length : Int)), (52, .int .i64 (i : Int))] [⟨.typ (.cpxs .f32 zs), 0⟩, ⟨.typ (.flts .f32 os), 0⟩])
  = (bif decide ((↑i : Int) < (↑xs.length : Int)) then bif true && (decide ((0 : Int) ≤ (↑i : Int)) && decide ((↑i : Int) < (↑xs.length : Int))) then bif decide ((↑i : Int).toNat < xs.length) then bif true && (decide ((0 : Int) ≤ (↑i : Int)) && decide ((↑i : Int) < (↑q : Int))) then bif true && decide ((↑i : Int).toNat < zs.length) then bif true && (true && true || true && true) then bif fl.mok.sp mr mi (gc zs (↑i : Int).toNat).1 (Op.negFloat FloatKind.f32 (gc zs (↑i : Int).toNat).2) && (true && (true && true) || true && true) then bif (1 : Nat) == (1 : Nat) && (1 : Nat) == (1 : Nat) && (true && (true && true) && (true && true && (decide (p + (List.take (1 : Nat) (List.drop (0 : Nat) ((List.replicate (1 : Nat) (0 : Nat)).set (0 : Nat) (fadd FloatKind.f32 (gn xs (↑i : Int).toNat) (fmul FloatKind.f32 b (fl.mim.sv mr mi (gc zs (↑i : Int).toNat).1 (Op.negFloat FloatKind.f32 (gc zs (↑i : Int).toNat).2))))))).length ≤ (4611686018427387904 : Nat)) && decide ((p + (List.take (1 : Nat) (List.drop (0 : Nat) ((List.replicate (1 : Nat) (0 : Nat)).set (0 : Nat) (fadd FloatKind.f32 (gn xs (↑i : Int).toNat) (fmul FloatKind.f32 b (fl.mim.sv mr mi (gc zs (↑i : Int).toNat).1 (Op.negFloat FloatKind.f32 (gc zs (↑i : Int).toNat).2))))))).length) * (4 : Nat) ≤ (140737488355328 : Nat))))) then LB f n (mkS (77 : Nat) [((1 : Nat), AVal.flt FloatKind.f32 b), ((6 : Nat), AVal.own (0 : Nat) (0 : Nat) q (0 : Nat) (1 : Nat)), ((9 : Nat), AVal.cpx FloatKind.f32 mr mi), ((11 : Nat), AVal.own (1 : Nat) (0 : Nat) (p + (List.take (1 : Nat) (List.drop (0 : Nat) ((List.replicate (1 : Nat) (0 : Nat)).set (0 : Nat) (fadd FloatKind.f32 (gn xs (↑i : Int).toNat) (fmul FloatKind.f32 b (fl.mim.sv mr mi (gc zs (↑i : Int).toNat).1 (Op.negFloat FloatKind.f32 (gc zs (↑i : Int).toNat).2))))))).length) (0 : Nat) (1 : Nat)), ((50 : Nat), AVal.ro (Cont.flts FloatKind.f32 xs) xs.length (1 : Nat)), ((51 : Nat), AVal.int IntKind.i64 (↑xs.length : Int)), ((52 : Nat), AVal.int IntKind.i64 (IntKind.i64.wrap ((↑i : Int) + (1 : Int))))] [{ c := BC.typ (Cont.cpxs FloatKind.f32 zs), ver := (0 : Nat) }, { c := BC.typ (Cont.flts FloatKind.f32 (List.take p os ++ List.take (1 : Nat) (List.drop (0 : Nat) ((List.replicate (1 : Nat) (0 : Nat)).set (0 : Nat) (fadd FloatKind.f32 (gn xs (↑i : Int).toNat) (fmul FloatKind.f32 b (fl.mim.sv mr mi (gc zs (↑i : Int).toNat).1 (Op.negFloat FloatKind.f32 (gc zs (↑i : Int).toNat).2)))))))), ver := (0 : Nat) }]) else none else none else none else none else none else none else none else bif decide (p ≤ os.length ∧ p ≤ (4611686018427387904 : Nat)) && (false && true || true && true) then bif !!(List.take p os).any areFinite_1.sp then some (AVal.tup [AVal.nils, AVal.bool false], [{ c := BC.typ (Cont.cpxs FloatKind.f32 zs), ver := (0 : Nat) }, { c := BC.typ (Cont.flts FloatKind.f32 os), ver := (0 : Nat) }]) else some (AVal.tup [AVal.own (1 : Nat) (0 : Nat) p (0 : Nat) (1 : Nat), AVal.bool true], [{ c := BC.typ (Cont.cpxs FloatKind.f32 zs), ver := (0 : Nat) }, { c := BC.typ (Cont.flts FloatKind.f32 os), ver := (0 : Nat) }]) else none) := by kernel_rfl
theorem loopA (xs : List Nat) (b f : Nat) (hx1 : 1 ≤ xs.length) (hx : xs.length ≤ 64) (hf : xs.any areFinite_1.sp = false) : ∀ (d i n : Nat), i + d = xs.length → d < n →
    LA f n (mkS 77 [(0, .ro (.flts .f32 xs) xs.length 1), (1, .flt .f32 b), (6, .own 0 0 i 0 1), (29, .ro (.flts .f32 xs) xs.length 1), (30, .int .i64 (xs.length : Int)), (31, .int .i64 ((i : Nat) : Int))] [⟨.typ (.cpxs .f32 ((xs.take i).map ag.a.sv)), 0⟩]) = LB f f (mkS 77 [(1, .flt .f32 b), (6, .own 0 0 xs.length 0 1), (9, .cpx .f32 (ag.m.sv xs).1 (ag.m.sv xs).2), (11, .own 1 0 0 0 1), (50, .ro (.flts .f32 xs) xs.length 1), (51, .int .i64 (xs.length : Int)), (52, .int .i64 ((0 : Nat) : Int))] [⟨.typ (.cpxs .f32 (ag.arr.sv xs)), 0⟩, ⟨.typ (.flts .f32 []), 0⟩]) := by
  intro d
  induction d with
  | zero =>
    intro i n hi hn
    obtain ⟨n, rfl⟩ : ∃ k, n = k + 1 := ⟨n - 1, by omega⟩
    obtain rfl : i = xs.length := by omega
    have e : xs.map ag.a.sv = ag.arr.sv xs := rfl
    have em : fl.mean.sv (ag.arr.sv xs) = ag.m.sv xs := rfl
    have hm := ag.as_mod hf
    have hl := ag.arr_length xs
    have c1 : xs.length ≤ 1000 := by omega
    rw [List.take_length, e, roundA]
    simp -implicitDefEqProofs only [Int.lt_irrefl, hl, hm, em, c1, hx1, hx, List.replicate_zero, and_self, eq_self, decide_true, decide_false, Bool.and_self, Bool.or_self, Bool.and_true, Bool.true_and, Bool.and_false, Bool.false_and, Bool.or_true, Bool.true_or, Bool.or_false, Bool.false_or, Bool.not_true, Bool.not_false, cond_true, cond_false]
    try rfl
  | succ d ih =>
    intro i n hi hn
    obtain ⟨n, rfl⟩ : ∃ k, n = k + 1 := ⟨n - 1, by omega⟩
    have h1 : i < xs.length := by omega
    have h4 : (0 : Int) ≤ (i : Int) := Int.natCast_nonneg _
    have h5 : (i : Int) < (xs.length : Int) := by omega
    have wi : IntKind.i64.wrap ((i : Int) + 1) = ((i + 1 : Nat) : Int) := wrap_nat i (by omega)
    have hc : gn xs i = xs[i] := gn_eq h1
    have k0 : i + 1 ≤ 4611686018427387904 := by omega
    have k1 : (i + 1) * 8 ≤ 140737488355328 := by omega
    have k2 : (i + 1) * 4 ≤ 140737488355328 := by omega
    have hl : ((xs.take i).map ag.a.sv).length = i := by rw [List.length_map, List.length_take]; omega
    have ht : ((xs.take i).map ag.a.sv).take i = (xs.take i).map ag.a.sv := List.take_of_length_le (by omega)
    have hs : (xs.take i).map ag.a.sv ++ [ag.a.sv xs[i]] = (xs.take (i + 1)).map ag.a.sv := by rw [List.take_succ_eq_append_getElem h1, List.map_append]; rfl
    have ee : (fl.re.sv (fwid.sv xs[i]), fl.im.sv (fwid.sv xs[i])) = ag.a.sv xs[i] := rfl
    have hok := ag.ok_of hf (List.getElem_mem h1)
    have hih := ih (i + 1) n (by omega) (by omega)
    rw [← hs] at hih
    rw [roundA]
    simp -implicitDefEqProofs only [hok, ee, h4, h5, h1, wi, hc, ht, k0, k1, k2, ar.one_setC, one_setF, List.drop_zero, List.take_length, List.length_singleton, List.take_succ_cons, List.take_zero, Nat.reduceBEq, Int.toNat_natCast, decide_true, decide_false, Bool.and_self, Bool.or_self, Bool.and_true, Bool.true_and, Bool.and_false, Bool.false_and, Bool.or_true, Bool.true_or, Bool.or_false, Bool.false_or, Bool.not_true, Bool.not_false, cond_true, cond_false]
    exact hih
theorem loopB (xs : List Nat) (b f : Nat) (hx1 : 1 ≤ xs.length) (hx : xs.length ≤ 64) (hf : xs.any areFinite_1.sp = false) (hfo : (ag.o.sv xs b).any areFinite_1.sp = true) : ∀ (d i n : Nat), i + d = xs.length → d < n →
    LB f n (mkS 77 [(1, .flt .f32 b), (6, .own 0 0 xs.length 0 1), (9, .cpx .f32 (ag.m.sv xs).1 (ag.m.sv xs).2), (11, .own 1 0 i 0 1), (50, .ro (.flts .f32 xs) xs.length 1), (51, .int .i64 (xs.length : Int)), (52, .int .i64 ((i : Nat) : Int))] [⟨.typ (.cpxs .f32 (ag.arr.sv xs)), 0⟩, ⟨.typ (.flts .f32 ((xs.take i).map (ag.one.sv b (ag.m.sv xs)))), 0⟩]) = some (.tup [.nils, .bool false], [⟨.typ (.cpxs .f32 (ag.arr.sv xs)), 0⟩, ⟨.typ (.flts .f32 (ag.o.sv xs b)), 0⟩]) := by
  have hts : ag.t.sp xs = true := by
    simp only [ag.t.sp, hx1, hx, hf, decide_true, Bool.not_false, Bool.and_self]
  intro d
  induction d with
  | zero =>
    intro i n hi hn
    obtain ⟨n, rfl⟩ : ∃ k, n = k + 1 := ⟨n - 1, by omega⟩
    obtain rfl : i = xs.length := by omega
    have e : xs.map (ag.one.sv b (ag.m.sv xs)) = ag.o.sv xs b := rfl
    have hl := ag.o_length xs b
    have ht : (ag.o.sv xs b).take xs.length = ag.o.sv xs b := List.take_of_length_le (by omega)
    have c1 : xs.length ≤ 4611686018427387904 := by omega
    rw [List.take_length, e, roundB]
    simp -implicitDefEqProofs only [Int.lt_irrefl, hl, ht, c1, hfo,  Nat.le_refl, and_self, eq_self, decide_true, decide_false, Bool.and_self, Bool.or_self, Bool.and_true, Bool.true_and, Bool.and_false, Bool.false_and, Bool.or_true, Bool.true_or, Bool.or_false, Bool.false_or, Bool.not_true, Bool.not_false, cond_true, cond_false]
    try rfl
  | succ d ih =>
    intro i n hi hn
    obtain ⟨n, rfl⟩ : ∃ k, n = k + 1 := ⟨n - 1, by omega⟩
    have h1 : i < xs.length := by omega
    have h4 : (0 : Int) ≤ (i : Int) := Int.natCast_nonneg _
    have h5 : (i : Int) < (xs.length : Int) := by omega
    have wi : IntKind.i64.wrap ((i : Int) + 1) = ((i + 1 : Nat) : Int) := wrap_nat i (by omega)
    have hc : gn xs i = xs[i] := gn_eq h1
    have k0 : i + 1 ≤ 4611686018427387904 := by omega
    have k1 : (i + 1) * 8 ≤ 140737488355328 := by omega
    have k2 : (i + 1) * 4 ≤ 140737488355328 := by omega
    have hl : ((xs.take i).map (ag.one.sv b (ag.m.sv xs))).length = i := by rw [List.length_map, List.length_take]; omega
    have ht : ((xs.take i).map (ag.one.sv b (ag.m.sv xs))).take i = (xs.take i).map (ag.one.sv b (ag.m.sv xs)) := List.take_of_length_le (by omega)
    have hs : (xs.take i).map (ag.one.sv b (ag.m.sv xs)) ++ [ag.one.sv b (ag.m.sv xs) xs[i]] = (xs.take (i + 1)).map (ag.one.sv b (ag.m.sv xs)) := by rw [List.take_succ_eq_append_getElem h1, List.map_append]; rfl
    have hg := ag.gc_arr h1
    have h6 : i < (ag.arr.sv xs).length := by rw [ag.arr_length]; exact h1
    have ee : fadd .f32 xs[i] (fmul .f32 b (fl.mim.sv (ag.m.sv xs).1 (ag.m.sv xs).2 (ag.a.sv xs[i]).1 (Op.negFloat .f32 (ag.a.sv xs[i]).2))) = ag.one.sv b (ag.m.sv xs) xs[i] := rfl
    have hok := ag.mok hts (List.getElem_mem h1)
    have hih := ih (i + 1) n (by omega) (by omega)
    rw [← hs] at hih
    rw [roundB]
    simp -implicitDefEqProofs only [hg, h6, hok, ee, h4, h5, h1, wi, hc, ht, k0, k1, k2, ar.one_setC, one_setF, List.drop_zero, List.take_length, List.length_singleton, List.take_succ_cons, List.take_zero, Nat.reduceBEq, Int.toNat_natCast, decide_true, decide_false, Bool.and_self, Bool.or_self, Bool.and_true, Bool.true_and, Bool.and_false, Bool.false_and, Bool.or_true, Bool.true_or, Bool.or_false, Bool.false_or, Bool.not_true, Bool.not_false, cond_true, cond_false]
    exact hih
theorem run : ∀ args v new, R args = some (true, v, new) → ∃ fuel, regc [] (runFn Try.prog (orc [⟨65, areLong.R⟩, ⟨54, areFinite.R⟩, ⟨50, iIsFinite.R⟩, ⟨64, PhasorOf.R⟩, ⟨29, MeanArrow.R⟩, ⟨73, ConjugateOf.R⟩, ⟨72, MulComplex.R⟩]) hd Dr.std none fuel (bodyOf Try.f32) 77 [4, 5] args []) = some (v, new) := by
  intro args v new h
  unfold R at h
  split at h
  · rename_i xs m b
    simp only [Option.some.injEq, Prod.mk.injEq, Bool.and_eq_true, decide_eq_true_eq, Bool.not_eq_true'] at h
    obtain ⟨⟨⟨rfl, h3⟩, hs⟩, rfl, rfl⟩ := h
    obtain ⟨F, hF⟩ : ∃ F : Nat, F = 100 := ⟨100, rfl⟩
    refine ⟨F, ?_⟩
    have e1 : decide ((1 : Int) ≤ (xs.length : Int)) = decide (1 ≤ xs.length) := by congr 1; apply propext; omega
    have e2 : decide ((xs.length : Int) ≤ 64) = decide (xs.length ≤ 64) := by congr 1; apply propext; omega
    rw [start]
    cases c1 : (decide (1 ≤ xs.length) && decide (xs.length ≤ 64))
    · simp -implicitDefEqProofs only [h3, e1, e2, c1, List.take_length, Nat.le_refl, and_self, eq_self, decide_true, decide_false, Bool.and_self, Bool.or_self, Bool.and_true, Bool.true_and, Bool.and_false, Bool.false_and, Bool.or_true, Bool.true_or, Bool.or_false, Bool.false_or, Bool.not_true, Bool.not_false, cond_true, cond_false]
      try rfl
    cases c2 : xs.any areFinite_1.sp
    case true =>
      simp -implicitDefEqProofs only [h3, e1, e2, c1, c2, List.take_length, Nat.le_refl, and_self, eq_self, decide_true, decide_false, Bool.and_self, Bool.or_self, Bool.and_true, Bool.true_and, Bool.and_false, Bool.false_and, Bool.or_true, Bool.true_or, Bool.or_false, Bool.false_or, Bool.not_true, Bool.not_false, cond_true, cond_false]
      try rfl
    cases c3 : flo.fin.sp b
    · simp -implicitDefEqProofs only [h3, e1, e2, c1, c2, c3, List.take_length, Nat.le_refl, and_self, eq_self, decide_true, decide_false, Bool.and_self, Bool.or_self, Bool.and_true, Bool.true_and, Bool.and_false, Bool.false_and, Bool.or_true, Bool.true_or, Bool.or_false, Bool.false_or, Bool.not_true, Bool.not_false, cond_true, cond_false]
      try rfl
    simp only [ag.sp, ag.t.sp, c1, c2, c3, Bool.not_false, Bool.and_self, Bool.true_and, Bool.not_eq_false'] at hs
    have c4 := c1
    simp only [Bool.and_eq_true, decide_eq_true_eq] at c4
    obtain ⟨b1, b2⟩ := c4
    have b3 := c2
    have hA := loopA xs b F b1 b2 b3 xs.length 0 F (by omega) (by omega)
    have hB := loopB xs b F b1 b2 b3 hs xs.length 0 F (by omega) (by omega)
    simp only [List.take_zero, List.map_nil] at hA hB
    simp -implicitDefEqProofs only [h3, e1, e2, c1, c2, c3, List.take_length, List.replicate_zero, Nat.le_refl, and_self, eq_self, decide_true, decide_false, Bool.and_self, Bool.or_self, Bool.and_true, Bool.true_and, Bool.and_false, Bool.false_and, Bool.or_true, Bool.true_or, Bool.or_false, Bool.false_or, Bool.not_true, Bool.not_false, cond_true, cond_false]
    exact (congrArg (regc []) (hA.trans hB)).trans rfl
  · cases h
theorem ok : EntOk Try.prog ⟨32, R⟩ :=
  ent_okAG (ks := []) mixed (A := (orc [⟨65, areLong.R⟩, ⟨54, areFinite.R⟩, ⟨50, iIsFinite.R⟩, ⟨64, PhasorOf.R⟩, ⟨29, MeanArrow.R⟩, ⟨73, ConjugateOf.R⟩, ⟨72, MulComplex.R⟩])) (orc_ok (by simp only [List.mem_cons, List.not_mem_nil, or_false, forall_eq_or_imp, forall_eq]; exact ⟨areLong.ok, areFinite.ok, iIsFinite.ok, PhasorOf.ok, MeanArrow.ok, ConjugateOf.ok, MulComplex.ok⟩)) Try.func32 (by kernel_rfl) (by kernel_rfl) (n := 77) (ts := [4, 5]) (hd := hd) (dr := Dr.std) (cut := none) (by kernel_rfl) (by kernel_rfl) (by kernel_rfl) run
end iAgreeOnce_f

namespace iAgreeOnce
def Rt := iAgreeOnce_t.R
def Rf := iAgreeOnce_f.R
theorem okt : EntOk Try.prog ⟨32, Rt⟩ := iAgreeOnce_t.ok
theorem okf : EntOk Try.prog ⟨32, Rf⟩ := iAgreeOnce_f.ok
end iAgreeOnce




end Go.Proofs.Ytgblgofmdhekiaa.Ab
