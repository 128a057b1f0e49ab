/-
  Functions: the first set that could do better alone: the reference.
-/
import Derived.Test.YtkoongajnnaeoaaFnHI
namespace Go.Proofs.Ytkoongajnnaeoaa.Ab
open Go
set_option linter.unusedVariables false
set_option linter.unusedSimpArgs false
set_option maxRecDepth 100000

namespace hse
/-- The first with a property, or the bound. -/
def fb (P : Nat → Bool) : Nat → Nat → Nat
  | 0, m => m
  | d + 1, m => bif P m then m else fb P d (m + 1)
def bp.sp (W : List (List Int)) (M : List Int) (n m : Nat) : Bool := bq.sp W M (mb.sv m n) (mb.sv m n).length 0 (fr.sv m n) false
def bm (W : List (List Int)) (M : List Int) : Nat := fb (bp.sp W M W.length) (2 ^ W.length - 1) 1
def hb.sp (W : List (List Int)) (M : List Int) : Bool := decide (bm W M < 2 ^ W.length)
def hb.sv (W : List (List Int)) (M : List Int) : List Int := bif hb.sp W M then mb.sv (bm W M) W.length else []
theorem fb_none {P : Nat → Bool} (h : ∀ m, P m = false) : ∀ d m, fb P d m = m + d := by
  intro d
  induction d with
  | zero => intro m; rfl
  | succ d ih => intro m; simp only [fb, h m, cond_false, ih]; omega
theorem pow_le {n : Nat} (h : n ≤ 5) : 1 ≤ 2 ^ n ∧ 2 ^ n ≤ 32 := ⟨Nat.one_le_two_pow, Nat.le_trans (Nat.pow_le_pow_right (by omega) h) (by decide)⟩
theorem hb_none {W : List (List Int)} {M : List Int} (v : V W W.length) (I : Inv W W.length M) (hM : ∀ i, i < W.length → 0 ≤ gz M i) : hb.sp W M = false := by
  unfold hb.sp bm
  rw [fb_none (P := bp.sp W M W.length) (fun m => no_block v I hM m)]
  have := Nat.one_le_two_pow (n := W.length)
  exact decide_eq_false (by omega)
def frp.sv (m n i : Nat) : List Bool := (List.range n).map fun j => decide (j < i) && !off.sp m j
theorem frp_length (m n i : Nat) : (frp.sv m n i).length = n := by simp [frp.sv]
theorem frp_zero (m n : Nat) : frp.sv m n 0 = List.replicate n false := by
  refine List.ext_getElem (by simp [frp.sv]) fun j h1 h2 => ?_
  simp [frp.sv]
theorem frp_all (m n : Nat) : frp.sv m n n = fr.sv m n := by
  refine List.ext_getElem (by simp [frp.sv, fr.sv]) fun j h1 h2 => ?_
  rw [frp_length] at h1
  simp [frp.sv, fr.sv, h1]
theorem frp_on {m n i : Nat} (hi : i < n) (h : off.sp m i = false) : (frp.sv m n i).set i true = frp.sv m n (i + 1) := by
  refine List.ext_getElem (by simp [frp.sv]) fun j h1 h2 => ?_
  rw [frp_length] at h2
  rw [List.getElem_set]
  by_cases e : i = j
  · subst e; simp [frp.sv, h]
  · rw [if_neg e]
    simp only [frp.sv, List.getElem_map, List.getElem_range]
    congr 1
    rw [decide_eq_decide]
    omega
theorem frp_off {m n i : Nat} (h : off.sp m i = true) : frp.sv m n i = frp.sv m n (i + 1) := by
  refine List.ext_getElem (by simp [frp.sv]) fun j h1 h2 => ?_
  simp only [frp.sv, List.getElem_map, List.getElem_range]
  by_cases e : j = i
  · subst e; simp [h]
  · congr 1
    rw [decide_eq_decide]
    omega
end hse

namespace sHouseBlock
def Rt : List AVal → Option (Bool × AVal × List Blk)
  | [.ro (.rows .i64 W) m 1, .ro (.ints .i64 M) k 1] => some (decide (m = W.length ∧ k = M.length ∧ M.length = W.length ∧ W.length ≤ 5) && (hse.sp W && (hse.odr.sp M && hse.hb.sp W M)), .tup [.own 0 0 (hse.hb.sv W M).length 0 1, .bool true], [⟨.typ (.ints .i64 (hse.hb.sv W M)), 0⟩])
  | _ => none
def Rf : List AVal → Option (Bool × AVal × List Blk)
  | [.ro (.rows .i64 W) m 1, .ro (.ints .i64 M) k 1] => some (decide (m = W.length ∧ k = M.length ∧ M.length = W.length ∧ W.length ≤ 5) && (hse.sp W && (hse.odr.sp M && !hse.hb.sp W M)), .tup [.nils, .bool false], [])
  | _ => none
def hd : Nat → Head := fun i => bif eqN i 0 then ⟨[998, 0, 1, 4, 5, 6, 7], none⟩ else ⟨[998, 0, 1, 4, 5, 6, 7, 8, 9, 10], none⟩
noncomputable def L0 (f n : Nat) (s : State) := loopAt Try.prog (orcW [⟨106, (l05Better.R 10)⟩] [⟨100, l05Whole.R⟩, ⟨103, l05Order.R⟩]) hd Dr.std 0 f (bodyOf Try.f46) 0 [true, true, true, false, true] (retK Try.prog [4, 5] 0 none) n s
noncomputable def L2 (f n n2 : Nat) (s : State) := loopAt Try.prog (orcW [⟨106, (l05Better.R 10)⟩] [⟨100, l05Whole.R⟩, ⟨103, l05Order.R⟩]) hd Dr.std 0 f (bodyAt (bodyOf Try.f46) [true, true, true, false, true]) (curAt (bodyOf Try.f46) 0 [true, true, true, false, true]) [true, false, true, true, false, true] (iterK (normE 0 (hd (curAt (bodyOf Try.f46) 0 [true, true, true, false, true]))) (L0 f n) (contAt Try.prog (orcW [⟨106, (l05Better.R 10)⟩] [⟨100, l05Whole.R⟩, ⟨103, l05Order.R⟩]) hd Dr.std 0 f (bodyOf Try.f46) 0 [true, true, true, false, true] (retK Try.prog [4, 5] 0 none))) n2 s
theorem start (W : List (List Int)) (M : List Int) (f : Nat) :
  runFn Try.prog (orcW [⟨106, (l05Better.R 10)⟩] [⟨100, l05Whole.R⟩, ⟨103, l05Order.R⟩]) hd Dr.std none f (bodyOf Try.f46) 56 [4, 5] [.ro (.rows .i64 W) W.length 1, .ro (.ints .i64 M) M.length 1] []
  = (bif decide (W.length = W.length) && hse.sp W && (true && true || true && true) then bif decide (M.length ≤ M.length ∧ M.length ≤ (4611686018427387904 : Nat) ∧ (0 : Int) ≤ (↑W.length : Int) ∧ (↑W.length : Int) ≤ (4611686018427387904 : Int)) && (true && (true && true) || true && true) then bif !order.sp (↑W.length : Int) (List.take M.length M) then some (AVal.tup [AVal.nils, AVal.bool false], []) else L0 f f (mkS (56 : Nat) [((0 : Nat), AVal.ro (Cont.rows IntKind.i64 W) W.length (1 : Nat)), ((1 : Nat), AVal.ro (Cont.ints IntKind.i64 M) M.length (1 : Nat)), ((4 : Nat), AVal.nils), ((5 : Nat), AVal.bool false), ((6 : Nat), AVal.int IntKind.i64 (↑W.length : Int)), ((7 : Nat), AVal.int IntKind.i64 (1 : Int))] []) else none else none) := by kernel_rfl
theorem round0 (W : List (List Int)) (M : List Int) (N : Nat) (m f n : Nat) :
  L0 f (n + 1) (mkS 56 [(0, .ro (.rows .i64 W) W.length 1), (1, .ro (.ints .i64 M) M.length 1), (4, .nils), (5, .bool false), (6, .int .i64 ((N : Nat) : Int)), (7, .int .i64 m)] [])
  = (bif decide ((0 : Int) ≤ IntKind.u64.wrap (↑N : Int)) then bif decide ((↑m : Int) < ishl.sv IntKind.i64 (1 : Int) (IntKind.u64.wrap (↑N : Int))) then bif (1 : Nat) == (1 : Nat) && ((↑N : Int) == (↑N : Int) && (decide ((0 : Int) ≤ (↑N : Int)) && (decide ((↑N : Int) * (1 : Int) ≤ (140737488355328 : Int)) && decide ((↑N : Int) ≤ (4611686018427387904 : Int))))) then L2 f n f (mkS (56 : Nat) [((0 : Nat), AVal.ro (Cont.rows IntKind.i64 W) W.length (1 : Nat)), ((1 : Nat), AVal.ro (Cont.ints IntKind.i64 M) M.length (1 : Nat)), ((4 : Nat), AVal.nils), ((5 : Nat), AVal.bool false), ((6 : Nat), AVal.int IntKind.i64 (↑N : Int)), ((7 : Nat), AVal.int IntKind.i64 (↑m : Int)), ((8 : Nat), AVal.own (0 : Nat) (0 : Nat) (0 : Nat) (0 : Nat) (1 : Nat)), ((9 : Nat), AVal.own (1 : Nat) (0 : Nat) (↑N : Int).toNat (0 : Nat) (1 : Nat)), ((10 : Nat), AVal.int IntKind.i64 (0 : Int))] [{ c := BC.typ (Cont.ints IntKind.i64 (List.replicate (0 : Nat) (0 : Int))), ver := (0 : Nat) }, { c := BC.typ (Cont.bools (List.replicate (↑N : Int).toNat false)), ver := (0 : Nat) }]) else none else some (AVal.tup [AVal.nils, AVal.bool false], []) else none) := by kernel_rfl
theorem round2 (W : List (List Int)) (M : List Int) (N : Nat) (set : List Int) (fr : List Bool) (m q i f n n2 : Nat) :
  L2 f n (n2 + 1) (mkS 56 [(0, .ro (.rows .i64 W) W.length 1), (1, .ro (.ints .i64 M) M.length 1), (4, .nils), (5, .bool false), (6, .int .i64 ((N : Nat) : Int)), (7, .int .i64 m), (8, .own 0 0 q 0 1), (9, .own 1 0 N 0 1), (10, .int .i64 i)] [⟨.typ (.ints .i64 set), 0⟩, ⟨.typ (.bools fr), 0⟩])
  = (bif decide ((↑i : Int) < (↑N : Int)) then bif decide ((0 : Int) ≤ IntKind.u64.wrap (↑i : Int)) then bif iand.sv IntKind.i64 (ishr.sv IntKind.i64 (↑m : Int) (IntKind.u64.wrap (↑i : Int))) (1 : Int) == (1 : Int) then bif (1 : Nat) == (1 : Nat) && (1 : Nat) == (1 : Nat) && (true && (true && true) && (true && true && (decide (q + (List.take (1 : Nat) (List.drop (0 : Nat) ((List.replicate (1 : Nat) (0 : Int)).set (0 : Nat) (↑i : Int)))).length ≤ (4611686018427387904 : Nat)) && decide ((q + (List.take (1 : Nat) (List.drop (0 : Nat) ((List.replicate (1 : Nat) (0 : Int)).set (0 : Nat) (↑i : Int)))).length) * (8 : Nat) ≤ (140737488355328 : Nat))))) then bif true && (decide ((0 : Int) ≤ (↑i : Int)) && decide ((↑i : Int) < (↑N : Int))) then bif true && (true && (decide ((↑i : Int).toNat < fr.length) && true)) then L2 f n n2 (mkS (56 : Nat) [((0 : Nat), AVal.ro (Cont.rows IntKind.i64 W) W.length (1 : Nat)), ((1 : Nat), AVal.ro (Cont.ints IntKind.i64 M) M.length (1 : Nat)), ((4 : Nat), AVal.nils), ((5 : Nat), AVal.bool false), ((6 : Nat), AVal.int IntKind.i64 (↑N : Int)), ((7 : Nat), AVal.int IntKind.i64 (↑m : Int)), ((8 : Nat), AVal.own (0 : Nat) (0 : Nat) (q + (List.take (1 : Nat) (List.drop (0 : Nat) ((List.replicate (1 : Nat) (0 : Int)).set (0 : Nat) (↑i : Int)))).length) (0 : Nat) (1 : Nat)), ((9 : Nat), AVal.own (1 : Nat) (0 : Nat) N (0 : Nat) (1 : Nat)), ((10 : Nat), AVal.int IntKind.i64 (IntKind.i64.wrap ((↑i : Int) + (1 : Int))))] [{ c := BC.typ (Cont.ints IntKind.i64 (List.take q set ++ List.take (1 : Nat) (List.drop (0 : Nat) ((List.replicate (1 : Nat) (0 : Int)).set (0 : Nat) (↑i : Int))))), ver := (0 : Nat) }, { c := BC.typ (Cont.bools (fr.set (↑i : Int).toNat true)), ver := (0 : Nat) }]) else none else none else none else L2 f n n2 (mkS (56 : Nat) [((0 : Nat), AVal.ro (Cont.rows IntKind.i64 W) W.length (1 : Nat)), ((1 : Nat), AVal.ro (Cont.ints IntKind.i64 M) M.length (1 : Nat)), ((4 : Nat), AVal.nils), ((5 : Nat), AVal.bool false), ((6 : Nat), AVal.int IntKind.i64 (↑N : Int)), ((7 : Nat), AVal.int IntKind.i64 (↑m : Int)), ((8 : Nat), AVal.own (0 : Nat) (0 : Nat) q (0 : Nat) (1 : Nat)), ((9 : Nat), AVal.own (1 : Nat) (0 : Nat) N (0 : Nat) (1 : Nat)), ((10 : Nat), AVal.int IntKind.i64 (IntKind.i64.wrap ((↑i : Int) + (1 : Int))))] [{ c := BC.typ (Cont.ints IntKind.i64 set), ver := (0 : Nat) }, { c := BC.typ (Cont.bools fr), ver := (0 : Nat) }]) else none else bif decide (W.length = W.length ∧ M.length = M.length ∧ M.length = W.length ∧ q = set.length ∧ N = W.length ∧ fr.length = W.length ∧ (0 : Int) ≤ (0 : Int) ∧ (0 : Int) ≤ (↑q : Int) ∧ (↑q : Int) - (0 : Int) < (↑(10 : Nat) : Int)) && (hse.sp W && (hse.mt.sp M && hse.st.sp set W.length)) && (true && (true && (true && true))) then bif hse.bq.sp W M set (q - (0 : Nat)) (0 : Nat) fr false then some (AVal.tup [AVal.own (0 : Nat) (0 : Nat) q (0 : Nat) (1 : Nat), AVal.bool true], [{ c := BC.typ (Cont.ints IntKind.i64 set), ver := (0 : Nat) }]) else L0 f n (mkS (56 : Nat) [((0 : Nat), AVal.ro (Cont.rows IntKind.i64 W) W.length (1 : Nat)), ((1 : Nat), AVal.ro (Cont.ints IntKind.i64 M) M.length (1 : Nat)), ((4 : Nat), AVal.nils), ((5 : Nat), AVal.bool false), ((6 : Nat), AVal.int IntKind.i64 (↑N : Int)), ((7 : Nat), AVal.int IntKind.i64 (IntKind.i64.wrap ((↑m : Int) + (1 : Int))))] []) else none) := by kernel_rfl
theorem loop2 (W : List (List Int)) (M : List Int) (N : Nat) (m f n : Nat) (v : hse.V W N) (hW : W.length = N) (hs : hse.sp W = true) (hm : hse.mt.sp M = true) (hl : M.length = N) (h5 : N ≤ 5) (hm32 : m < 32) : ∀ (d i n2 : Nat), i + d = N → d < n2 →
    L2 f n n2 (mkS 56 [(0, .ro (.rows .i64 W) W.length 1), (1, .ro (.ints .i64 M) M.length 1), (4, .nils), (5, .bool false), (6, .int .i64 ((N : Nat) : Int)), (7, .int .i64 ((m : Nat) : Int)), (8, .own 0 0 (hse.mb.sv m i).length 0 1), (9, .own 1 0 N 0 1), (10, .int .i64 ((i : Nat) : Int))] [⟨.typ (.ints .i64 (hse.mb.sv m i)), 0⟩, ⟨.typ (.bools (hse.frp.sv m N i)), 0⟩]) = (bif hse.bp.sp W M N m then some (.tup [.own 0 0 (hse.mb.sv m N).length 0 1, .bool true], [⟨.typ (.ints .i64 (hse.mb.sv m N)), 0⟩]) else L0 f n (mkS 56 [(0, .ro (.rows .i64 W) W.length 1), (1, .ro (.ints .i64 M) M.length 1), (4, .nils), (5, .bool false), (6, .int .i64 ((N : Nat) : Int)), (7, .int .i64 (((m + 1) : Nat) : Int))] [])) := by
  have hst : hse.st.sp (hse.mb.sv m N) N = true := hse.st_of (hse.mb_set m N)
  have ml := hse.mb_length m N
  intro d
  induction d with
  | zero =>
    intro i n2 hi hn
    obtain ⟨n2, rfl⟩ : ∃ q, n2 = q + 1 := ⟨n2 - 1, by omega⟩
    obtain rfl : i = N := by omega
    have hst2 : hse.st.sp (hse.mb.sv m i) W.length = true := by rw [hW]; exact hst
    have fl := hse.fr_length m i
    have e0 : (hse.mb.sv m i).length - 0 = (hse.mb.sv m i).length := Nat.sub_zero _
    rw [round2, hse.frp_all]
    unfold hse.bp.sp
    simp -implicitDefEqProofs (disch := omega) only [hs, hm, hst2, e0, take_one, set_one, decide_eq_true, decide_eq_false, IntWalk.i64_in, beqT, beqF, bneT, bneF, nat_succ, ← Int.natCast_mul, ← Int.natCast_add, Int.toNat_natCast, Int.zero_mul, Int.zero_add, Int.add_zero, Nat.zero_add, Nat.add_zero, Nat.zero_mul, List.length_singleton, List.length_append, List.length_nil, List.length_cons, List.take_length, List.drop_zero, List.replicate_zero, List.take_nil, List.nil_append, Nat.reduceBEq, Nat.reduceMul, Nat.reduceLeDiff, eq_self, and_self, true_and, and_true, decide_true, decide_false, Bool.and_self, Bool.or_self, Bool.and_true, Bool.true_and, Bool.and_false, Bool.false_and, Bool.or_true, Bool.true_or, Bool.or_false, Bool.false_or, Bool.not_true, Bool.not_false, cond_true, cond_false]
  | succ d ih =>
    intro i n2 hi hn
    obtain ⟨n2, rfl⟩ : ∃ q, n2 = q + 1 := ⟨n2 - 1, by omega⟩
    have g := ih (i + 1) n2 (by omega) (by omega)
    have fl := hse.frp_length m N i
    have il := hse.mb_length m i
    have u1 := hse.u64_nat i (by omega)
    have u2 := hse.shr_and m (by omega) i (by omega)
    have tz : (hse.mb.sv m i).take (hse.mb.sv m i).length = hse.mb.sv m i := List.take_of_length_le (Nat.le_refl _)
    rw [hse.mb.sv] at g
    rw [round2]
    cases ho : hse.off.sp m i
    · rw [ho, cond_false] at u2
      rw [ho, cond_false, ← hse.frp_on (by omega) ho, List.length_append, List.length_singleton] at g
      simp -implicitDefEqProofs (disch := omega) only [u1, u2, tz, List.length_set, take_one, set_one, decide_eq_true, decide_eq_false, IntWalk.i64_in, beqT, beqF, bneT, bneF, nat_succ, ← Int.natCast_mul, ← Int.natCast_add, Int.toNat_natCast, Int.zero_mul, Int.zero_add, Int.add_zero, Nat.zero_add, Nat.add_zero, Nat.zero_mul, List.length_singleton, List.length_append, List.length_nil, List.length_cons, List.take_length, List.drop_zero, List.replicate_zero, List.take_nil, List.nil_append, Nat.reduceBEq, Nat.reduceMul, Nat.reduceLeDiff, eq_self, and_self, true_and, and_true, decide_true, decide_false, Bool.and_self, Bool.or_self, Bool.and_true, Bool.true_and, Bool.and_false, Bool.false_and, Bool.or_true, Bool.true_or, Bool.or_false, Bool.false_or, Bool.not_true, Bool.not_false, cond_true, cond_false]
      exact g
    · rw [ho, cond_true] at u2
      rw [ho, cond_true, ← hse.frp_off ho] at g
      simp -implicitDefEqProofs (disch := omega) only [u1, u2, take_one, set_one, decide_eq_true, decide_eq_false, IntWalk.i64_in, beqT, beqF, bneT, bneF, nat_succ, ← Int.natCast_mul, ← Int.natCast_add, Int.toNat_natCast, Int.zero_mul, Int.zero_add, Int.add_zero, Nat.zero_add, Nat.add_zero, Nat.zero_mul, List.length_singleton, List.length_append, List.length_nil, List.length_cons, List.take_length, List.drop_zero, List.replicate_zero, List.take_nil, List.nil_append, Nat.reduceBEq, Nat.reduceMul, Nat.reduceLeDiff, eq_self, and_self, true_and, and_true, decide_true, decide_false, Bool.and_self, Bool.or_self, Bool.and_true, Bool.true_and, Bool.and_false, Bool.false_and, Bool.or_true, Bool.true_or, Bool.or_false, Bool.false_or, Bool.not_true, Bool.not_false, cond_true, cond_false]
      exact g
theorem loop0 (W : List (List Int)) (M : List Int) (N : Nat) (f : Nat) (hf : 100 < f) (v : hse.V W N) (hW : W.length = N) (hs : hse.sp W = true) (hm : hse.mt.sp M = true) (hl : M.length = N) (h5 : N ≤ 5) : ∀ (d m n : Nat), m + d = 2 ^ N → d < n → 1 ≤ m →
    L0 f n (mkS 56 [(0, .ro (.rows .i64 W) W.length 1), (1, .ro (.ints .i64 M) M.length 1), (4, .nils), (5, .bool false), (6, .int .i64 ((N : Nat) : Int)), (7, .int .i64 ((m : Nat) : Int))] []) = (bif decide ((hse.fb (hse.bp.sp W M N) d m) < 2 ^ N) then some (.tup [.own 0 0 (hse.mb.sv (hse.fb (hse.bp.sp W M N) d m) N).length 0 1, .bool true], [⟨.typ (.ints .i64 (hse.mb.sv (hse.fb (hse.bp.sp W M N) d m) N)), 0⟩]) else some (.tup [.nils, .bool false], [])) := by
  have hp := hse.pow_le h5
  have u1 := hse.u64_nat N (by omega)
  have u2 := hse.shl_one N (by omega)
  intro d
  induction d with
  | zero =>
    intro m n hm' hn h1
    obtain ⟨n, rfl⟩ : ∃ q, n = q + 1 := ⟨n - 1, by omega⟩
    have e : decide (m < 2 ^ N) = false := decide_eq_false (by omega)
    rw [round0, hse.fb, e]
    simp -implicitDefEqProofs (disch := omega) only [u1, u2, take_one, set_one, decide_eq_true, decide_eq_false, IntWalk.i64_in, beqT, beqF, bneT, bneF, nat_succ, ← Int.natCast_mul, ← Int.natCast_add, Int.toNat_natCast, Int.zero_mul, Int.zero_add, Int.add_zero, Nat.zero_add, Nat.add_zero, Nat.zero_mul, List.length_singleton, List.length_append, List.length_nil, List.length_cons, List.take_length, List.drop_zero, List.replicate_zero, List.take_nil, List.nil_append, Nat.reduceBEq, Nat.reduceMul, Nat.reduceLeDiff, eq_self, and_self, true_and, and_true, decide_true, decide_false, Bool.and_self, Bool.or_self, Bool.and_true, Bool.true_and, Bool.and_false, Bool.false_and, Bool.or_true, Bool.true_or, Bool.or_false, Bool.false_or, Bool.not_true, Bool.not_false, cond_true, cond_false]
  | succ d ih =>
    intro m n hm' hn h1
    obtain ⟨n, rfl⟩ : ∃ q, n = q + 1 := ⟨n - 1, by omega⟩
    have g := ih (m + 1) n (by omega) (by omega) (by omega)
    have g2 := loop2 W M N m f n v hW hs hm hl h5 (by omega) N 0 f (by omega) (by omega)
    have e : decide (m < 2 ^ N) = true := decide_eq_true (by omega)
    rw [hse.frp_zero] at g2
    rw [round0, hse.fb]
    simp -implicitDefEqProofs (disch := omega) only [u1, u2, take_one, set_one, decide_eq_true, decide_eq_false, IntWalk.i64_in, beqT, beqF, bneT, bneF, nat_succ, ← Int.natCast_mul, ← Int.natCast_add, Int.toNat_natCast, Int.zero_mul, Int.zero_add, Int.add_zero, Nat.zero_add, Nat.add_zero, Nat.zero_mul, List.length_singleton, List.length_append, List.length_nil, List.length_cons, List.take_length, List.drop_zero, List.replicate_zero, List.take_nil, List.nil_append, Nat.reduceBEq, Nat.reduceMul, Nat.reduceLeDiff, eq_self, and_self, true_and, and_true, decide_true, decide_false, Bool.and_self, Bool.or_self, Bool.and_true, Bool.true_and, Bool.and_false, Bool.false_and, Bool.or_true, Bool.true_or, Bool.or_false, Bool.false_or, Bool.not_true, Bool.not_false, cond_true, cond_false]
    refine g2.trans ?_
    cases hc : hse.bp.sp W M N m
    · exact g
    · simp only [cond_true, e]
theorem runt : ∀ args v new, Rt args = some (true, v, new) → ∃ fuel, regc [0] (runFn Try.prog (orcW [⟨106, (l05Better.R 10)⟩] [⟨100, l05Whole.R⟩, ⟨103, l05Order.R⟩]) hd Dr.std none fuel (bodyOf Try.f46) 56 [4, 5] args []) = some (v, new) := by
  intro args v new h
  unfold Rt at h
  split at h
  · rename_i W m M k
    simp only [Option.some.injEq, Prod.mk.injEq, Bool.and_eq_true, decide_eq_true_eq, Bool.not_eq_true'] at h
    obtain ⟨⟨⟨rfl, rfl, hl, h5⟩, hs, ho, hb⟩, rfl, rfl⟩ := h
    have v := hse.valid hs
    have h1 := v.h1
    have hu := hse.odr_uniq ho
    have hlI : ((M.length : Nat) : Int) = ((W.length : Nat) : Int) := by rw [hl]
    rw [hl] at hu
    have hm : hse.mt.sp M = true := by
      simp only [hse.mt.sp, List.all_eq_true, Bool.and_eq_true, decide_eq_true_eq]
      exact (hse.odr_in ho).1
    have eo : order.sp (W.length : Int) M = true := by
      simp only [order.sp, Bool.and_eq_true, decide_eq_true_eq]
      exact ⟨hu, hlI⟩
    obtain ⟨F, hF⟩ : ∃ F : Nat, F = 200 := ⟨200, rfl⟩
    refine ⟨F, ?_⟩
    have hp := hse.pow_le h5
    have g := loop0 W M W.length F (by omega) v rfl hs hm hl h5 (2 ^ W.length - 1) 1 F (by omega) (by omega) (by omega)
    have eb : decide (hse.fb (hse.bp.sp W M W.length) (2 ^ W.length - 1) 1 < 2 ^ W.length) = hse.hb.sp W M := rfl
    have em : hse.fb (hse.bp.sp W M W.length) (2 ^ W.length - 1) 1 = hse.bm W M := rfl
    rw [eb, hb, em] at g
    rw [start]
    simp -implicitDefEqProofs (disch := omega) only [hs, hu, eo, take_one, set_one, decide_eq_true, decide_eq_false, IntWalk.i64_in, beqT, beqF, bneT, bneF, nat_succ, ← Int.natCast_mul, ← Int.natCast_add, Int.toNat_natCast, Int.zero_mul, Int.zero_add, Int.add_zero, Nat.zero_add, Nat.add_zero, Nat.zero_mul, List.length_singleton, List.length_append, List.length_nil, List.length_cons, List.take_length, List.drop_zero, List.replicate_zero, List.take_nil, List.nil_append, Nat.reduceBEq, Nat.reduceMul, Nat.reduceLeDiff, eq_self, and_self, true_and, and_true, decide_true, decide_false, Bool.and_self, Bool.or_self, Bool.and_true, Bool.true_and, Bool.and_false, Bool.false_and, Bool.or_true, Bool.true_or, Bool.or_false, Bool.false_or, Bool.not_true, Bool.not_false, cond_true, cond_false]
    have ev : hse.hb.sv W M = hse.mb.sv (hse.bm W M) W.length := by unfold hse.hb.sv; rw [hb]; rfl
    rw [ev]
    exact (congrArg (regc [0]) g).trans rfl
  · cases h
theorem okt : EntOk Try.prog ⟨46, Rt⟩ :=
  ent_okAG (ks := [0]) mixed (A := (orcW [⟨106, (l05Better.R 10)⟩] [⟨100, l05Whole.R⟩, ⟨103, l05Order.R⟩])) (orcW_ok (by simp only [List.mem_cons, List.not_mem_nil, or_false, forall_eq_or_imp, forall_eq]; exact (l05Better.ok 10)) (by simp only [List.mem_cons, List.not_mem_nil, or_false, forall_eq_or_imp, forall_eq]; exact ⟨l05Whole.ok, l05Order.ok⟩)) Try.func46 (by kernel_rfl) (by kernel_rfl) (n := 56) (ts := [4, 5]) (hd := hd) (dr := Dr.std) (cut := none) (by kernel_rfl) (by kernel_rfl) (by kernel_rfl) runt
theorem runf : ∀ args v new, Rf args = some (true, v, new) → ∃ fuel, regc [] (runFn Try.prog (orcW [⟨106, (l05Better.R 10)⟩] [⟨100, l05Whole.R⟩, ⟨103, l05Order.R⟩]) hd Dr.std none fuel (bodyOf Try.f46) 56 [4, 5] args []) = some (v, new) := by
  intro args v new h
  unfold Rf at h
  split at h
  · rename_i W m M k
    simp only [Option.some.injEq, Prod.mk.injEq, Bool.and_eq_true, decide_eq_true_eq, Bool.not_eq_true'] at h
    obtain ⟨⟨⟨rfl, rfl, hl, h5⟩, hs, ho, hb⟩, rfl, rfl⟩ := h
    have v := hse.valid hs
    have h1 := v.h1
    have hu := hse.odr_uniq ho
    have hlI : ((M.length : Nat) : Int) = ((W.length : Nat) : Int) := by rw [hl]
    rw [hl] at hu
    have hm : hse.mt.sp M = true := by
      simp only [hse.mt.sp, List.all_eq_true, Bool.and_eq_true, decide_eq_true_eq]
      exact (hse.odr_in ho).1
    have eo : order.sp (W.length : Int) M = true := by
      simp only [order.sp, Bool.and_eq_true, decide_eq_true_eq]
      exact ⟨hu, hlI⟩
    obtain ⟨F, hF⟩ : ∃ F : Nat, F = 200 := ⟨200, rfl⟩
    refine ⟨F, ?_⟩
    have hp := hse.pow_le h5
    have g := loop0 W M W.length F (by omega) v rfl hs hm hl h5 (2 ^ W.length - 1) 1 F (by omega) (by omega) (by omega)
    have eb : decide (hse.fb (hse.bp.sp W M W.length) (2 ^ W.length - 1) 1 < 2 ^ W.length) = hse.hb.sp W M := rfl
    have em : hse.fb (hse.bp.sp W M W.length) (2 ^ W.length - 1) 1 = hse.bm W M := rfl
    rw [eb, hb, em] at g
    rw [start]
    simp -implicitDefEqProofs (disch := omega) only [hs, hu, eo, take_one, set_one, decide_eq_true, decide_eq_false, IntWalk.i64_in, beqT, beqF, bneT, bneF, nat_succ, ← Int.natCast_mul, ← Int.natCast_add, Int.toNat_natCast, Int.zero_mul, Int.zero_add, Int.add_zero, Nat.zero_add, Nat.add_zero, Nat.zero_mul, List.length_singleton, List.length_append, List.length_nil, List.length_cons, List.take_length, List.drop_zero, List.replicate_zero, List.take_nil, List.nil_append, Nat.reduceBEq, Nat.reduceMul, Nat.reduceLeDiff, eq_self, and_self, true_and, and_true, decide_true, decide_false, Bool.and_self, Bool.or_self, Bool.and_true, Bool.true_and, Bool.and_false, Bool.false_and, Bool.or_true, Bool.true_or, Bool.or_false, Bool.false_or, Bool.not_true, Bool.not_false, cond_true, cond_false]
    exact (congrArg (regc []) g).trans rfl
  · cases h
theorem okf : EntOk Try.prog ⟨46, Rf⟩ :=
  ent_okAG (ks := []) mixed (A := (orcW [⟨106, (l05Better.R 10)⟩] [⟨100, l05Whole.R⟩, ⟨103, l05Order.R⟩])) (orcW_ok (by simp only [List.mem_cons, List.not_mem_nil, or_false, forall_eq_or_imp, forall_eq]; exact (l05Better.ok 10)) (by simp only [List.mem_cons, List.not_mem_nil, or_false, forall_eq_or_imp, forall_eq]; exact ⟨l05Whole.ok, l05Order.ok⟩)) Try.func46 (by kernel_rfl) (by kernel_rfl) (n := 56) (ts := [4, 5]) (hd := hd) (dr := Dr.std) (cut := none) (by kernel_rfl) (by kernel_rfl) (by kernel_rfl) runf
end sHouseBlock

namespace sHouseBlockE
def R (args : List AVal) : Option (Bool × AVal) := match args with
  | [.ro (.rows .i64 W) m 1, .ro (.ints .i64 M) k 1] => some (decide (m = W.length ∧ k = M.length ∧ M.length = W.length ∧ W.length ≤ 5) && (hse.sp W && hse.odr.sp M), .tup [.ro (.ints .i64 (hse.hb.sv W M)) (hse.hb.sv W M).length 1, .bool (hse.hb.sp W M)])
  | _ => none
theorem ok : EntFOk Try.prog ⟨46, R⟩ := by
  refine EntFOk.cases sHouseBlock.okt.nro sHouseBlock.okf.nro fun args v h => ?_
  unfold R at h
  split at h
  · rename_i W m M k
    simp only [Option.some.injEq, Prod.mk.injEq, Bool.and_eq_true, decide_eq_true_eq] at h
    obtain ⟨⟨h1, h2, h3⟩, rfl⟩ := h
    cases hb : hse.hb.sp W M
    · right
      have ev : hse.hb.sv W M = [] := by unfold hse.hb.sv; rw [hb]; rfl
      have e : sHouseBlock.Rf [.ro (.rows .i64 W) m 1, .ro (.ints .i64 M) k 1] = some (true, .tup [.nils, .bool false], []) := by
        simp only [sHouseBlock.Rf, h1, h2, h3, hb, and_self, decide_true, Bool.and_self, Bool.not_false]
      unfold layN layF
      rw [e, ev]
      rfl
    · left
      have e : sHouseBlock.Rt [.ro (.rows .i64 W) m 1, .ro (.ints .i64 M) k 1] = some (true, .tup [.own 0 0 (hse.hb.sv W M).length 0 1, .bool true], [⟨.typ (.ints .i64 (hse.hb.sv W M)), 0⟩]) := by
        simp only [sHouseBlock.Rt, h1, h2, h3, hb, and_self, decide_true, Bool.and_self]
      unfold layN layF
      rw [e]
      rfl
  · cases h
end sHouseBlockE

end Go.Proofs.Ytkoongajnnaeoaa.Ab
