/-
  Functions: sets that could do better alone: the program.
-/
import Derived.Test.YtkoongajnnaeoaaFnHK
namespace Go.Proofs.Ytkoongajnnaeoaa.Ab
open Go
set_option linter.unusedVariables false
set_option linter.unusedSimpArgs false
set_option maxRecDepth 100000

namespace bLen64
def R : List AVal → Option (Bool × AVal × List Blk)
  | [.int .u64 x] => some (decide (0 ≤ x ∧ x < 32), .int .i64 ((hse.ln.sv x.toNat : Nat) : Int), [])
  | _ => none
theorem run : ∀ args v new, R args = some (true, v, new) → ∃ fuel, runFn Try.prog (orc []) hd0 Dr.std (some 0) fuel (bodyOf Try.f165) 25 [2] args [] = some (v, new) := by
  intro args v new h
  unfold R at h
  split at h
  · rename_i x
    simp only [Option.some.injEq, Prod.mk.injEq, decide_eq_true_eq] at h
    obtain ⟨⟨h1, h2⟩, rfl, rfl⟩ := h
    have hc : x = 0 ∨ x = 1 ∨ x = 2 ∨ x = 3 ∨ x = 4 ∨ x = 5 ∨ x = 6 ∨ x = 7 ∨ x = 8 ∨ x = 9 ∨ x = 10 ∨ x = 11 ∨ x = 12 ∨ x = 13 ∨ x = 14 ∨ x = 15 ∨ x = 16 ∨ x = 17 ∨ x = 18 ∨ x = 19 ∨ x = 20 ∨ x = 21 ∨ x = 22 ∨ x = 23 ∨ x = 24 ∨ x = 25 ∨ x = 26 ∨ x = 27 ∨ x = 28 ∨ x = 29 ∨ x = 30 ∨ x = 31 := by omega
    rcases hc with rfl | rfl | rfl | rfl | rfl | rfl | rfl | rfl | rfl | rfl | rfl | rfl | rfl | rfl | rfl | rfl | rfl | rfl | rfl | rfl | rfl | rfl | rfl | rfl | rfl | rfl | rfl | rfl | rfl | rfl | rfl | rfl <;> exact ⟨0, by kernel_rfl⟩
  · cases h
theorem ok : EntOk Try.prog ⟨165, R⟩ :=
  ent_okA mixed (A := (orc [])) (orc_ok (by simp)) Try.func165 (by kernel_rfl) (by kernel_rfl) (n := 25) (ts := [2]) (hd := hd0) (dr := Dr.std) (cut := (some 0)) (by kernel_rfl) (by kernel_rfl) (by kernel_rfl) run
end bLen64

namespace bLen
def R : List AVal → Option (Bool × AVal × List Blk)
  | [.int .u64 x] => some (decide (0 ≤ x ∧ x < 32), .int .i64 ((hse.ln.sv x.toNat : Nat) : Int), [])
  | _ => none
theorem go (x : Int) :
  runFn Try.prog (orc [⟨165, bLen64.R⟩]) hd0 Dr.std (some 0) 0 (bodyOf Try.f137) 8 [2] [.int .u64 x] []
  = (bif decide ((0 : Int) ≤ x ∧ x < (32 : Int)) && (true && true || true && true) then some (AVal.int IntKind.i64 (↑(hse.ln.sv x.toNat) : Int), []) else none) := by kernel_rfl
theorem run : ∀ args v new, R args = some (true, v, new) → ∃ fuel, runFn Try.prog (orc [⟨165, bLen64.R⟩]) hd0 Dr.std (some 0) fuel (bodyOf Try.f137) 8 [2] args [] = some (v, new) := by
  intro args v new h
  unfold R at h
  split at h
  · rename_i x
    simp only [Option.some.injEq, Prod.mk.injEq, decide_eq_true_eq] at h
    obtain ⟨⟨h1, h2⟩, rfl, rfl⟩ := h
    refine ⟨0, ?_⟩
    rw [go]
    simp -implicitDefEqProofs (disch := omega) only [take_one, set_one, decide_eq_true, decide_eq_false, IntWalk.i64_in, beqT, beqF, bneT, bneF, nat_succ, ← Int.natCast_mul, ← Int.natCast_add, Int.toNat_natCast, Int.zero_mul, Int.zero_add, Int.add_zero, Nat.zero_add, Nat.add_zero, Nat.zero_mul, List.length_singleton, List.length_append, List.length_nil, List.length_cons, List.take_length, List.drop_zero, List.replicate_zero, List.take_nil, List.nil_append, Nat.reduceBEq, Nat.reduceMul, Nat.reduceLeDiff, eq_self, and_self, true_and, and_true, decide_true, decide_false, Bool.and_self, Bool.or_self, Bool.and_true, Bool.true_and, Bool.and_false, Bool.false_and, Bool.or_true, Bool.true_or, Bool.or_false, Bool.false_or, Bool.not_true, Bool.not_false, cond_true, cond_false]
  · cases h
theorem ok : EntOk Try.prog ⟨137, R⟩ :=
  ent_okA mixed (A := (orc [⟨165, bLen64.R⟩])) (orc_ok (by simp only [List.mem_cons, List.not_mem_nil, or_false, forall_eq_or_imp, forall_eq]; exact bLen64.ok)) Try.func137 (by kernel_rfl) (by kernel_rfl) (n := 8) (ts := [2]) (hd := hd0) (dr := Dr.std) (cut := (some 0)) (by kernel_rfl) (by kernel_rfl) (by kernel_rfl) run
end bLen

namespace members
def R : List AVal → Option (Bool × AVal × List Blk)
  | [.int .i64 s] => some (decide (0 ≤ s ∧ s < 32), .own 0 0 (hse.mb.sv s.toNat (hse.ln.sv s.toNat)).length 0 1, [⟨.typ (.ints .i64 (hse.mb.sv s.toNat (hse.ln.sv s.toNat))), 0⟩])
  | _ => none
def hd : Nat → Head := fun _ => ⟨[998, 0, 3, 8, 9], none⟩
noncomputable def L (f n : Nat) (s : State) := loopAt Try.prog (orc [⟨137, bLen.R⟩]) hd Dr.std 0 f (bodyOf Try.f86) 0 [true, true, false, true] (retK Try.prog [2] 0 none) n s
theorem start (m : Nat) (f : Nat) :
  runFn Try.prog (orc [⟨137, bLen.R⟩]) hd Dr.std none f (bodyOf Try.f86) 23 [2] [.int .i64 ((m : Nat) : Int)] []
  = (bif decide ((0 : Int) ≤ IntKind.u64.wrap (↑m : Int) ∧ IntKind.u64.wrap (↑m : Int) < (32 : Int)) && (true && true || true && true) then L f f (mkS (23 : Nat) [((0 : Nat), AVal.int IntKind.i64 (↑m : Int)), ((3 : Nat), AVal.own (0 : Nat) (0 : Nat) (0 : Nat) (0 : Nat) (1 : Nat)), ((8 : Nat), AVal.int IntKind.i64 (↑(hse.ln.sv (IntKind.u64.wrap (↑m : Int)).toNat) : Int)), ((9 : Nat), AVal.int IntKind.i64 (0 : Int))] [{ c := BC.typ (Cont.ints IntKind.i64 (List.replicate (0 : Nat) (0 : Int))), ver := (0 : Nat) }]) else none) := by kernel_rfl
theorem round (m l : Nat) (os : List Int) (q i f n : Nat) :
  L f (n + 1) (mkS 23 [(0, .int .i64 ((m : Nat) : Int)), (3, .own 0 0 q 0 1), (8, .int .i64 ((l : Nat) : Int)), (9, .int .i64 i)] [⟨.typ (.ints .i64 os), 0⟩])
  = (bif decide ((↑i : Int) < (↑l : Int)) then bif decide ((0 : Int) ≤ (↑i : Int)) then bif iand.sv IntKind.i64 (ishr.sv IntKind.i64 (↑m : Int) (↑i : Int)) (1 : Int) == (1 : Int) then bif (1 : Nat) == (1 : Nat) && (1 : Nat) == (1 : Nat) && (true && (true && true) && (true && true && (decide (q + (List.take (1 : Nat) (List.drop (0 : Nat) ((List.replicate (1 : Nat) (0 : Int)).set (0 : Nat) (↑i : Int)))).length ≤ (4611686018427387904 : Nat)) && decide ((q + (List.take (1 : Nat) (List.drop (0 : Nat) ((List.replicate (1 : Nat) (0 : Int)).set (0 : Nat) (↑i : Int)))).length) * (8 : Nat) ≤ (140737488355328 : Nat))))) then L f n (mkS (23 : Nat) [((0 : Nat), AVal.int IntKind.i64 (↑m : Int)), ((3 : Nat), AVal.own (0 : Nat) (0 : Nat) (q + (List.take (1 : Nat) (List.drop (0 : Nat) ((List.replicate (1 : Nat) (0 : Int)).set (0 : Nat) (↑i : Int)))).length) (0 : Nat) (1 : Nat)), ((8 : Nat), AVal.int IntKind.i64 (↑l : Int)), ((9 : Nat), AVal.int IntKind.i64 (IntKind.i64.wrap ((↑i : Int) + (1 : Int))))] [{ c := BC.typ (Cont.ints IntKind.i64 (List.take q os ++ List.take (1 : Nat) (List.drop (0 : Nat) ((List.replicate (1 : Nat) (0 : Int)).set (0 : Nat) (↑i : Int))))), ver := (0 : Nat) }]) else none else L f n (mkS (23 : Nat) [((0 : Nat), AVal.int IntKind.i64 (↑m : Int)), ((3 : Nat), AVal.own (0 : Nat) (0 : Nat) q (0 : Nat) (1 : Nat)), ((8 : Nat), AVal.int IntKind.i64 (↑l : Int)), ((9 : Nat), AVal.int IntKind.i64 (IntKind.i64.wrap ((↑i : Int) + (1 : Int))))] [{ c := BC.typ (Cont.ints IntKind.i64 os), ver := (0 : Nat) }]) else none else some (AVal.own (0 : Nat) (0 : Nat) q (0 : Nat) (1 : Nat), [{ c := BC.typ (Cont.ints IntKind.i64 os), ver := (0 : Nat) }])) := by kernel_rfl
theorem loop (m l f : Nat) (hm : m < 32) (hl : l ≤ 5) : ∀ (d i n : Nat), i + d = l → d < n →
    L f n (mkS 23 [(0, .int .i64 ((m : Nat) : Int)), (3, .own 0 0 (hse.mb.sv m i).length 0 1), (8, .int .i64 ((l : Nat) : Int)), (9, .int .i64 ((i : Nat) : Int))] [⟨.typ (.ints .i64 (hse.mb.sv m i)), 0⟩]) = some (.own 0 0 (hse.mb.sv m l).length 0 1, [⟨.typ (.ints .i64 (hse.mb.sv m l)), 0⟩]) := by
  intro d
  induction d with
  | zero =>
    intro i n hi hn
    obtain ⟨n, rfl⟩ : ∃ q, n = q + 1 := ⟨n - 1, by omega⟩
    obtain rfl : i = l := by omega
    rw [round]
    simp -implicitDefEqProofs (disch := omega) only [take_one, set_one, decide_eq_true, decide_eq_false, IntWalk.i64_in, beqT, beqF, bneT, bneF, nat_succ, ← Int.natCast_mul, ← Int.natCast_add, Int.toNat_natCast, Int.zero_mul, Int.zero_add, Int.add_zero, Nat.zero_add, Nat.add_zero, Nat.zero_mul, List.length_singleton, List.length_append, List.length_nil, List.length_cons, List.take_length, List.drop_zero, List.replicate_zero, List.take_nil, List.nil_append, Nat.reduceBEq, Nat.reduceMul, Nat.reduceLeDiff, eq_self, and_self, true_and, and_true, decide_true, decide_false, Bool.and_self, Bool.or_self, Bool.and_true, Bool.true_and, Bool.and_false, Bool.false_and, Bool.or_true, Bool.true_or, Bool.or_false, Bool.false_or, Bool.not_true, Bool.not_false, cond_true, cond_false]
  | succ d ih =>
    intro i n hi hn
    obtain ⟨n, rfl⟩ : ∃ q, n = q + 1 := ⟨n - 1, by omega⟩
    have g := ih (i + 1) n (by omega) (by omega)
    have il := hse.mb_length m i
    have u2 := hse.shr_and m (by omega) i (by omega)
    have tz : (hse.mb.sv m i).take (hse.mb.sv m i).length = hse.mb.sv m i := List.take_of_length_le (Nat.le_refl _)
    rw [hse.mb.sv] at g
    rw [round]
    cases ho : hse.off.sp m i
    · rw [ho, cond_false] at u2
      rw [ho, cond_false, List.length_append, List.length_singleton] at g
      simp -implicitDefEqProofs (disch := omega) only [u2, tz, take_one, set_one, decide_eq_true, decide_eq_false, IntWalk.i64_in, beqT, beqF, bneT, bneF, nat_succ, ← Int.natCast_mul, ← Int.natCast_add, Int.toNat_natCast, Int.zero_mul, Int.zero_add, Int.add_zero, Nat.zero_add, Nat.add_zero, Nat.zero_mul, List.length_singleton, List.length_append, List.length_nil, List.length_cons, List.take_length, List.drop_zero, List.replicate_zero, List.take_nil, List.nil_append, Nat.reduceBEq, Nat.reduceMul, Nat.reduceLeDiff, eq_self, and_self, true_and, and_true, decide_true, decide_false, Bool.and_self, Bool.or_self, Bool.and_true, Bool.true_and, Bool.and_false, Bool.false_and, Bool.or_true, Bool.true_or, Bool.or_false, Bool.false_or, Bool.not_true, Bool.not_false, cond_true, cond_false]
      exact g
    · rw [ho, cond_true] at u2
      rw [ho, cond_true] at g
      simp -implicitDefEqProofs (disch := omega) only [u2, take_one, set_one, decide_eq_true, decide_eq_false, IntWalk.i64_in, beqT, beqF, bneT, bneF, nat_succ, ← Int.natCast_mul, ← Int.natCast_add, Int.toNat_natCast, Int.zero_mul, Int.zero_add, Int.add_zero, Nat.zero_add, Nat.add_zero, Nat.zero_mul, List.length_singleton, List.length_append, List.length_nil, List.length_cons, List.take_length, List.drop_zero, List.replicate_zero, List.take_nil, List.nil_append, Nat.reduceBEq, Nat.reduceMul, Nat.reduceLeDiff, eq_self, and_self, true_and, and_true, decide_true, decide_false, Bool.and_self, Bool.or_self, Bool.and_true, Bool.true_and, Bool.and_false, Bool.false_and, Bool.or_true, Bool.true_or, Bool.or_false, Bool.false_or, Bool.not_true, Bool.not_false, cond_true, cond_false]
      exact g
theorem run : ∀ args v new, R args = some (true, v, new) → ∃ fuel, regc [0] (runFn Try.prog (orc [⟨137, bLen.R⟩]) hd Dr.std none fuel (bodyOf Try.f86) 23 [2] args []) = some (v, new) := by
  intro args v new h
  unfold R at h
  split at h
  · rename_i s
    simp only [Option.some.injEq, Prod.mk.injEq, decide_eq_true_eq] at h
    obtain ⟨⟨h1, h2⟩, rfl, rfl⟩ := h
    obtain ⟨m, rfl⟩ : ∃ q : Nat, s = q := ⟨s.toNat, by omega⟩
    have hl : hse.ln.sv m ≤ 5 := hse.ln_le m
    have u := hse.u64_nat m (by omega)
    obtain ⟨F, hF⟩ : ∃ F : Nat, F = 100 := ⟨100, rfl⟩
    refine ⟨F, ?_⟩
    have g := loop m (hse.ln.sv m) F (by omega) hl (hse.ln.sv m) 0 F (by omega) (by omega)
    rw [start, u]
    simp -implicitDefEqProofs (disch := omega) only [take_one, set_one, decide_eq_true, decide_eq_false, IntWalk.i64_in, beqT, beqF, bneT, bneF, nat_succ, ← Int.natCast_mul, ← Int.natCast_add, Int.toNat_natCast, Int.zero_mul, Int.zero_add, Int.add_zero, Nat.zero_add, Nat.add_zero, Nat.zero_mul, List.length_singleton, List.length_append, List.length_nil, List.length_cons, List.take_length, List.drop_zero, List.replicate_zero, List.take_nil, List.nil_append, Nat.reduceBEq, Nat.reduceMul, Nat.reduceLeDiff, eq_self, and_self, true_and, and_true, decide_true, decide_false, Bool.and_self, Bool.or_self, Bool.and_true, Bool.true_and, Bool.and_false, Bool.false_and, Bool.or_true, Bool.true_or, Bool.or_false, Bool.false_or, Bool.not_true, Bool.not_false, cond_true, cond_false]
    exact (congrArg (regc [0]) g).trans rfl
  · cases h
theorem ok : EntOk Try.prog ⟨86, R⟩ :=
  ent_okAG (ks := [0]) mixed (A := (orc [⟨137, bLen.R⟩])) (orc_ok (by simp only [List.mem_cons, List.not_mem_nil, or_false, forall_eq_or_imp, forall_eq]; exact bLen.ok)) Try.func86 (by kernel_rfl) (by kernel_rfl) (n := 23) (ts := [2]) (hd := hd) (dr := Dr.std) (cut := none) (by kernel_rfl) (by kernel_rfl) (by kernel_rfl) run
end members

namespace bput
def dr : Nat → Dr := fun i => bif eqN i 3 then ⟨some [0, 1, 2, 3, 4, 5, 6, 7, 8, 9, 10, 11, 12, 13, 14, 15], true⟩ else bif eqN i 7 then ⟨some [0, 1, 2, 3, 4, 5, 6, 7, 8, 9, 10, 11, 12, 13, 14, 15, 16, 17, 18, 19, 20, 21, 22, 23, 24, 25, 26, 27], true⟩ else ⟨none, false⟩
def R (N : Nat) : List AVal → Heap → Option (Bool × AVal × Heap)
  | [.int .i64 k, .int .i64 t, .bool b, .ptr 0 0 0, .ptr 2 0 0, .ptr 3 0 0, .ptr 4 0 0], [⟨.cells [.own 1 0 q 0 1], 0⟩, ⟨.typ (.ints .i64 set), 0⟩, ⟨.cells [.ro (.rows .i64 W) m 1], 0⟩, ⟨.cells [.ro (.ints .i64 M) mm 1], 0⟩, ⟨.cells [.fn ff [.ptr 0 0 0, .ptr 2 0 0, .ptr 3 0 0, .ptr 4 0 0]], 0⟩] => some (decide (ff = 104 ∧ m = W.length ∧ mm = M.length ∧ M.length = m ∧ q = set.length ∧ 0 ≤ k ∧ k ≤ (q : Int) ∧ 0 ≤ t ∧ t < 32 ∧ m ≤ 5 ∧ (q : Int) - k < (N : Int)) && (hse.sp W && (hse.mt.sp M && hse.st.sp set m)), .bool (hse.pq.sp W M set (q - k.toNat) k.toNat t.toNat b), [⟨.cells [.own 1 0 q 0 1], 0⟩, ⟨.typ (.ints .i64 set), 0⟩, ⟨.cells [.ro (.rows .i64 W) m 1], 0⟩, ⟨.cells [.ro (.ints .i64 M) mm 1], 0⟩, ⟨.cells [.fn ff [.ptr 0 0 0, .ptr 2 0 0, .ptr 3 0 0, .ptr 4 0 0]], 0⟩])
  | _, _ => none
def hd : Nat → Head := fun _ => ⟨[0, 1, 2, 6, 10, 11, 12, 34, 35, 36], none⟩
noncomputable def L (N f n : Nat) (s : State) := loopAt Try.prog (orcW [⟨104, R N⟩] [⟨105, iDearer.R⟩]) hd dr 5 f (bodyOf Try.f104) 0 [true, true, true, false, true] (retK Try.prog [10] 5 none) n s
theorem start (W : List (List Int)) (M set : List Int) (q N : Nat) (k t : Int) (b : Bool) (f : Nat) :
  runFn Try.prog (orcW [⟨104, R N⟩] [⟨105, iDearer.R⟩]) hd dr none f (bodyOf Try.f104) 69 [10] [.int .i64 k, .int .i64 t, .bool b, .ptr 0 0 0, .ptr 2 0 0, .ptr 3 0 0, .ptr 4 0 0] [⟨.cells [.own 1 0 q 0 1], 0⟩, ⟨.typ (.ints .i64 set), 0⟩, ⟨.cells [.ro (.rows .i64 W) W.length 1], 0⟩, ⟨.cells [.ro (.ints .i64 M) M.length 1], 0⟩, ⟨.cells [.fn 104 [.ptr 0 0 0, .ptr 2 0 0, .ptr 3 0 0, .ptr 4 0 0]], 0⟩]
  = (bif true && (true && (true && (true && true))) then bif true && true then bif k == (↑q : Int) then some (AVal.bool b, [{ c := BC.cells [AVal.own (1 : Nat) (0 : Nat) q (0 : Nat) (1 : Nat)], ver := (0 : Nat) }, { c := BC.typ (Cont.ints IntKind.i64 set), ver := (0 : Nat) }, { c := BC.cells [AVal.ro (Cont.rows IntKind.i64 W) W.length (1 : Nat)], ver := (0 : Nat) }, { c := BC.cells [AVal.ro (Cont.ints IntKind.i64 M) M.length (1 : Nat)], ver := (0 : Nat) }, { c := BC.cells [AVal.fn (104 : Nat) [AVal.ptr (0 : Nat) (0 : Nat) (0 : Nat), AVal.ptr (2 : Nat) (0 : Nat) (0 : Nat), AVal.ptr (3 : Nat) (0 : Nat) (0 : Nat), AVal.ptr (4 : Nat) (0 : Nat) (0 : Nat)]], ver := (0 : Nat) }]) else bif true && true then bif true && true then bif true && (decide ((0 : Int) ≤ k) && decide (k < (↑q : Int))) then bif true && decide (k.toNat < set.length) then bif true && (decide ((0 : Int) ≤ gz set k.toNat) && decide (gz set k.toNat < (↑W.length : Int))) then bif decide ((gz set k.toNat).toNat < W.length) then bif true && true then bif true && true then bif true && (decide ((0 : Int) ≤ k) && decide (k < (↑q : Int))) then bif true && decide (k.toNat < set.length) then bif true && (decide ((0 : Int) ≤ gz set k.toNat) && decide (gz set k.toNat < (↑M.length : Int))) then bif decide ((gz set k.toNat).toNat < M.length) then bif true && true then L N f f (mkS (69 : Nat) [((0 : Nat), AVal.int IntKind.i64 k), ((1 : Nat), AVal.int IntKind.i64 t), ((2 : Nat), AVal.bool b), ((6 : Nat), AVal.ptr (4 : Nat) (0 : Nat) (0 : Nat)), ((10 : Nat), AVal.bool false), ((11 : Nat), AVal.ro (Cont.ints IntKind.i64 (gr W (gz set k.toNat).toNat)) (gr W (gz set k.toNat).toNat).length (1 : Nat)), ((12 : Nat), AVal.int IntKind.i64 (gz M (gz set k.toNat).toNat)), ((34 : Nat), AVal.own (1 : Nat) (0 : Nat) q (0 : Nat) (1 : Nat)), ((35 : Nat), AVal.int IntKind.i64 (↑q : Int)), ((36 : Nat), AVal.int IntKind.i64 (0 : Int))] [{ c := BC.cells [AVal.own (1 : Nat) (0 : Nat) q (0 : Nat) (1 : Nat)], ver := (0 : Nat) }, { c := BC.typ (Cont.ints IntKind.i64 set), ver := (0 : Nat) }, { c := BC.cells [AVal.ro (Cont.rows IntKind.i64 W) W.length (1 : Nat)], ver := (0 : Nat) }, { c := BC.cells [AVal.ro (Cont.ints IntKind.i64 M) M.length (1 : Nat)], ver := (0 : Nat) }, { c := BC.cells [AVal.fn (104 : Nat) [AVal.ptr (0 : Nat) (0 : Nat) (0 : Nat), AVal.ptr (2 : Nat) (0 : Nat) (0 : Nat), AVal.ptr (3 : Nat) (0 : Nat) (0 : Nat), AVal.ptr (4 : Nat) (0 : Nat) (0 : Nat)]], ver := (0 : Nat) }]) else none else none else none else none else none else none else none else none else none else none else none else none else none else none else none) := by kernel_rfl
theorem round (W : List (List Int)) (M set r : List Int) (q N k t : Nat) (has : Int) (j : Nat) (b : Bool) (f c : Nat) :
  L N f (c + 1) (mkS 69 [(0, .int .i64 k), (1, .int .i64 t), (2, .bool b), (6, .ptr 4 0 0), (10, .bool false), (11, .ro (.ints .i64 r) r.length 1), (12, .int .i64 has), (34, .own 1 0 q 0 1), (35, .int .i64 ((q : Nat) : Int)), (36, .int .i64 j)] [⟨.cells [.own 1 0 q 0 1], 0⟩, ⟨.typ (.ints .i64 set), 0⟩, ⟨.cells [.ro (.rows .i64 W) W.length 1], 0⟩, ⟨.cells [.ro (.ints .i64 M) M.length 1], 0⟩, ⟨.cells [.fn 104 [.ptr 0 0 0, .ptr 2 0 0, .ptr 3 0 0, .ptr 4 0 0]], 0⟩])
  = (bif decide ((↑j : Int) < (↑q : Int)) then bif true && (decide ((0 : Int) ≤ (↑j : Int)) && decide ((↑j : Int) < (↑q : Int))) then bif true && decide ((↑j : Int).toNat < set.length) then bif decide ((0 : Int) ≤ gz set (↑j : Int).toNat) then bif iand.sv IntKind.i64 (ishr.sv IntKind.i64 (↑t : Int) (gz set (↑j : Int).toNat)) (1 : Int) == (0 : Int) then bif decide (r.length = r.length ∧ r.length ≤ (4611686018427387904 : Nat)) && (true && (true && (true && true)) || true && true) then bif !decide (pl.sv has r < pl.sv (gz set (↑j : Int).toNat) r) then bif decide ((0 : Int) ≤ gz set (↑j : Int).toNat) then bif b then bif decide ((104 : FuncId) = (104 : FuncId) ∧ W.length = W.length ∧ M.length = M.length ∧ M.length = W.length ∧ q = set.length ∧ (0 : Int) ≤ IntKind.i64.wrap ((↑k : Int) + (1 : Int)) ∧ IntKind.i64.wrap ((↑k : Int) + (1 : Int)) ≤ (↑q : Int) ∧ (0 : Int) ≤ ior.sv IntKind.i64 (↑t : Int) (ishl.sv IntKind.i64 (1 : Int) (gz set (↑j : Int).toNat)) ∧ ior.sv IntKind.i64 (↑t : Int) (ishl.sv IntKind.i64 (1 : Int) (gz set (↑j : Int).toNat)) < (32 : Int) ∧ W.length ≤ (5 : Nat) ∧ (↑q : Int) - IntKind.i64.wrap ((↑k : Int) + (1 : Int)) < (↑N : Int)) && (hse.sp W && (hse.mt.sp M && hse.st.sp set W.length)) && (true && (true && (true && (true && (true && (true && true)))))) then bif hse.pq.sp W M set (q - (IntKind.i64.wrap ((↑k : Int) + (1 : Int))).toNat) (IntKind.i64.wrap ((↑k : Int) + (1 : Int))).toNat (ior.sv IntKind.i64 (↑t : Int) (ishl.sv IntKind.i64 (1 : Int) (gz set (↑j : Int).toNat))).toNat true then some (AVal.bool true, [{ c := BC.cells [AVal.own (1 : Nat) (0 : Nat) q (0 : Nat) (1 : Nat)], ver := (0 : Nat) }, { c := BC.typ (Cont.ints IntKind.i64 set), ver := (0 : Nat) }, { c := BC.cells [AVal.ro (Cont.rows IntKind.i64 W) W.length (1 : Nat)], ver := (0 : Nat) }, { c := BC.cells [AVal.ro (Cont.ints IntKind.i64 M) M.length (1 : Nat)], ver := (0 : Nat) }, { c := BC.cells [AVal.fn (104 : Nat) [AVal.ptr (0 : Nat) (0 : Nat) (0 : Nat), AVal.ptr (2 : Nat) (0 : Nat) (0 : Nat), AVal.ptr (3 : Nat) (0 : Nat) (0 : Nat), AVal.ptr (4 : Nat) (0 : Nat) (0 : Nat)]], ver := (0 : Nat) }]) else L N f c (mkS (69 : Nat) [((0 : Nat), AVal.int IntKind.i64 (↑k : Int)), ((1 : Nat), AVal.int IntKind.i64 (↑t : Int)), ((2 : Nat), AVal.bool b), ((6 : Nat), AVal.ptr (4 : Nat) (0 : Nat) (0 : Nat)), ((10 : Nat), AVal.bool false), ((11 : Nat), AVal.ro (Cont.ints IntKind.i64 r) r.length (1 : Nat)), ((12 : Nat), AVal.int IntKind.i64 has), ((34 : Nat), AVal.own (1 : Nat) (0 : Nat) q (0 : Nat) (1 : Nat)), ((35 : Nat), AVal.int IntKind.i64 (↑q : Int)), ((36 : Nat), AVal.int IntKind.i64 (IntKind.i64.wrap ((↑j : Int) + (1 : Int))))] [{ c := BC.cells [AVal.own (1 : Nat) (0 : Nat) q (0 : Nat) (1 : Nat)], ver := (0 : Nat) }, { c := BC.typ (Cont.ints IntKind.i64 set), ver := (0 : Nat) }, { c := BC.cells [AVal.ro (Cont.rows IntKind.i64 W) W.length (1 : Nat)], ver := (0 : Nat) }, { c := BC.cells [AVal.ro (Cont.ints IntKind.i64 M) M.length (1 : Nat)], ver := (0 : Nat) }, { c := BC.cells [AVal.fn (104 : Nat) [AVal.ptr (0 : Nat) (0 : Nat) (0 : Nat), AVal.ptr (2 : Nat) (0 : Nat) (0 : Nat), AVal.ptr (3 : Nat) (0 : Nat) (0 : Nat), AVal.ptr (4 : Nat) (0 : Nat) (0 : Nat)]], ver := (0 : Nat) }]) else none else bif decide ((104 : FuncId) = (104 : FuncId) ∧ W.length = W.length ∧ M.length = M.length ∧ M.length = W.length ∧ q = set.length ∧ (0 : Int) ≤ IntKind.i64.wrap ((↑k : Int) + (1 : Int)) ∧ IntKind.i64.wrap ((↑k : Int) + (1 : Int)) ≤ (↑q : Int) ∧ (0 : Int) ≤ ior.sv IntKind.i64 (↑t : Int) (ishl.sv IntKind.i64 (1 : Int) (gz set (↑j : Int).toNat)) ∧ ior.sv IntKind.i64 (↑t : Int) (ishl.sv IntKind.i64 (1 : Int) (gz set (↑j : Int).toNat)) < (32 : Int) ∧ W.length ≤ (5 : Nat) ∧ (↑q : Int) - IntKind.i64.wrap ((↑k : Int) + (1 : Int)) < (↑N : Int)) && (hse.sp W && (hse.mt.sp M && hse.st.sp set W.length)) && (true && (true && (true && (true && (true && (true && true)))))) then bif hse.pq.sp W M set (q - (IntKind.i64.wrap ((↑k : Int) + (1 : Int))).toNat) (IntKind.i64.wrap ((↑k : Int) + (1 : Int))).toNat (ior.sv IntKind.i64 (↑t : Int) (ishl.sv IntKind.i64 (1 : Int) (gz set (↑j : Int).toNat))).toNat (gz set (↑j : Int).toNat != has) then some (AVal.bool true, [{ c := BC.cells [AVal.own (1 : Nat) (0 : Nat) q (0 : Nat) (1 : Nat)], ver := (0 : Nat) }, { c := BC.typ (Cont.ints IntKind.i64 set), ver := (0 : Nat) }, { c := BC.cells [AVal.ro (Cont.rows IntKind.i64 W) W.length (1 : Nat)], ver := (0 : Nat) }, { c := BC.cells [AVal.ro (Cont.ints IntKind.i64 M) M.length (1 : Nat)], ver := (0 : Nat) }, { c := BC.cells [AVal.fn (104 : Nat) [AVal.ptr (0 : Nat) (0 : Nat) (0 : Nat), AVal.ptr (2 : Nat) (0 : Nat) (0 : Nat), AVal.ptr (3 : Nat) (0 : Nat) (0 : Nat), AVal.ptr (4 : Nat) (0 : Nat) (0 : Nat)]], ver := (0 : Nat) }]) else L N f c (mkS (69 : Nat) [((0 : Nat), AVal.int IntKind.i64 (↑k : Int)), ((1 : Nat), AVal.int IntKind.i64 (↑t : Int)), ((2 : Nat), AVal.bool b), ((6 : Nat), AVal.ptr (4 : Nat) (0 : Nat) (0 : Nat)), ((10 : Nat), AVal.bool false), ((11 : Nat), AVal.ro (Cont.ints IntKind.i64 r) r.length (1 : Nat)), ((12 : Nat), AVal.int IntKind.i64 has), ((34 : Nat), AVal.own (1 : Nat) (0 : Nat) q (0 : Nat) (1 : Nat)), ((35 : Nat), AVal.int IntKind.i64 (↑q : Int)), ((36 : Nat), AVal.int IntKind.i64 (IntKind.i64.wrap ((↑j : Int) + (1 : Int))))] [{ c := BC.cells [AVal.own (1 : Nat) (0 : Nat) q (0 : Nat) (1 : Nat)], ver := (0 : Nat) }, { c := BC.typ (Cont.ints IntKind.i64 set), ver := (0 : Nat) }, { c := BC.cells [AVal.ro (Cont.rows IntKind.i64 W) W.length (1 : Nat)], ver := (0 : Nat) }, { c := BC.cells [AVal.ro (Cont.ints IntKind.i64 M) M.length (1 : Nat)], ver := (0 : Nat) }, { c := BC.cells [AVal.fn (104 : Nat) [AVal.ptr (0 : Nat) (0 : Nat) (0 : Nat), AVal.ptr (2 : Nat) (0 : Nat) (0 : Nat), AVal.ptr (3 : Nat) (0 : Nat) (0 : Nat), AVal.ptr (4 : Nat) (0 : Nat) (0 : Nat)]], ver := (0 : Nat) }]) else none else none else L N f c (mkS (69 : Nat) [((0 : Nat), AVal.int IntKind.i64 (↑k : Int)), ((1 : Nat), AVal.int IntKind.i64 (↑t : Int)), ((2 : Nat), AVal.bool b), ((6 : Nat), AVal.ptr (4 : Nat) (0 : Nat) (0 : Nat)), ((10 : Nat), AVal.bool false), ((11 : Nat), AVal.ro (Cont.ints IntKind.i64 r) r.length (1 : Nat)), ((12 : Nat), AVal.int IntKind.i64 has), ((34 : Nat), AVal.own (1 : Nat) (0 : Nat) q (0 : Nat) (1 : Nat)), ((35 : Nat), AVal.int IntKind.i64 (↑q : Int)), ((36 : Nat), AVal.int IntKind.i64 (IntKind.i64.wrap ((↑j : Int) + (1 : Int))))] [{ c := BC.cells [AVal.own (1 : Nat) (0 : Nat) q (0 : Nat) (1 : Nat)], ver := (0 : Nat) }, { c := BC.typ (Cont.ints IntKind.i64 set), ver := (0 : Nat) }, { c := BC.cells [AVal.ro (Cont.rows IntKind.i64 W) W.length (1 : Nat)], ver := (0 : Nat) }, { c := BC.cells [AVal.ro (Cont.ints IntKind.i64 M) M.length (1 : Nat)], ver := (0 : Nat) }, { c := BC.cells [AVal.fn (104 : Nat) [AVal.ptr (0 : Nat) (0 : Nat) (0 : Nat), AVal.ptr (2 : Nat) (0 : Nat) (0 : Nat), AVal.ptr (3 : Nat) (0 : Nat) (0 : Nat), AVal.ptr (4 : Nat) (0 : Nat) (0 : Nat)]], ver := (0 : Nat) }]) else none else L N f c (mkS (69 : Nat) [((0 : Nat), AVal.int IntKind.i64 (↑k : Int)), ((1 : Nat), AVal.int IntKind.i64 (↑t : Int)), ((2 : Nat), AVal.bool b), ((6 : Nat), AVal.ptr (4 : Nat) (0 : Nat) (0 : Nat)), ((10 : Nat), AVal.bool false), ((11 : Nat), AVal.ro (Cont.ints IntKind.i64 r) r.length (1 : Nat)), ((12 : Nat), AVal.int IntKind.i64 has), ((34 : Nat), AVal.own (1 : Nat) (0 : Nat) q (0 : Nat) (1 : Nat)), ((35 : Nat), AVal.int IntKind.i64 (↑q : Int)), ((36 : Nat), AVal.int IntKind.i64 (IntKind.i64.wrap ((↑j : Int) + (1 : Int))))] [{ c := BC.cells [AVal.own (1 : Nat) (0 : Nat) q (0 : Nat) (1 : Nat)], ver := (0 : Nat) }, { c := BC.typ (Cont.ints IntKind.i64 set), ver := (0 : Nat) }, { c := BC.cells [AVal.ro (Cont.rows IntKind.i64 W) W.length (1 : Nat)], ver := (0 : Nat) }, { c := BC.cells [AVal.ro (Cont.ints IntKind.i64 M) M.length (1 : Nat)], ver := (0 : Nat) }, { c := BC.cells [AVal.fn (104 : Nat) [AVal.ptr (0 : Nat) (0 : Nat) (0 : Nat), AVal.ptr (2 : Nat) (0 : Nat) (0 : Nat), AVal.ptr (3 : Nat) (0 : Nat) (0 : Nat), AVal.ptr (4 : Nat) (0 : Nat) (0 : Nat)]], ver := (0 : Nat) }]) else none else none else none else some (AVal.bool false, [{ c := BC.cells [AVal.own (1 : Nat) (0 : Nat) q (0 : Nat) (1 : Nat)], ver := (0 : Nat) }, { c := BC.typ (Cont.ints IntKind.i64 set), ver := (0 : Nat) }, { c := BC.cells [AVal.ro (Cont.rows IntKind.i64 W) W.length (1 : Nat)], ver := (0 : Nat) }, { c := BC.cells [AVal.ro (Cont.ints IntKind.i64 M) M.length (1 : Nat)], ver := (0 : Nat) }, { c := BC.cells [AVal.fn (104 : Nat) [AVal.ptr (0 : Nat) (0 : Nat) (0 : Nat), AVal.ptr (2 : Nat) (0 : Nat) (0 : Nat), AVal.ptr (3 : Nat) (0 : Nat) (0 : Nat), AVal.ptr (4 : Nat) (0 : Nat) (0 : Nat)]], ver := (0 : Nat) }])) := by kernel_rfl
theorem loop (W : List (List Int)) (M set : List Int) (q N D k tk f : Nat) (b : Bool) (v : hse.V W W.length) (hs : hse.sp W = true) (hm : hse.mt.sp M = true) (hl : M.length = W.length) (hst : hse.st.sp set W.length = true) (hq : q = set.length) (h5 : W.length ≤ 5) (ht : tk < 32) (hk : k + (D + 1) = q) (hN : D < N) : ∀ (d j c : Nat), j + d = q → d < c →
    L N f c (mkS 69 [(0, .int .i64 ((k : Nat) : Int)), (1, .int .i64 ((tk : Nat) : Int)), (2, .bool b), (6, .ptr 4 0 0), (10, .bool false), (11, .ro (.ints .i64 (hse.row W set k)) (hse.row W set k).length 1), (12, .int .i64 (gz M (gz set k).toNat)), (34, .own 1 0 q 0 1), (35, .int .i64 ((q : Nat) : Int)), (36, .int .i64 ((j : Nat) : Int))] [⟨.cells [.own 1 0 q 0 1], 0⟩, ⟨.typ (.ints .i64 set), 0⟩, ⟨.cells [.ro (.rows .i64 W) W.length 1], 0⟩, ⟨.cells [.ro (.ints .i64 M) M.length 1], 0⟩, ⟨.cells [.fn 104 [.ptr 0 0 0, .ptr 2 0 0, .ptr 3 0 0, .ptr 4 0 0]], 0⟩]) = some (.bool (hse.lb (fun j => (hse.off.sp tk (gz set j).toNat && !decide (pl.sv (gz M (gz set k).toNat) (hse.row W set k) < pl.sv (gz set j) (hse.row W set k))) && hse.pq.sp W M set D (k + 1) (hse.up.sv tk (gz set j).toNat) (b || (gz set j != gz M (gz set k).toNat))) d j), [⟨.cells [.own 1 0 q 0 1], 0⟩, ⟨.typ (.ints .i64 set), 0⟩, ⟨.cells [.ro (.rows .i64 W) W.length 1], 0⟩, ⟨.cells [.ro (.ints .i64 M) M.length 1], 0⟩, ⟨.cells [.fn 104 [.ptr 0 0 0, .ptr 2 0 0, .ptr 3 0 0, .ptr 4 0 0]], 0⟩]) := by
  have s := hse.st_ok hst
  have hM := hse.mt_ok hm hl
  have hks := s.ran _ (gz_mem (l := set) (j := k) (by omega))
  have rl : (hse.row W set k).length = W.length := v.rl (gz set k).toNat (by omega)
  have sl := hse.set_len s
  intro d
  induction d with
  | zero =>
    intro j c hj hc
    obtain ⟨c, rfl⟩ : ∃ x, c = x + 1 := ⟨c - 1, by omega⟩
    rw [round, hse.lb]
    simp -implicitDefEqProofs (disch := omega) only [take_one, set_one, decide_eq_true, decide_eq_false, IntWalk.i64_in, beqT, beqF, bneT, bneF, nat_succ, ← Int.natCast_mul, ← Int.natCast_add, Int.toNat_natCast, Int.zero_mul, Int.zero_add, Int.add_zero, Nat.zero_add, Nat.add_zero, Nat.zero_mul, List.length_singleton, List.length_append, List.length_nil, List.length_cons, List.take_length, List.drop_zero, List.replicate_zero, List.take_nil, List.nil_append, Nat.reduceBEq, Nat.reduceMul, Nat.reduceLeDiff, eq_self, and_self, true_and, and_true, decide_true, decide_false, Bool.and_self, Bool.or_self, Bool.and_true, Bool.true_and, Bool.and_false, Bool.false_and, Bool.or_true, Bool.true_or, Bool.or_false, Bool.false_or, Bool.not_true, Bool.not_false, cond_true, cond_false]
  | succ d ih =>
    intro j c hj hc
    obtain ⟨c, rfl⟩ : ∃ x, c = x + 1 := ⟨c - 1, by omega⟩
    have g := ih (j + 1) c (by omega) (by omega)
    have hx := s.ran _ (gz_mem (l := set) (j := j) (by omega))
    have eD : q - (k + 1) = D := by omega
    obtain ⟨x, ex⟩ : ∃ x : Nat, gz set j = x := ⟨(gz set j).toNat, by omega⟩
    have u1 := hse.shr_and tk (by omega) x (by omega)
    have u2 := hse.shl_one x (by omega)
    have u3 := hse.or_shl tk ht x (by omega)
    have u4 := hse.up_lt tk ht x (by omega)
    rw [round, hse.lb]
    simp only [ex, Int.toNat_natCast] at g ⊢
    cases ho : hse.off.sp tk x
    · rw [ho, cond_false] at u1
      rw [Bool.false_and, Bool.false_and, Bool.false_or]
      simp -implicitDefEqProofs (disch := omega) only [u1, ex, take_one, set_one, decide_eq_true, decide_eq_false, IntWalk.i64_in, beqT, beqF, bneT, bneF, nat_succ, ← Int.natCast_mul, ← Int.natCast_add, Int.toNat_natCast, Int.zero_mul, Int.zero_add, Int.add_zero, Nat.zero_add, Nat.add_zero, Nat.zero_mul, List.length_singleton, List.length_append, List.length_nil, List.length_cons, List.take_length, List.drop_zero, List.replicate_zero, List.take_nil, List.nil_append, Nat.reduceBEq, Nat.reduceMul, Nat.reduceLeDiff, eq_self, and_self, true_and, and_true, decide_true, decide_false, Bool.and_self, Bool.or_self, Bool.and_true, Bool.true_and, Bool.and_false, Bool.false_and, Bool.or_true, Bool.true_or, Bool.or_false, Bool.false_or, Bool.not_true, Bool.not_false, cond_true, cond_false]
      exact g
    · rw [ho, cond_true] at u1
      by_cases c1 : pl.sv (gz M (gz set k).toNat) (hse.row W set k) < pl.sv ((x : Nat) : Int) (hse.row W set k)
      · rw [decide_eq_true c1, Bool.not_true, Bool.and_false, Bool.false_and, Bool.false_or]
        simp -implicitDefEqProofs (disch := omega) only [u1, ex, take_one, set_one, decide_eq_true, decide_eq_false, IntWalk.i64_in, beqT, beqF, bneT, bneF, nat_succ, ← Int.natCast_mul, ← Int.natCast_add, Int.toNat_natCast, Int.zero_mul, Int.zero_add, Int.add_zero, Nat.zero_add, Nat.add_zero, Nat.zero_mul, List.length_singleton, List.length_append, List.length_nil, List.length_cons, List.take_length, List.drop_zero, List.replicate_zero, List.take_nil, List.nil_append, Nat.reduceBEq, Nat.reduceMul, Nat.reduceLeDiff, eq_self, and_self, true_and, and_true, decide_true, decide_false, Bool.and_self, Bool.or_self, Bool.and_true, Bool.true_and, Bool.and_false, Bool.false_and, Bool.or_true, Bool.true_or, Bool.or_false, Bool.false_or, Bool.not_true, Bool.not_false, cond_true, cond_false]
        exact g
      · rw [decide_eq_false c1, Bool.not_false, Bool.and_true, Bool.true_and]
        cases b
        · rw [Bool.false_or]
          cases hne : ((x : Nat) : Int) != gz M (gz set k).toNat
          · simp -implicitDefEqProofs (disch := omega) only [u1, u2, u3, ex, hne, hs, hm, hst, eD, take_one, set_one, decide_eq_true, decide_eq_false, IntWalk.i64_in, beqT, beqF, bneT, bneF, nat_succ, ← Int.natCast_mul, ← Int.natCast_add, Int.toNat_natCast, Int.zero_mul, Int.zero_add, Int.add_zero, Nat.zero_add, Nat.add_zero, Nat.zero_mul, List.length_singleton, List.length_append, List.length_nil, List.length_cons, List.take_length, List.drop_zero, List.replicate_zero, List.take_nil, List.nil_append, Nat.reduceBEq, Nat.reduceMul, Nat.reduceLeDiff, eq_self, and_self, true_and, and_true, decide_true, decide_false, Bool.and_self, Bool.or_self, Bool.and_true, Bool.true_and, Bool.and_false, Bool.false_and, Bool.or_true, Bool.true_or, Bool.or_false, Bool.false_or, Bool.not_true, Bool.not_false, cond_true, cond_false]
            cases hse.pq.sp W M set D (k + 1) (hse.up.sv tk x) false
            · exact g
            · rfl
          · simp -implicitDefEqProofs (disch := omega) only [u1, u2, u3, ex, hne, hs, hm, hst, eD, take_one, set_one, decide_eq_true, decide_eq_false, IntWalk.i64_in, beqT, beqF, bneT, bneF, nat_succ, ← Int.natCast_mul, ← Int.natCast_add, Int.toNat_natCast, Int.zero_mul, Int.zero_add, Int.add_zero, Nat.zero_add, Nat.add_zero, Nat.zero_mul, List.length_singleton, List.length_append, List.length_nil, List.length_cons, List.take_length, List.drop_zero, List.replicate_zero, List.take_nil, List.nil_append, Nat.reduceBEq, Nat.reduceMul, Nat.reduceLeDiff, eq_self, and_self, true_and, and_true, decide_true, decide_false, Bool.and_self, Bool.or_self, Bool.and_true, Bool.true_and, Bool.and_false, Bool.false_and, Bool.or_true, Bool.true_or, Bool.or_false, Bool.false_or, Bool.not_true, Bool.not_false, cond_true, cond_false]
            cases hse.pq.sp W M set D (k + 1) (hse.up.sv tk x) true
            · exact g
            · rfl
        · rw [Bool.true_or]
          simp -implicitDefEqProofs (disch := omega) only [u1, u2, u3, ex, hs, hm, hst, eD, take_one, set_one, decide_eq_true, decide_eq_false, IntWalk.i64_in, beqT, beqF, bneT, bneF, nat_succ, ← Int.natCast_mul, ← Int.natCast_add, Int.toNat_natCast, Int.zero_mul, Int.zero_add, Int.add_zero, Nat.zero_add, Nat.add_zero, Nat.zero_mul, List.length_singleton, List.length_append, List.length_nil, List.length_cons, List.take_length, List.drop_zero, List.replicate_zero, List.take_nil, List.nil_append, Nat.reduceBEq, Nat.reduceMul, Nat.reduceLeDiff, eq_self, and_self, true_and, and_true, decide_true, decide_false, Bool.and_self, Bool.or_self, Bool.and_true, Bool.true_and, Bool.and_false, Bool.false_and, Bool.or_true, Bool.true_or, Bool.or_false, Bool.false_or, Bool.not_true, Bool.not_false, cond_true, cond_false]
          cases hse.pq.sp W M set D (k + 1) (hse.up.sv tk x) true
          · exact g
          · rfl
theorem run (N : Nat) : ∀ args H v new, R (N + 1) args H = some (true, v, new) → ∃ fuel, runFn Try.prog (orcW [⟨104, R N⟩] [⟨105, iDearer.R⟩]) hd dr none fuel (bodyOf Try.f104) 69 [10] args H = some (v, new) := by
  intro args H v new h
  unfold R at h
  split at h
  · rename_i k t b q set W m M mm ff
    simp only [Option.some.injEq, Prod.mk.injEq, Bool.and_eq_true, decide_eq_true_eq] at h
    obtain ⟨⟨⟨rfl, rfl, rfl, h1, rfl, h3, h4, t0, t1, h5, h6⟩, hs, hm, hst⟩, rfl, rfl⟩ := h
    obtain ⟨k, rfl⟩ : ∃ x : Nat, k = x := ⟨k.toNat, by omega⟩
    obtain ⟨t, rfl⟩ : ∃ x : Nat, t = x := ⟨t.toNat, by omega⟩
    have v := hse.valid hs
    have s := hse.st_ok hst
    have hM := hse.mt_ok hm h1
    have sl := hse.set_len s
    obtain ⟨F, hF⟩ : ∃ F : Nat, F = 200 := ⟨200, rfl⟩
    refine ⟨F, ?_⟩
    rw [start, Int.toNat_natCast, Int.toNat_natCast]
    by_cases c : k = set.length
    · have e : set.length - k = 0 := by omega
      rw [e]
      simp -implicitDefEqProofs (disch := omega) only [take_one, set_one, decide_eq_true, decide_eq_false, IntWalk.i64_in, beqT, beqF, bneT, bneF, nat_succ, ← Int.natCast_mul, ← Int.natCast_add, Int.toNat_natCast, Int.zero_mul, Int.zero_add, Int.add_zero, Nat.zero_add, Nat.add_zero, Nat.zero_mul, List.length_singleton, List.length_append, List.length_nil, List.length_cons, List.take_length, List.drop_zero, List.replicate_zero, List.take_nil, List.nil_append, Nat.reduceBEq, Nat.reduceMul, Nat.reduceLeDiff, eq_self, and_self, true_and, and_true, decide_true, decide_false, Bool.and_self, Bool.or_self, Bool.and_true, Bool.true_and, Bool.and_false, Bool.false_and, Bool.or_true, Bool.true_or, Bool.or_false, Bool.false_or, Bool.not_true, Bool.not_false, cond_true, cond_false]
      rfl
    · obtain ⟨D, hD⟩ : ∃ D, set.length - k = D + 1 := ⟨set.length - k - 1, by omega⟩
      have hks := s.ran _ (gz_mem (l := set) (j := k) (by omega))
      have g := loop W M set set.length N D k t F b v hs hm h1 hst rfl h5 (by omega) (by omega) (by omega) set.length 0 F (by omega) (by omega)
      have er : gr W (gz set k).toNat = hse.row W set k := rfl
      rw [hD, hse.pq.sp]
      simp -implicitDefEqProofs (disch := omega) only [er, take_one, set_one, decide_eq_true, decide_eq_false, IntWalk.i64_in, beqT, beqF, bneT, bneF, nat_succ, ← Int.natCast_mul, ← Int.natCast_add, Int.toNat_natCast, Int.zero_mul, Int.zero_add, Int.add_zero, Nat.zero_add, Nat.add_zero, Nat.zero_mul, List.length_singleton, List.length_append, List.length_nil, List.length_cons, List.take_length, List.drop_zero, List.replicate_zero, List.take_nil, List.nil_append, Nat.reduceBEq, Nat.reduceMul, Nat.reduceLeDiff, eq_self, and_self, true_and, and_true, decide_true, decide_false, Bool.and_self, Bool.or_self, Bool.and_true, Bool.true_and, Bool.and_false, Bool.false_and, Bool.or_true, Bool.true_or, Bool.or_false, Bool.false_or, Bool.not_true, Bool.not_false, cond_true, cond_false]
      exact g
  · cases h
theorem run0 : ∀ args H v new, R 0 args H = some (true, v, new) → ∃ fuel, runFn Try.prog (orc [⟨105, iDearer.R⟩]) hd dr none fuel (bodyOf Try.f104) 69 [10] args H = some (v, new) := by
  intro args H v new h
  unfold R at h
  split at h
  · simp only [Option.some.injEq, Prod.mk.injEq, decide_eq_true_eq, Bool.and_eq_true] at h
    obtain ⟨⟨⟨h1, h2, h3, h4, h5, h6, h7, h8, h9, h10, h11⟩, _⟩, _⟩ := h
    exact absurd h11 (by omega)
  · cases h
theorem ok : ∀ N, EntWOk Try.prog ⟨104, R N⟩ := by
  intro N
  induction N with
  | zero => exact entw_ok mixed (A := (orc [⟨105, iDearer.R⟩])) (orc_ok (by simp only [List.mem_cons, List.not_mem_nil, or_false, forall_eq_or_imp, forall_eq]; exact iDearer.ok)) Try.func104 (by kernel_rfl) (by kernel_rfl) (n := 69) (ts := [10]) (hd := hd) (dr := dr) (cut := none) (by kernel_rfl) (by kernel_rfl) (by kernel_rfl) run0
  | succ N ih => exact entw_ok mixed (A := (orcW [⟨104, R N⟩] [⟨105, iDearer.R⟩])) (orcW_ok (by simp only [List.mem_cons, List.not_mem_nil, or_false, forall_eq_or_imp, forall_eq]; exact ih) (by simp only [List.mem_cons, List.not_mem_nil, or_false, forall_eq_or_imp, forall_eq]; exact iDearer.ok)) Try.func104 (by kernel_rfl) (by kernel_rfl) (n := 69) (ts := [10]) (hd := hd) (dr := dr) (cut := none) (by kernel_rfl) (by kernel_rfl) (by kernel_rfl) (run N)
end bput

end Go.Proofs.Ytkoongajnnaeoaa.Ab
