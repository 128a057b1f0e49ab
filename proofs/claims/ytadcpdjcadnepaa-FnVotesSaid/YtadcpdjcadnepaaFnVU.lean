/-
  Functions: ways, trees.
-/
import Derived.Test.YtadcpdjcadnepaaFnVT
import Derived.Test.YtadcpdjcadnepaaFnVS
namespace Go.Proofs.Ytadcpdjcadnepaa.Ab
open Go
set_option linter.unusedVariables false
set_option linter.unusedSimpArgs false
set_option maxRecDepth 100000

namespace areWays
def R : List AVal → Option (Bool × AVal × List Blk)
  | [.int .i64 p, .ro (.ints .i64 cs) m 1] => some (decide (m = cs.length) && tr.ways.sp p cs, .bool true, [])
  | _ => none
def hd : Nat → Head := fun i => bif eqN i 0 then ⟨[1, 4, 5, 24, 25], none⟩ else ⟨[1, 4, 5, 6, 24, 25, 37, 38], none⟩
noncomputable def L0 (f n : Nat) (s : State) := loopAt Try.prog (orc [⟨130, arePlayers.R⟩, ⟨66, areMany.R⟩]) hd Dr.std 0 f (bodyOf Try.f107) 0 [true, true, true, false, true] (retK Try.prog [4] 0 none) n s
noncomputable def L2 (f n n2 : Nat) (s : State) := loopAt Try.prog (orc [⟨130, arePlayers.R⟩, ⟨66, areMany.R⟩]) hd Dr.std 0 f (bodyAt (bodyOf Try.f107) [true, true, true, false, true]) (curAt (bodyOf Try.f107) 0 [true, true, true, false, true]) [true, true, false, true, true, true] (iterK (normE 0 (hd (curAt (bodyOf Try.f107) 0 [true, true, true, false, true]))) (L0 f n) (contAt Try.prog (orc [⟨130, arePlayers.R⟩, ⟨66, areMany.R⟩]) hd Dr.std 0 f (bodyOf Try.f107) 0 [true, true, true, false, true] (retK Try.prog [4] 0 none))) n2 s
theorem start (p : Int) (cs : List Int) (f : Nat) :
  runFn Try.prog (orc [⟨130, arePlayers.R⟩, ⟨66, areMany.R⟩]) hd Dr.std none f (bodyOf Try.f107) 60 [4] [.int .i64 p, .ro (.ints .i64 cs) cs.length 1] []
  = (bif true && (true && true || true && true) then bif !(decide ((1 : Int) ≤ p) && decide (p ≤ (6 : Int))) then some (AVal.bool false, []) else bif decide (cs.length ≤ cs.length ∧ cs.length ≤ (4611686018427387904 : Nat)) && (true && (true && (true && true)) || true && true) then bif !(decide (IntKind.i64.wrap (IntKind.i64.wrap (p + (1 : Int)) * IntKind.i64.wrap (p + (1 : Int))) ≤ (↑cs.length : Int)) && decide ((↑cs.length : Int) ≤ IntKind.i64.wrap (IntKind.i64.wrap (p + (1 : Int)) * IntKind.i64.wrap (p + (1 : Int)))) && (List.take cs.length cs).all fun x => decide ((0 : Int) ≤ x) && decide (x ≤ (1000 : Int))) then some (AVal.bool false, []) else L0 f f (mkS (60 : Nat) [((1 : Nat), AVal.ro (Cont.ints IntKind.i64 cs) cs.length (1 : Nat)), ((4 : Nat), AVal.bool false), ((5 : Nat), AVal.int IntKind.i64 (IntKind.i64.wrap (p + (1 : Int)))), ((24 : Nat), AVal.int IntKind.i64 (IntKind.i64.wrap (p + (1 : Int)))), ((25 : Nat), AVal.int IntKind.i64 (0 : Int))] []) else none else none) := by kernel_rfl
theorem round0 (nn l i : Int) (cs : List Int) (f n : Nat) :
  L0 f (n + 1) (mkS 60 [(1, .ro (.ints .i64 cs) cs.length 1), (4, .bool false), (5, .int .i64 nn), (24, .int .i64 l), (25, .int .i64 i)] [])
  = (bif decide (i < l) then bif true && (decide ((0 : Int) ≤ IntKind.i64.wrap (IntKind.i64.wrap (i * nn) + i)) && decide (IntKind.i64.wrap (IntKind.i64.wrap (i * nn) + i) < (↑cs.length : Int))) then bif decide ((IntKind.i64.wrap (IntKind.i64.wrap (i * nn) + i)).toNat < cs.length) then bif gz cs (IntKind.i64.wrap (IntKind.i64.wrap (i * nn) + i)).toNat != (0 : Int) then some (AVal.bool false, []) else L2 f n f (mkS (60 : Nat) [((1 : Nat), AVal.ro (Cont.ints IntKind.i64 cs) cs.length (1 : Nat)), ((4 : Nat), AVal.bool false), ((5 : Nat), AVal.int IntKind.i64 nn), ((6 : Nat), AVal.int IntKind.i64 i), ((24 : Nat), AVal.int IntKind.i64 l), ((25 : Nat), AVal.int IntKind.i64 i), ((37 : Nat), AVal.int IntKind.i64 i), ((38 : Nat), AVal.int IntKind.i64 (0 : Int))] []) else none else none else some (AVal.bool true, [])) := by kernel_rfl
theorem round2 (nn l i m k : Int) (cs : List Int) (f n n2 : Nat) :
  L2 f n (n2 + 1) (mkS 60 [(1, .ro (.ints .i64 cs) cs.length 1), (4, .bool false), (5, .int .i64 nn), (6, .int .i64 i), (24, .int .i64 l), (25, .int .i64 i), (37, .int .i64 m), (38, .int .i64 k)] [])
  = (bif decide (k < m) then bif true && (decide ((0 : Int) ≤ IntKind.i64.wrap (IntKind.i64.wrap (i * nn) + k)) && decide (IntKind.i64.wrap (IntKind.i64.wrap (i * nn) + k) < (↑cs.length : Int))) then bif decide ((IntKind.i64.wrap (IntKind.i64.wrap (i * nn) + k)).toNat < cs.length) then bif true && (decide ((0 : Int) ≤ IntKind.i64.wrap (IntKind.i64.wrap (k * nn) + i)) && decide (IntKind.i64.wrap (IntKind.i64.wrap (k * nn) + i) < (↑cs.length : Int))) then bif decide ((IntKind.i64.wrap (IntKind.i64.wrap (k * nn) + i)).toNat < cs.length) then bif gz cs (IntKind.i64.wrap (IntKind.i64.wrap (i * nn) + k)).toNat != gz cs (IntKind.i64.wrap (IntKind.i64.wrap (k * nn) + i)).toNat then some (AVal.bool false, []) else L2 f n n2 (mkS (60 : Nat) [((1 : Nat), AVal.ro (Cont.ints IntKind.i64 cs) cs.length (1 : Nat)), ((4 : Nat), AVal.bool false), ((5 : Nat), AVal.int IntKind.i64 nn), ((6 : Nat), AVal.int IntKind.i64 i), ((24 : Nat), AVal.int IntKind.i64 l), ((25 : Nat), AVal.int IntKind.i64 i), ((37 : Nat), AVal.int IntKind.i64 m), ((38 : Nat), AVal.int IntKind.i64 (IntKind.i64.wrap (k + (1 : Int))))] []) else none else none else none else none else L0 f n (mkS (60 : Nat) [((1 : Nat), AVal.ro (Cont.ints IntKind.i64 cs) cs.length (1 : Nat)), ((4 : Nat), AVal.bool false), ((5 : Nat), AVal.int IntKind.i64 nn), ((24 : Nat), AVal.int IntKind.i64 l), ((25 : Nat), AVal.int IntKind.i64 (IntKind.i64.wrap (i + (1 : Int))))] [])) := by kernel_rfl
theorem loop2 (p i : Nat) (cs : List Int) (f n : Nat) (W : tr.Ways p cs) (hi : i < p + 1) : ∀ (d k n2 : Nat), k + d = i → d < n2 →
    L2 f n n2 (mkS 60 [(1, .ro (.ints .i64 cs) cs.length 1), (4, .bool false), (5, .int .i64 ((p + 1 : Nat) : Int)), (6, .int .i64 ((i : Nat) : Int)), (24, .int .i64 ((p + 1 : Nat) : Int)), (25, .int .i64 ((i : Nat) : Int)), (37, .int .i64 ((i : Nat) : Int)), (38, .int .i64 ((k : Nat) : Int))] []) = L0 f n (mkS 60 [(1, .ro (.ints .i64 cs) cs.length 1), (4, .bool false), (5, .int .i64 ((p + 1 : Nat) : Int)), (24, .int .i64 ((p + 1 : Nat) : Int)), (25, .int .i64 ((i + 1 : Nat) : Int))] []) := by
  have w1 := W.p1
  have w5 := W.p5
  have wl := W.len
  have qq : (p + 1) * (p + 1) ≤ 36 := Nat.mul_le_mul (show p + 1 ≤ 6 by omega) (show p + 1 ≤ 6 by omega)
  intro d
  induction d with
  | zero =>
    intro k n2 hk hn
    obtain ⟨n2, rfl⟩ : ∃ k, n2 = k + 1 := ⟨n2 - 1, by omega⟩
    obtain rfl : k = i := by omega
    rw [round2]
    simp -implicitDefEqProofs (disch := omega) only [take_one, set_one, decide_eq_true, decide_eq_false, IntWalk.i64_in, beqT, beqF, bneT, bneF, nat_succ, ← Int.natCast_mul, ← Int.natCast_add, Int.toNat_natCast, Int.zero_mul, Int.zero_add, Int.add_zero, Nat.zero_add, Nat.add_zero, Nat.zero_mul, List.length_singleton, List.length_append, List.length_nil, List.length_cons, List.take_length, List.drop_zero, List.replicate_zero, List.take_nil, List.nil_append, Nat.reduceBEq, Nat.reduceMul, Nat.reduceLeDiff, eq_self, and_self, true_and, and_true, decide_true, decide_false, Bool.and_self, Bool.or_self, Bool.and_true, Bool.true_and, Bool.and_false, Bool.false_and, Bool.or_true, Bool.true_or, Bool.or_false, Bool.false_or, Bool.not_true, Bool.not_false, cond_true, cond_false]
  | succ d ih =>
    intro k n2 hk hn
    obtain ⟨n2, rfl⟩ : ∃ k, n2 = k + 1 := ⟨n2 - 1, by omega⟩
    have g := ih (k + 1) n2 (by omega) (by omega)
    have hi1 := tr.idx_lt (n := p + 1) (i := i) (k := k) (by omega) (by omega)
    have hi2 := tr.idx_lt (n := p + 1) (i := k) (k := i) (by omega) (by omega)
    have h1 := W.sym i k (by omega) (by omega)
    rw [round2]
    simp -implicitDefEqProofs (disch := omega) only [take_one, set_one, decide_eq_true, decide_eq_false, IntWalk.i64_in, beqT, beqF, bneT, bneF, nat_succ, ← Int.natCast_mul, ← Int.natCast_add, Int.toNat_natCast, Int.zero_mul, Int.zero_add, Int.add_zero, Nat.zero_add, Nat.add_zero, Nat.zero_mul, List.length_singleton, List.length_append, List.length_nil, List.length_cons, List.take_length, List.drop_zero, List.replicate_zero, List.take_nil, List.nil_append, Nat.reduceBEq, Nat.reduceMul, Nat.reduceLeDiff, eq_self, and_self, true_and, and_true, decide_true, decide_false, Bool.and_self, Bool.or_self, Bool.and_true, Bool.true_and, Bool.and_false, Bool.false_and, Bool.or_true, Bool.true_or, Bool.or_false, Bool.false_or, Bool.not_true, Bool.not_false, cond_true, cond_false]
    exact g
theorem loop0 (p : Nat) (cs : List Int) (f : Nat) (W : tr.Ways p cs) (hf : p + 1 < f) : ∀ (d i n : Nat), i + d = p + 1 → d < n →
    L0 f n (mkS 60 [(1, .ro (.ints .i64 cs) cs.length 1), (4, .bool false), (5, .int .i64 ((p + 1 : Nat) : Int)), (24, .int .i64 ((p + 1 : Nat) : Int)), (25, .int .i64 ((i : Nat) : Int))] []) = some (.bool true, []) := by
  have w1 := W.p1
  have w5 := W.p5
  have wl := W.len
  have qq : (p + 1) * (p + 1) ≤ 36 := Nat.mul_le_mul (show p + 1 ≤ 6 by omega) (show p + 1 ≤ 6 by omega)
  intro d
  induction d with
  | zero =>
    intro i n hk hn
    obtain ⟨n, rfl⟩ : ∃ k, n = k + 1 := ⟨n - 1, by omega⟩
    obtain rfl : i = p + 1 := by omega
    rw [round0]
    simp -implicitDefEqProofs (disch := omega) only [take_one, set_one, decide_eq_true, decide_eq_false, IntWalk.i64_in, beqT, beqF, bneT, bneF, nat_succ, ← Int.natCast_mul, ← Int.natCast_add, Int.toNat_natCast, Int.zero_mul, Int.zero_add, Int.add_zero, Nat.zero_add, Nat.add_zero, Nat.zero_mul, List.length_singleton, List.length_append, List.length_nil, List.length_cons, List.take_length, List.drop_zero, List.replicate_zero, List.take_nil, List.nil_append, Nat.reduceBEq, Nat.reduceMul, Nat.reduceLeDiff, eq_self, and_self, true_and, and_true, decide_true, decide_false, Bool.and_self, Bool.or_self, Bool.and_true, Bool.true_and, Bool.and_false, Bool.false_and, Bool.or_true, Bool.true_or, Bool.or_false, Bool.false_or, Bool.not_true, Bool.not_false, cond_true, cond_false]
  | succ d ih =>
    intro i n hk hn
    obtain ⟨n, rfl⟩ : ∃ k, n = k + 1 := ⟨n - 1, by omega⟩
    have g := ih (i + 1) n (by omega) (by omega)
    have hi1 := tr.idx_lt (n := p + 1) (i := i) (k := i) (by omega) (by omega)
    have h1 := W.dia i (by omega)
    have g0 := loop2 p i cs f n W (by omega) i 0 f (by omega) (by omega)
    rw [round0]
    simp -implicitDefEqProofs (disch := omega) only [take_one, set_one, decide_eq_true, decide_eq_false, IntWalk.i64_in, beqT, beqF, bneT, bneF, nat_succ, ← Int.natCast_mul, ← Int.natCast_add, Int.toNat_natCast, Int.zero_mul, Int.zero_add, Int.add_zero, Nat.zero_add, Nat.add_zero, Nat.zero_mul, List.length_singleton, List.length_append, List.length_nil, List.length_cons, List.take_length, List.drop_zero, List.replicate_zero, List.take_nil, List.nil_append, Nat.reduceBEq, Nat.reduceMul, Nat.reduceLeDiff, eq_self, and_self, true_and, and_true, decide_true, decide_false, Bool.and_self, Bool.or_self, Bool.and_true, Bool.true_and, Bool.and_false, Bool.false_and, Bool.or_true, Bool.true_or, Bool.or_false, Bool.false_or, Bool.not_true, Bool.not_false, cond_true, cond_false]
    exact g0.trans g
theorem run : ∀ args v new, R args = some (true, v, new) → ∃ fuel, runFn Try.prog (orc [⟨130, arePlayers.R⟩, ⟨66, areMany.R⟩]) hd Dr.std none fuel (bodyOf Try.f107) 60 [4] args [] = some (v, new) := by
  intro args v new h
  unfold R at h
  split at h
  · rename_i p cs m
    simp only [Option.some.injEq, Prod.mk.injEq, Bool.and_eq_true, decide_eq_true_eq] at h
    obtain ⟨⟨rfl, hs⟩, rfl, rfl⟩ := h
    have hs2 := hs
    obtain ⟨p, rfl, W⟩ := tr.valid hs2
    have w1 := W.p1
    have w5 := W.p5
    have wl := W.len
    have hx : (cs.all fun x => decide (0 ≤ x) && decide (x ≤ 1000)) = true := by simpa only [List.all_eq_true, Bool.and_eq_true, decide_eq_true_eq] using W.ran
    have q : (p + 1) * (p + 1) ≤ 36 := Nat.mul_le_mul (show p + 1 ≤ 6 by omega) (show p + 1 ≤ 6 by omega)
    have e : ((p + 1 : Nat) : Int) * ((p + 1 : Nat) : Int) = (((p + 1) * (p + 1) : Nat) : Int) := by simp
    have g := loop0 p cs 100 W (by omega) (p + 1) 0 100 (by omega) (by omega)
    obtain ⟨F, hF⟩ : ∃ F : Nat, F = 100 := ⟨100, rfl⟩
    rw [← hF] at g
    refine ⟨F, ?_⟩
    rw [start]
    simp -implicitDefEqProofs (disch := omega) only [hx, e, take_one, set_one, decide_eq_true, decide_eq_false, IntWalk.i64_in, beqT, beqF, bneT, bneF, nat_succ, ← Int.natCast_mul, ← Int.natCast_add, Int.toNat_natCast, Int.zero_mul, Int.zero_add, Int.add_zero, Nat.zero_add, Nat.add_zero, Nat.zero_mul, List.length_singleton, List.length_append, List.length_nil, List.length_cons, List.take_length, List.drop_zero, List.replicate_zero, List.take_nil, List.nil_append, Nat.reduceBEq, Nat.reduceMul, Nat.reduceLeDiff, eq_self, and_self, true_and, and_true, decide_true, decide_false, Bool.and_self, Bool.or_self, Bool.and_true, Bool.true_and, Bool.and_false, Bool.false_and, Bool.or_true, Bool.true_or, Bool.or_false, Bool.false_or, Bool.not_true, Bool.not_false, cond_true, cond_false]
    exact g
  · cases h
theorem ok : EntOk Try.prog ⟨107, R⟩ :=
  ent_okA mixed (A := (orc [⟨130, arePlayers.R⟩, ⟨66, areMany.R⟩])) (orc_ok (by simp only [List.mem_cons, List.not_mem_nil, or_false, forall_eq_or_imp, forall_eq]; exact ⟨arePlayers.ok, areMany.ok⟩)) Try.func107 (by kernel_rfl) (by kernel_rfl) (n := 60) (ts := [4]) (hd := hd) (dr := Dr.std) (cut := none) (by kernel_rfl) (by kernel_rfl) (by kernel_rfl) run
end areWays

namespace join
def R : List AVal → Option (Bool × AVal × List Blk)
  | [.int .i64 p, .ro (.ints .i64 cs) m 1, .int .i64 s] => some (decide (m = cs.length ∧ 0 ≤ s ∧ s.toNat < 2 ^ p.toNat) && tr.ways.sp p cs, .own 0 0 (p.toNat + 1) 0 1, [⟨.typ (.ints .i64 (tr.pays.sv cs p.toNat s.toNat)), 0⟩])
  | _ => none
def hd : Nat → Head := fun i => bif eqN i 0 then ⟨[1, 7, 8, 9, 10], some 1⟩ else bif eqN i 2 then ⟨[1, 7, 8, 9, 10, 11, 12, 26, 27], some 1⟩ else ⟨[1, 7, 8, 9, 10, 11, 12, 13, 26, 27, 30, 31], some 1⟩
noncomputable def L0 (f n : Nat) (s : State) := loopAt Try.prog (orc []) hd Dr.std 0 f (bodyOf Try.f109) 0 [true, true, true, true, true, false] (retK Try.prog [6] 0 none) n s
noncomputable def L2 (f n n2 : Nat) (s : State) := loopAt Try.prog (orc []) hd Dr.std 0 f (bodyAt (bodyOf Try.f109) [true, true, true, true, true, false]) (curAt (bodyOf Try.f109) 0 [true, true, true, true, true, false]) [true, true, false, true] (iterK (normE 0 (hd (curAt (bodyOf Try.f109) 0 [true, true, true, true, true, false]))) (L0 f n) (contAt Try.prog (orc []) hd Dr.std 0 f (bodyOf Try.f109) 0 [true, true, true, true, true, false] (retK Try.prog [6] 0 none))) n2 s
noncomputable def L4 (f n n2 n3 : Nat) (s : State) := loopAt Try.prog (orc []) hd Dr.std 0 f (bodyAt (bodyAt (bodyOf Try.f109) [true, true, true, true, true, false]) [true, true, false, true]) (curAt (bodyAt (bodyOf Try.f109) [true, true, true, true, true, false]) (curAt (bodyOf Try.f109) 0 [true, true, true, true, true, false]) [true, true, false, true]) [true, true, false, true, true] (iterK (normE 0 (hd (curAt (bodyAt (bodyOf Try.f109) [true, true, true, true, true, false]) (curAt (bodyOf Try.f109) 0 [true, true, true, true, true, false]) [true, true, false, true]))) (L2 f n n2) (contAt Try.prog (orc []) hd Dr.std 0 f (bodyAt (bodyOf Try.f109) [true, true, true, true, true, false]) (curAt (bodyOf Try.f109) 0 [true, true, true, true, true, false]) [true, true, false, true] (iterK (normE 0 (hd (curAt (bodyOf Try.f109) 0 [true, true, true, true, true, false]))) (L0 f n) (contAt Try.prog (orc []) hd Dr.std 0 f (bodyOf Try.f109) 0 [true, true, true, true, true, false] (retK Try.prog [6] 0 none))))) n3 s
theorem start (p : Int) (s : Int) (cs : List Int) (f : Nat) :
  runFn Try.prog (orc []) hd Dr.std none f (bodyOf Try.f109) 81 [6] [.int .i64 p, .ro (.ints .i64 cs) cs.length 1, .int .i64 s] []
  = (bif (1 : Nat) == (1 : Nat) && (IntKind.i64.wrap (p + (1 : Int)) == IntKind.i64.wrap (p + (1 : Int)) && (decide ((0 : Int) ≤ IntKind.i64.wrap (p + (1 : Int))) && (decide (IntKind.i64.wrap (p + (1 : Int)) * (8 : Int) ≤ (140737488355328 : Int)) && decide (IntKind.i64.wrap (p + (1 : Int)) ≤ (4611686018427387904 : Int))))) then L0 f f (mkS (81 : Nat) [((1 : Nat), AVal.ro (Cont.ints IntKind.i64 cs) cs.length (1 : Nat)), ((7 : Nat), AVal.int IntKind.i64 (IntKind.i64.wrap (p + (1 : Int)))), ((8 : Nat), AVal.own (0 : Nat) (0 : Nat) (IntKind.i64.wrap (p + (1 : Int))).toNat (0 : Nat) (1 : Nat)), ((9 : Nat), AVal.int IntKind.i64 (ior.sv IntKind.i64 (ishl.sv IntKind.i64 s (1 : Int)) (1 : Int))), ((10 : Nat), AVal.int IntKind.i64 (1 : Int))] [{ c := BC.typ (Cont.ints IntKind.i64 (List.replicate (IntKind.i64.wrap (p + (1 : Int))).toNat (0 : Int))), ver := (0 : Nat) }]) else none) := by kernel_rfl
theorem round0 (nn P J : Int) (cs os : List Int) (q f n : Nat) :
  L0 f (n + 1) (mkS 81 [(1, .ro (.ints .i64 cs) cs.length 1), (7, .int .i64 nn), (8, .own 0 0 q 0 1), (9, .int .i64 P), (10, .int .i64 J)] [⟨.typ (.ints .i64 os), 0⟩])
  = (bif J != P then L2 f n f (mkS (81 : Nat) [((1 : Nat), AVal.ro (Cont.ints IntKind.i64 cs) cs.length (1 : Nat)), ((7 : Nat), AVal.int IntKind.i64 nn), ((8 : Nat), AVal.own (0 : Nat) (0 : Nat) q (0 : Nat) (1 : Nat)), ((9 : Nat), AVal.int IntKind.i64 P), ((10 : Nat), AVal.int IntKind.i64 J), ((11 : Nat), AVal.int IntKind.i64 (-1 : Int)), ((12 : Nat), AVal.int IntKind.i64 (0 : Int)), ((26 : Nat), AVal.int IntKind.i64 nn), ((27 : Nat), AVal.int IntKind.i64 (0 : Int))] [{ c := BC.typ (Cont.ints IntKind.i64 os), ver := (0 : Nat) }]) else some (AVal.own (0 : Nat) (0 : Nat) q (0 : Nat) (1 : Nat), [{ c := BC.typ (Cont.ints IntKind.i64 os), ver := (0 : Nat) }])) := by kernel_rfl
theorem round2 (to le b i : Int) (nn P J : Int) (cs os : List Int) (q f n : Nat) (n2 : Nat) :
  L2 f n (n2 + 1) (mkS 81 [(1, .ro (.ints .i64 cs) cs.length 1), (7, .int .i64 nn), (8, .own 0 0 q 0 1), (9, .int .i64 P), (10, .int .i64 J), (11, .int .i64 to), (12, .int .i64 le), (26, .int .i64 b), (27, .int .i64 i)] [⟨.typ (.ints .i64 os), 0⟩])
  = (bif decide (i < b) then L4 f n n2 f (mkS (81 : Nat) [((1 : Nat), AVal.ro (Cont.ints IntKind.i64 cs) cs.length (1 : Nat)), ((7 : Nat), AVal.int IntKind.i64 nn), ((8 : Nat), AVal.own (0 : Nat) (0 : Nat) q (0 : Nat) (1 : Nat)), ((9 : Nat), AVal.int IntKind.i64 P), ((10 : Nat), AVal.int IntKind.i64 J), ((11 : Nat), AVal.int IntKind.i64 to), ((12 : Nat), AVal.int IntKind.i64 le), ((13 : Nat), AVal.int IntKind.i64 i), ((26 : Nat), AVal.int IntKind.i64 b), ((27 : Nat), AVal.int IntKind.i64 i), ((30 : Nat), AVal.int IntKind.i64 nn), ((31 : Nat), AVal.int IntKind.i64 (0 : Int))] [{ c := BC.typ (Cont.ints IntKind.i64 os), ver := (0 : Nat) }]) else bif decide ((0 : Int) ≤ to) then bif true && (decide ((0 : Int) ≤ to) && decide (to < (↑q : Int))) then bif true && (true && (decide (to.toNat < os.length) && true)) then L0 f n (mkS (81 : Nat) [((1 : Nat), AVal.ro (Cont.ints IntKind.i64 cs) cs.length (1 : Nat)), ((7 : Nat), AVal.int IntKind.i64 nn), ((8 : Nat), AVal.own (0 : Nat) (0 : Nat) q (0 : Nat) (1 : Nat)), ((9 : Nat), AVal.int IntKind.i64 P), ((10 : Nat), AVal.int IntKind.i64 (ior.sv IntKind.i64 J (ishl.sv IntKind.i64 (1 : Int) to)))] [{ c := BC.typ (Cont.ints IntKind.i64 (os.set to.toNat le)), ver := (0 : Nat) }]) else none else none else none) := by kernel_rfl
theorem round4 (to le b i c k : Int) (nn P J : Int) (cs os : List Int) (q f n : Nat) (n2 n3 : Nat) :
  L4 f n n2 (n3 + 1) (mkS 81 [(1, .ro (.ints .i64 cs) cs.length 1), (7, .int .i64 nn), (8, .own 0 0 q 0 1), (9, .int .i64 P), (10, .int .i64 J), (11, .int .i64 to), (12, .int .i64 le), (13, .int .i64 i), (26, .int .i64 b), (27, .int .i64 i), (30, .int .i64 c), (31, .int .i64 k)] [⟨.typ (.ints .i64 os), 0⟩])
  = (bif decide (k < c) then bif decide ((0 : Int) ≤ i) then bif iand.sv IntKind.i64 (ishr.sv IntKind.i64 J i) (1 : Int) == (0 : Int) then L4 f n n2 n3 (mkS (81 : Nat) [((1 : Nat), AVal.ro (Cont.ints IntKind.i64 cs) cs.length (1 : Nat)), ((7 : Nat), AVal.int IntKind.i64 nn), ((8 : Nat), AVal.own (0 : Nat) (0 : Nat) q (0 : Nat) (1 : Nat)), ((9 : Nat), AVal.int IntKind.i64 P), ((10 : Nat), AVal.int IntKind.i64 J), ((11 : Nat), AVal.int IntKind.i64 to), ((12 : Nat), AVal.int IntKind.i64 le), ((13 : Nat), AVal.int IntKind.i64 i), ((26 : Nat), AVal.int IntKind.i64 b), ((27 : Nat), AVal.int IntKind.i64 i), ((30 : Nat), AVal.int IntKind.i64 c), ((31 : Nat), AVal.int IntKind.i64 (IntKind.i64.wrap (k + (1 : Int))))] [{ c := BC.typ (Cont.ints IntKind.i64 os), ver := (0 : Nat) }]) else bif decide ((0 : Int) ≤ k) then bif iand.sv IntKind.i64 (ishr.sv IntKind.i64 J k) (1 : Int) == (1 : Int) then L4 f n n2 n3 (mkS (81 : Nat) [((1 : Nat), AVal.ro (Cont.ints IntKind.i64 cs) cs.length (1 : Nat)), ((7 : Nat), AVal.int IntKind.i64 nn), ((8 : Nat), AVal.own (0 : Nat) (0 : Nat) q (0 : Nat) (1 : Nat)), ((9 : Nat), AVal.int IntKind.i64 P), ((10 : Nat), AVal.int IntKind.i64 J), ((11 : Nat), AVal.int IntKind.i64 to), ((12 : Nat), AVal.int IntKind.i64 le), ((13 : Nat), AVal.int IntKind.i64 i), ((26 : Nat), AVal.int IntKind.i64 b), ((27 : Nat), AVal.int IntKind.i64 i), ((30 : Nat), AVal.int IntKind.i64 c), ((31 : Nat), AVal.int IntKind.i64 (IntKind.i64.wrap (k + (1 : Int))))] [{ c := BC.typ (Cont.ints IntKind.i64 os), ver := (0 : Nat) }]) else bif decide ((0 : Int) ≤ k) then bif iand.sv IntKind.i64 (ishr.sv IntKind.i64 P k) (1 : Int) == (0 : Int) then L4 f n n2 n3 (mkS (81 : Nat) [((1 : Nat), AVal.ro (Cont.ints IntKind.i64 cs) cs.length (1 : Nat)), ((7 : Nat), AVal.int IntKind.i64 nn), ((8 : Nat), AVal.own (0 : Nat) (0 : Nat) q (0 : Nat) (1 : Nat)), ((9 : Nat), AVal.int IntKind.i64 P), ((10 : Nat), AVal.int IntKind.i64 J), ((11 : Nat), AVal.int IntKind.i64 to), ((12 : Nat), AVal.int IntKind.i64 le), ((13 : Nat), AVal.int IntKind.i64 i), ((26 : Nat), AVal.int IntKind.i64 b), ((27 : Nat), AVal.int IntKind.i64 i), ((30 : Nat), AVal.int IntKind.i64 c), ((31 : Nat), AVal.int IntKind.i64 (IntKind.i64.wrap (k + (1 : Int))))] [{ c := BC.typ (Cont.ints IntKind.i64 os), ver := (0 : Nat) }]) else bif true && (decide ((0 : Int) ≤ IntKind.i64.wrap (IntKind.i64.wrap (i * nn) + k)) && decide (IntKind.i64.wrap (IntKind.i64.wrap (i * nn) + k) < (↑cs.length : Int))) then bif decide ((IntKind.i64.wrap (IntKind.i64.wrap (i * nn) + k)).toNat < cs.length) then bif decide (to < (0 : Int)) then L4 f n n2 n3 (mkS (81 : Nat) [((1 : Nat), AVal.ro (Cont.ints IntKind.i64 cs) cs.length (1 : Nat)), ((7 : Nat), AVal.int IntKind.i64 nn), ((8 : Nat), AVal.own (0 : Nat) (0 : Nat) q (0 : Nat) (1 : Nat)), ((9 : Nat), AVal.int IntKind.i64 P), ((10 : Nat), AVal.int IntKind.i64 J), ((11 : Nat), AVal.int IntKind.i64 k), ((12 : Nat), AVal.int IntKind.i64 (gz cs (IntKind.i64.wrap (IntKind.i64.wrap (i * nn) + k)).toNat)), ((13 : Nat), AVal.int IntKind.i64 i), ((26 : Nat), AVal.int IntKind.i64 b), ((27 : Nat), AVal.int IntKind.i64 i), ((30 : Nat), AVal.int IntKind.i64 c), ((31 : Nat), AVal.int IntKind.i64 (IntKind.i64.wrap (k + (1 : Int))))] [{ c := BC.typ (Cont.ints IntKind.i64 os), ver := (0 : Nat) }]) else bif decide (gz cs (IntKind.i64.wrap (IntKind.i64.wrap (i * nn) + k)).toNat < le) then L4 f n n2 n3 (mkS (81 : Nat) [((1 : Nat), AVal.ro (Cont.ints IntKind.i64 cs) cs.length (1 : Nat)), ((7 : Nat), AVal.int IntKind.i64 nn), ((8 : Nat), AVal.own (0 : Nat) (0 : Nat) q (0 : Nat) (1 : Nat)), ((9 : Nat), AVal.int IntKind.i64 P), ((10 : Nat), AVal.int IntKind.i64 J), ((11 : Nat), AVal.int IntKind.i64 k), ((12 : Nat), AVal.int IntKind.i64 (gz cs (IntKind.i64.wrap (IntKind.i64.wrap (i * nn) + k)).toNat)), ((13 : Nat), AVal.int IntKind.i64 i), ((26 : Nat), AVal.int IntKind.i64 b), ((27 : Nat), AVal.int IntKind.i64 i), ((30 : Nat), AVal.int IntKind.i64 c), ((31 : Nat), AVal.int IntKind.i64 (IntKind.i64.wrap (k + (1 : Int))))] [{ c := BC.typ (Cont.ints IntKind.i64 os), ver := (0 : Nat) }]) else L4 f n n2 n3 (mkS (81 : Nat) [((1 : Nat), AVal.ro (Cont.ints IntKind.i64 cs) cs.length (1 : Nat)), ((7 : Nat), AVal.int IntKind.i64 nn), ((8 : Nat), AVal.own (0 : Nat) (0 : Nat) q (0 : Nat) (1 : Nat)), ((9 : Nat), AVal.int IntKind.i64 P), ((10 : Nat), AVal.int IntKind.i64 J), ((11 : Nat), AVal.int IntKind.i64 to), ((12 : Nat), AVal.int IntKind.i64 le), ((13 : Nat), AVal.int IntKind.i64 i), ((26 : Nat), AVal.int IntKind.i64 b), ((27 : Nat), AVal.int IntKind.i64 i), ((30 : Nat), AVal.int IntKind.i64 c), ((31 : Nat), AVal.int IntKind.i64 (IntKind.i64.wrap (k + (1 : Int))))] [{ c := BC.typ (Cont.ints IntKind.i64 os), ver := (0 : Nat) }]) else none else none else none else none else none else L2 f n n2 (mkS (81 : Nat) [((1 : Nat), AVal.ro (Cont.ints IntKind.i64 cs) cs.length (1 : Nat)), ((7 : Nat), AVal.int IntKind.i64 nn), ((8 : Nat), AVal.own (0 : Nat) (0 : Nat) q (0 : Nat) (1 : Nat)), ((9 : Nat), AVal.int IntKind.i64 P), ((10 : Nat), AVal.int IntKind.i64 J), ((11 : Nat), AVal.int IntKind.i64 to), ((12 : Nat), AVal.int IntKind.i64 le), ((26 : Nat), AVal.int IntKind.i64 b), ((27 : Nat), AVal.int IntKind.i64 (IntKind.i64.wrap (i + (1 : Int))))] [{ c := BC.typ (Cont.ints IntKind.i64 os), ver := (0 : Nat) }])) := by kernel_rfl
theorem loop4 (p P J i : Nat) (a : Int × Int) (cs os : List Int) (f n n2 : Nat) (W : tr.Ways p cs) (hP : P < 2 ^ (p + 1)) (hJ : J < 2 ^ (p + 1)) (hos : os.length = p + 1) (hi : i < p + 1) : ∀ (d k n3 : Nat), k + d = p + 1 → d < n3 →
    L4 f n n2 n3 (mkS 81 [(1, .ro (.ints .i64 cs) cs.length 1), (7, .int .i64 ((p + 1 : Nat) : Int)), (8, .own 0 0 (p + 1) 0 1), (9, .int .i64 ((P : Nat) : Int)), (10, .int .i64 ((J : Nat) : Int)), (11, .int .i64 (tr.inn.sv cs (p + 1) J P i a k).1), (12, .int .i64 (tr.inn.sv cs (p + 1) J P i a k).2), (13, .int .i64 ((i : Nat) : Int)), (26, .int .i64 ((p + 1 : Nat) : Int)), (27, .int .i64 ((i : Nat) : Int)), (30, .int .i64 ((p + 1 : Nat) : Int)), (31, .int .i64 ((k : Nat) : Int))] [⟨.typ (.ints .i64 os), 0⟩]) = L2 f n n2 (mkS 81 [(1, .ro (.ints .i64 cs) cs.length 1), (7, .int .i64 ((p + 1 : Nat) : Int)), (8, .own 0 0 (p + 1) 0 1), (9, .int .i64 ((P : Nat) : Int)), (10, .int .i64 ((J : Nat) : Int)), (11, .int .i64 (tr.inn.sv cs (p + 1) J P i a (p + 1)).1), (12, .int .i64 (tr.inn.sv cs (p + 1) J P i a (p + 1)).2), (26, .int .i64 ((p + 1 : Nat) : Int)), (27, .int .i64 ((i + 1 : Nat) : Int))] [⟨.typ (.ints .i64 os), 0⟩]) := by
  have w1 := W.p1
  have w5 := W.p5
  have wl := W.len
  have qq : (p + 1) * (p + 1) ≤ 36 := Nat.mul_le_mul (show p + 1 ≤ 6 by omega) (show p + 1 ≤ 6 by omega)
  have h64 : 2 ^ (p + 1) ≤ 64 := wo.pow_le (by have := W.p5; omega)
  intro d
  induction d with
  | zero =>
    intro k n3 hk hn
    obtain ⟨n3, rfl⟩ : ∃ k, n3 = k + 1 := ⟨n3 - 1, by omega⟩
    obtain rfl : k = p + 1 := by omega
    rw [round4]
    simp -implicitDefEqProofs (disch := omega) only [take_one, set_one, decide_eq_true, decide_eq_false, IntWalk.i64_in, beqT, beqF, bneT, bneF, nat_succ, ← Int.natCast_mul, ← Int.natCast_add, Int.toNat_natCast, Int.zero_mul, Int.zero_add, Int.add_zero, Nat.zero_add, Nat.add_zero, Nat.zero_mul, List.length_singleton, List.length_append, List.length_nil, List.length_cons, List.take_length, List.drop_zero, List.replicate_zero, List.take_nil, List.nil_append, Nat.reduceBEq, Nat.reduceMul, Nat.reduceLeDiff, eq_self, and_self, true_and, and_true, decide_true, decide_false, Bool.and_self, Bool.or_self, Bool.and_true, Bool.true_and, Bool.and_false, Bool.false_and, Bool.or_true, Bool.true_or, Bool.or_false, Bool.false_or, Bool.not_true, Bool.not_false, cond_true, cond_false]
  | succ d ih =>
    intro k n3 hk hn
    obtain ⟨n3, rfl⟩ : ∃ k, n3 = k + 1 := ⟨n3 - 1, by omega⟩
    have g := ih (k + 1) n3 (by omega) (by omega)
    have hi1 := tr.idx_lt (n := p + 1) (i := i) (k := k) (by omega) (by omega)
    rw [tr.inn.sv] at g
    rw [round4]
    generalize tr.inn.sv cs (p + 1) J P i a k = b at g ⊢
    cases h1 : wo.off.sp J i with
    | true =>
      have s1 := vo.shr_t (by omega) (by omega) h1
      have e : tr.stp cs (p + 1) J P i k b = b := by simp [tr.stp, h1]
      rw [e] at g
      simp -implicitDefEqProofs (disch := omega) only [s1, take_one, set_one, decide_eq_true, decide_eq_false, IntWalk.i64_in, beqT, beqF, bneT, bneF, nat_succ, ← Int.natCast_mul, ← Int.natCast_add, Int.toNat_natCast, Int.zero_mul, Int.zero_add, Int.add_zero, Nat.zero_add, Nat.add_zero, Nat.zero_mul, List.length_singleton, List.length_append, List.length_nil, List.length_cons, List.take_length, List.drop_zero, List.replicate_zero, List.take_nil, List.nil_append, Nat.reduceBEq, Nat.reduceMul, Nat.reduceLeDiff, eq_self, and_self, true_and, and_true, decide_true, decide_false, Bool.and_self, Bool.or_self, Bool.and_true, Bool.true_and, Bool.and_false, Bool.false_and, Bool.or_true, Bool.true_or, Bool.or_false, Bool.false_or, Bool.not_true, Bool.not_false, cond_true, cond_false]
      exact g
    | false =>
      have s1 := vo.shr_f (by omega) (by omega) h1
      cases h2 : wo.off.sp J k with
      | false =>
        have s2 := vo.shr_f (by omega) (by omega) h2
        have e : tr.stp cs (p + 1) J P i k b = b := by simp [tr.stp, h1, h2]
        rw [e] at g
        simp -implicitDefEqProofs (disch := omega) only [s1, s2, take_one, set_one, decide_eq_true, decide_eq_false, IntWalk.i64_in, beqT, beqF, bneT, bneF, nat_succ, ← Int.natCast_mul, ← Int.natCast_add, Int.toNat_natCast, Int.zero_mul, Int.zero_add, Int.add_zero, Nat.zero_add, Nat.add_zero, Nat.zero_mul, List.length_singleton, List.length_append, List.length_nil, List.length_cons, List.take_length, List.drop_zero, List.replicate_zero, List.take_nil, List.nil_append, Nat.reduceBEq, Nat.reduceMul, Nat.reduceLeDiff, eq_self, and_self, true_and, and_true, decide_true, decide_false, Bool.and_self, Bool.or_self, Bool.and_true, Bool.true_and, Bool.and_false, Bool.false_and, Bool.or_true, Bool.true_or, Bool.or_false, Bool.false_or, Bool.not_true, Bool.not_false, cond_true, cond_false]
        exact g
      | true =>
        have s2 := vo.shr_t (by omega) (by omega) h2
        cases h3 : wo.off.sp P k with
        | true =>
          have s3 := vo.shr_t (by omega) (by omega) h3
          have e : tr.stp cs (p + 1) J P i k b = b := by simp [tr.stp, h1, h2, h3]
          rw [e] at g
          simp -implicitDefEqProofs (disch := omega) only [s1, s2, s3, take_one, set_one, decide_eq_true, decide_eq_false, IntWalk.i64_in, beqT, beqF, bneT, bneF, nat_succ, ← Int.natCast_mul, ← Int.natCast_add, Int.toNat_natCast, Int.zero_mul, Int.zero_add, Int.add_zero, Nat.zero_add, Nat.add_zero, Nat.zero_mul, List.length_singleton, List.length_append, List.length_nil, List.length_cons, List.take_length, List.drop_zero, List.replicate_zero, List.take_nil, List.nil_append, Nat.reduceBEq, Nat.reduceMul, Nat.reduceLeDiff, eq_self, and_self, true_and, and_true, decide_true, decide_false, Bool.and_self, Bool.or_self, Bool.and_true, Bool.true_and, Bool.and_false, Bool.false_and, Bool.or_true, Bool.true_or, Bool.or_false, Bool.false_or, Bool.not_true, Bool.not_false, cond_true, cond_false]
          exact g
        | false =>
          have s3 := vo.shr_f (by omega) (by omega) h3
          by_cases h4 : b.1 < 0
          · have e : tr.stp cs (p + 1) J P i k b = ((k : Int), gz cs (i * (p + 1) + k)) := by simp [tr.stp, h1, h2, h3, h4]
            rw [e] at g
            simp -implicitDefEqProofs (disch := omega) only [s1, s2, s3, take_one, set_one, decide_eq_true, decide_eq_false, IntWalk.i64_in, beqT, beqF, bneT, bneF, nat_succ, ← Int.natCast_mul, ← Int.natCast_add, Int.toNat_natCast, Int.zero_mul, Int.zero_add, Int.add_zero, Nat.zero_add, Nat.add_zero, Nat.zero_mul, List.length_singleton, List.length_append, List.length_nil, List.length_cons, List.take_length, List.drop_zero, List.replicate_zero, List.take_nil, List.nil_append, Nat.reduceBEq, Nat.reduceMul, Nat.reduceLeDiff, eq_self, and_self, true_and, and_true, decide_true, decide_false, Bool.and_self, Bool.or_self, Bool.and_true, Bool.true_and, Bool.and_false, Bool.false_and, Bool.or_true, Bool.true_or, Bool.or_false, Bool.false_or, Bool.not_true, Bool.not_false, cond_true, cond_false]
            exact g
          · by_cases h5 : gz cs (i * (p + 1) + k) < b.2
            · have e : tr.stp cs (p + 1) J P i k b = ((k : Int), gz cs (i * (p + 1) + k)) := by simp [tr.stp, h1, h2, h3, h5]
              rw [e] at g
              simp -implicitDefEqProofs (disch := omega) only [s1, s2, s3, take_one, set_one, decide_eq_true, decide_eq_false, IntWalk.i64_in, beqT, beqF, bneT, bneF, nat_succ, ← Int.natCast_mul, ← Int.natCast_add, Int.toNat_natCast, Int.zero_mul, Int.zero_add, Int.add_zero, Nat.zero_add, Nat.add_zero, Nat.zero_mul, List.length_singleton, List.length_append, List.length_nil, List.length_cons, List.take_length, List.drop_zero, List.replicate_zero, List.take_nil, List.nil_append, Nat.reduceBEq, Nat.reduceMul, Nat.reduceLeDiff, eq_self, and_self, true_and, and_true, decide_true, decide_false, Bool.and_self, Bool.or_self, Bool.and_true, Bool.true_and, Bool.and_false, Bool.false_and, Bool.or_true, Bool.true_or, Bool.or_false, Bool.false_or, Bool.not_true, Bool.not_false, cond_true, cond_false]
              exact g
            · have e : tr.stp cs (p + 1) J P i k b = b := by simp only [tr.stp, h1, h2, h3, decide_eq_false h4, decide_eq_false h5]; rfl
              rw [e] at g
              simp -implicitDefEqProofs (disch := omega) only [s1, s2, s3, take_one, set_one, decide_eq_true, decide_eq_false, IntWalk.i64_in, beqT, beqF, bneT, bneF, nat_succ, ← Int.natCast_mul, ← Int.natCast_add, Int.toNat_natCast, Int.zero_mul, Int.zero_add, Int.add_zero, Nat.zero_add, Nat.add_zero, Nat.zero_mul, List.length_singleton, List.length_append, List.length_nil, List.length_cons, List.take_length, List.drop_zero, List.replicate_zero, List.take_nil, List.nil_append, Nat.reduceBEq, Nat.reduceMul, Nat.reduceLeDiff, eq_self, and_self, true_and, and_true, decide_true, decide_false, Bool.and_self, Bool.or_self, Bool.and_true, Bool.true_and, Bool.and_false, Bool.false_and, Bool.or_true, Bool.true_or, Bool.or_false, Bool.false_or, Bool.not_true, Bool.not_false, cond_true, cond_false]
              exact g
theorem loop2 (p P J : Nat) (cs os : List Int) (f n t : Nat) (W : tr.Ways p cs) (hP : P < 2 ^ (p + 1)) (hJ : J < 2 ^ (p + 1)) (hos : os.length = p + 1) (hf : p + 1 < f) (h1 : (tr.out.sv cs (p + 1) J P (p + 1)).1 = t) (h2 : t < p + 1) : ∀ (d i n2 : Nat), i + d = p + 1 → d < n2 →
    L2 f n n2 (mkS 81 [(1, .ro (.ints .i64 cs) cs.length 1), (7, .int .i64 ((p + 1 : Nat) : Int)), (8, .own 0 0 (p + 1) 0 1), (9, .int .i64 ((P : Nat) : Int)), (10, .int .i64 ((J : Nat) : Int)), (11, .int .i64 (tr.out.sv cs (p + 1) J P i).1), (12, .int .i64 (tr.out.sv cs (p + 1) J P i).2), (26, .int .i64 ((p + 1 : Nat) : Int)), (27, .int .i64 ((i : Nat) : Int))] [⟨.typ (.ints .i64 os), 0⟩]) = L0 f n (mkS 81 [(1, .ro (.ints .i64 cs) cs.length 1), (7, .int .i64 ((p + 1 : Nat) : Int)), (8, .own 0 0 (p + 1) 0 1), (9, .int .i64 ((P : Nat) : Int)), (10, .int .i64 ((wo.up.sv J t : Nat) : Int))] [⟨.typ (.ints .i64 (os.set t (tr.out.sv cs (p + 1) J P (p + 1)).2)), 0⟩]) := by
  have w1 := W.p1
  have w5 := W.p5
  have wl := W.len
  have qq : (p + 1) * (p + 1) ≤ 36 := Nat.mul_le_mul (show p + 1 ≤ 6 by omega) (show p + 1 ≤ 6 by omega)
  have h64 : 2 ^ (p + 1) ≤ 64 := wo.pow_le (by have := W.p5; omega)
  intro d
  induction d with
  | zero =>
    intro i n2 hk hn
    obtain ⟨n2, rfl⟩ : ∃ k, n2 = k + 1 := ⟨n2 - 1, by omega⟩
    obtain rfl : i = p + 1 := by omega
    have s1 := wo.shl_one t (by omega)
    have s2 := wo.or_shl J (by omega) t (by omega)
    rw [round2]
    simp -implicitDefEqProofs (disch := omega) only [h1, s1, s2, take_one, set_one, decide_eq_true, decide_eq_false, IntWalk.i64_in, beqT, beqF, bneT, bneF, nat_succ, ← Int.natCast_mul, ← Int.natCast_add, Int.toNat_natCast, Int.zero_mul, Int.zero_add, Int.add_zero, Nat.zero_add, Nat.add_zero, Nat.zero_mul, List.length_singleton, List.length_append, List.length_nil, List.length_cons, List.take_length, List.drop_zero, List.replicate_zero, List.take_nil, List.nil_append, Nat.reduceBEq, Nat.reduceMul, Nat.reduceLeDiff, eq_self, and_self, true_and, and_true, decide_true, decide_false, Bool.and_self, Bool.or_self, Bool.and_true, Bool.true_and, Bool.and_false, Bool.false_and, Bool.or_true, Bool.true_or, Bool.or_false, Bool.false_or, Bool.not_true, Bool.not_false, cond_true, cond_false]
  | succ d ih =>
    intro i n2 hk hn
    obtain ⟨n2, rfl⟩ : ∃ k, n2 = k + 1 := ⟨n2 - 1, by omega⟩
    have g := ih (i + 1) n2 (by omega) (by omega)
    have g0 := loop4 p P J i (tr.out.sv cs (p + 1) J P i) cs os f n n2 W hP hJ hos (by omega) (p + 1) 0 f (by omega) (by omega)
    rw [round2]
    simp -implicitDefEqProofs (disch := omega) only [take_one, set_one, decide_eq_true, decide_eq_false, IntWalk.i64_in, beqT, beqF, bneT, bneF, nat_succ, ← Int.natCast_mul, ← Int.natCast_add, Int.toNat_natCast, Int.zero_mul, Int.zero_add, Int.add_zero, Nat.zero_add, Nat.add_zero, Nat.zero_mul, List.length_singleton, List.length_append, List.length_nil, List.length_cons, List.take_length, List.drop_zero, List.replicate_zero, List.take_nil, List.nil_append, Nat.reduceBEq, Nat.reduceMul, Nat.reduceLeDiff, eq_self, and_self, true_and, and_true, decide_true, decide_false, Bool.and_self, Bool.or_self, Bool.and_true, Bool.true_and, Bool.and_false, Bool.false_and, Bool.or_true, Bool.true_or, Bool.or_false, Bool.false_or, Bool.not_true, Bool.not_false, cond_true, cond_false]
    exact g0.trans g
theorem loop0 (p P : Nat) (cs : List Int) (f : Nat) (W : tr.Ways p cs) (hP : P < 2 ^ (p + 1)) (hP0 : wo.off.sp P 0 = false) (hf : p + 1 < f) : ∀ (d t n : Nat), t + d = wo.cnt.sv P - 1 → d < n → t + 1 ≤ wo.cnt.sv P →
    L0 f n (mkS 81 [(1, .ro (.ints .i64 cs) cs.length 1), (7, .int .i64 ((p + 1 : Nat) : Int)), (8, .own 0 0 (p + 1) 0 1), (9, .int .i64 ((P : Nat) : Int)), (10, .int .i64 (((tr.jn.sv cs (p + 1) P t).1 : Nat) : Int))] [⟨.typ (.ints .i64 (tr.jn.sv cs (p + 1) P t).2), 0⟩]) = some (.own 0 0 (p + 1) 0 1, [⟨.typ (.ints .i64 (tr.jn.sv cs (p + 1) P (wo.cnt.sv P - 1)).2), 0⟩]) := by
  have w1 := W.p1
  have w5 := W.p5
  have wl := W.len
  have qq : (p + 1) * (p + 1) ≤ 36 := Nat.mul_le_mul (show p + 1 ≤ 6 by omega) (show p + 1 ≤ 6 by omega)
  have h64 : 2 ^ (p + 1) ≤ 64 := wo.pow_le (by have := W.p5; omega)
  intro d
  induction d with
  | zero =>
    intro t n hk hn ht
    obtain ⟨n, rfl⟩ : ∃ k, n = k + 1 := ⟨n - 1, by omega⟩
    obtain rfl : t = wo.cnt.sv P - 1 := by omega
    have he := (tr.jn_end W.c ⟨by omega, by omega⟩ hP hP0 ht).2 (by omega)
    rw [round0]
    simp -implicitDefEqProofs (disch := omega) only [he, take_one, set_one, decide_eq_true, decide_eq_false, IntWalk.i64_in, beqT, beqF, bneT, bneF, nat_succ, ← Int.natCast_mul, ← Int.natCast_add, Int.toNat_natCast, Int.zero_mul, Int.zero_add, Int.add_zero, Nat.zero_add, Nat.add_zero, Nat.zero_mul, List.length_singleton, List.length_append, List.length_nil, List.length_cons, List.take_length, List.drop_zero, List.replicate_zero, List.take_nil, List.nil_append, Nat.reduceBEq, Nat.reduceMul, Nat.reduceLeDiff, eq_self, and_self, true_and, and_true, decide_true, decide_false, Bool.and_self, Bool.or_self, Bool.and_true, Bool.true_and, Bool.and_false, Bool.false_and, Bool.or_true, Bool.true_or, Bool.or_false, Bool.false_or, Bool.not_true, Bool.not_false, cond_true, cond_false]
  | succ d ih =>
    intro t n hk hn ht
    obtain ⟨n, rfl⟩ : ∃ k, n = k + 1 := ⟨n - 1, by omega⟩
    have g := ih (t + 1) n (by omega) (by omega) (by omega)
    have ha := tr.jn_at W.c (n := p + 1) ⟨by omega, by omega⟩ hP hP0 t (by omega)
    have hb := tr.jn_at W.c (n := p + 1) ⟨by omega, by omega⟩ hP hP0 (t + 1) (by omega)
    have hne : (tr.jn.sv cs (p + 1) P t).1 ≠ P := fun e => by
      have := (tr.jn_end W.c (n := p + 1) ⟨by omega, by omega⟩ hP hP0 ht).1 e
      omega
    have hJ := ha.lt
    have hlt := hb.lt
    obtain ⟨_, q, q1, q2, q3⟩ := tr.sub_lt (tr.jn.sv cs (p + 1) P t).1 (by omega) P (by omega) ha.sub hne
    have hq : q < p + 1 := by
      rcases Nat.lt_or_ge q (p + 1) with h | h
      · exact h
      · rw [tr.off_high (p + 1) (by omega) P hP q q1 h] at q3; cases q3
    obtain ⟨c, c1, c2, _⟩ := tr.choice (n := p + 1) W.c ha.zero q2 q3 hq
    have g0 := loop2 p P (tr.jn.sv cs (p + 1) P t).1 cs (tr.jn.sv cs (p + 1) P t).2 f n c W hP hJ ha.len hf c1 c2 (p + 1) 0 f (by omega) (by omega)
    have e : tr.jn.sv cs (p + 1) P (t + 1) = (wo.up.sv (tr.jn.sv cs (p + 1) P t).1 c, (tr.jn.sv cs (p + 1) P t).2.set c (tr.out.sv cs (p + 1) (tr.jn.sv cs (p + 1) P t).1 P (p + 1)).2) := by rw [tr.jn.sv, c1, Int.toNat_natCast]
    rw [e] at g
    rw [round0]
    simp -implicitDefEqProofs (disch := omega) only [take_one, set_one, decide_eq_true, decide_eq_false, IntWalk.i64_in, beqT, beqF, bneT, bneF, nat_succ, ← Int.natCast_mul, ← Int.natCast_add, Int.toNat_natCast, Int.zero_mul, Int.zero_add, Int.add_zero, Nat.zero_add, Nat.add_zero, Nat.zero_mul, List.length_singleton, List.length_append, List.length_nil, List.length_cons, List.take_length, List.drop_zero, List.replicate_zero, List.take_nil, List.nil_append, Nat.reduceBEq, Nat.reduceMul, Nat.reduceLeDiff, eq_self, and_self, true_and, and_true, decide_true, decide_false, Bool.and_self, Bool.or_self, Bool.and_true, Bool.true_and, Bool.and_false, Bool.false_and, Bool.or_true, Bool.true_or, Bool.or_false, Bool.false_or, Bool.not_true, Bool.not_false, cond_true, cond_false]
    exact g0.trans g
theorem run : ∀ args v new, R args = some (true, v, new) → ∃ fuel, runFn Try.prog (orc []) hd Dr.std none fuel (bodyOf Try.f109) 81 [6] args [] = some (v, new) := by
  intro args v new h
  unfold R at h
  split at h
  · rename_i p cs m s
    simp only [Option.some.injEq, Prod.mk.injEq, Bool.and_eq_true, decide_eq_true_eq] at h
    obtain ⟨⟨⟨rfl, h2, h3⟩, hs⟩, rfl, rfl⟩ := h
    have hs2 := hs
    obtain ⟨p, rfl, W⟩ := tr.valid hs2
    have w1 := W.p1
    have w5 := W.p5
    have wl := W.len
    obtain ⟨s, rfl⟩ : ∃ q : Nat, s = q := ⟨s.toNat, by omega⟩
    rw [Int.toNat_natCast, Int.toNat_natCast] at h3
    have h3' : s < 2 ^ p := h3
    have h32 : 2 ^ p ≤ 32 := Nat.pow_le_pow_right (by decide) w5
    have s1 := tr.odd_ior s (by omega)
    have hcl := wo.cnt_le (2 * s + 1)
    have hc := tr.cnt_odd s (by omega)
    have g := loop0 p (2 * s + 1) cs 100 W (tr.odd_lt h3') (tr.off_odd s (by omega)) (by omega) (wo.cnt.sv (2 * s + 1) - 1) 0 100 (by omega) (by omega) (by omega)
    have e : wo.cnt.sv (2 * s + 1) - 1 = wo.cnt.sv s := by omega
    rw [e] at g
    obtain ⟨F, hF⟩ : ∃ F : Nat, F = 100 := ⟨100, rfl⟩
    rw [← hF] at g
    refine ⟨F, ?_⟩
    rw [start]
    simp -implicitDefEqProofs (disch := omega) only [s1, take_one, set_one, decide_eq_true, decide_eq_false, IntWalk.i64_in, beqT, beqF, bneT, bneF, nat_succ, ← Int.natCast_mul, ← Int.natCast_add, Int.toNat_natCast, Int.zero_mul, Int.zero_add, Int.add_zero, Nat.zero_add, Nat.add_zero, Nat.zero_mul, List.length_singleton, List.length_append, List.length_nil, List.length_cons, List.take_length, List.drop_zero, List.replicate_zero, List.take_nil, List.nil_append, Nat.reduceBEq, Nat.reduceMul, Nat.reduceLeDiff, eq_self, and_self, true_and, and_true, decide_true, decide_false, Bool.and_self, Bool.or_self, Bool.and_true, Bool.true_and, Bool.and_false, Bool.false_and, Bool.or_true, Bool.true_or, Bool.or_false, Bool.false_or, Bool.not_true, Bool.not_false, cond_true, cond_false]
    exact g
  · cases h
theorem ok : EntOk Try.prog ⟨109, R⟩ :=
  ent_okA mixed (A := (orc [])) (orc_ok (by simp)) Try.func109 (by kernel_rfl) (by kernel_rfl) (n := 81) (ts := [6]) (hd := hd) (dr := Dr.std) (cut := none) (by kernel_rfl) (by kernel_rfl) (by kernel_rfl) run
end join

end Go.Proofs.Ytadcpdjcadnepaa.Ab
