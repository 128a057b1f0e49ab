/-
  Functions: walks through all sets without a player.
-/
import Derived.Test.YtekadpddilfolaaFnWB
namespace Go.Proofs.Ytekadpddilfolaa.Ab
open Go
set_option linter.unusedVariables false
set_option linter.unusedSimpArgs false
set_option maxRecDepth 100000

namespace outShares
def R : List AVal → Heap → Option (Bool × AVal × Heap)
  | [.agg [.int .i64 p2, .ro (.ints .i64 ws2) m2 1], .int .i64 i2, .fn ff [.ptr 0 0 0, .ptr 2 0 0, .ptr 3 0 0]], [⟨.cells [.own 1 0 q 0 1], 0⟩, ⟨.typ (.ints .i64 os), 0⟩, ⟨.cells [.int .i64 i], 0⟩, ⟨.cells [.int .i64 p, .ro (.ints .i64 ws) m 1], 0⟩] => some (decide (m = ws.length ∧ m2 = m ∧ p2 = p ∧ ws2 = ws ∧ i2 = i ∧ ff = 68 ∧ 0 ≤ i ∧ i < p ∧ q = os.length ∧ q ≤ 10 ∧ i < (q : Int) ∧ gz os i.toNat = 0) && wo.sp p ws, .tup [], [⟨.cells [.own 1 0 q 0 1], 0⟩, ⟨.typ (.ints .i64 (os.set i.toNat (wo.sh.sv p.toNat ws i.toNat ws.length))), 0⟩, ⟨.cells [.int .i64 i], 0⟩, ⟨.cells [.int .i64 p, .ro (.ints .i64 ws) m 1], 0⟩])
  | _, _ => none
def hd : Nat → Head := fun _ => ⟨[1, 2, 9, 10], some 0⟩
noncomputable def L (f n : Nat) (s : State) := loopAt Try.prog (orcW [⟨68, cloShares.R⟩] []) hd Dr.std 4 f (bodyOf Try.f67) 0 [true, true] (retK Try.prog [] 4 (some 0)) n s
theorem start (p i : Int) (ws : List Int) (os : List Int) (q : Nat) (f : Nat) :
  runFn Try.prog (orcW [⟨68, cloShares.R⟩] []) hd Dr.std (some 0) f (bodyOf Try.f67) 22 [] [.agg [.int .i64 p, .ro (.ints .i64 ws) ws.length 1], .int .i64 i, .fn 68 [.ptr 0 0 0, .ptr 2 0 0, .ptr 3 0 0]] [⟨.cells [.own 1 0 q 0 1], 0⟩, ⟨.typ (.ints .i64 os), 0⟩, ⟨.cells [.int .i64 i], 0⟩, ⟨.cells [.int .i64 p, .ro (.ints .i64 ws) ws.length 1], 0⟩]
  = (bif true && (true && (true && (true && true))) then bif true && true then L f f (mkS (22 : Nat) [((1 : Nat), AVal.int IntKind.i64 i), ((2 : Nat), AVal.fn (68 : Nat) [AVal.ptr (0 : Nat) (0 : Nat) (0 : Nat), AVal.ptr (2 : Nat) (0 : Nat) (0 : Nat), AVal.ptr (3 : Nat) (0 : Nat) (0 : Nat)]), ((9 : Nat), AVal.int IntKind.i64 (↑ws.length : Int)), ((10 : Nat), AVal.int IntKind.i64 (0 : Int))] [{ c := BC.cells [AVal.own (1 : Nat) (0 : Nat) q (0 : Nat) (1 : Nat)], ver := (0 : Nat) }, { c := BC.typ (Cont.ints IntKind.i64 os), ver := (0 : Nat) }, { c := BC.cells [AVal.int IntKind.i64 i], ver := (0 : Nat) }, { c := BC.cells [AVal.int IntKind.i64 p, AVal.ro (Cont.ints IntKind.i64 ws) ws.length (1 : Nat)], ver := (0 : Nat) }]) else none else none) := by kernel_rfl
theorem round (p i l k : Int) (ws : List Int) (os : List Int) (q : Nat) (f n : Nat) :
  L f (n + 1) (mkS 22 [(1, .int .i64 i), (2, .fn 68 [.ptr 0 0 0, .ptr 2 0 0, .ptr 3 0 0]), (9, .int .i64 l), (10, .int .i64 k)] [⟨.cells [.own 1 0 q 0 1], 0⟩, ⟨.typ (.ints .i64 os), 0⟩, ⟨.cells [.int .i64 i], 0⟩, ⟨.cells [.int .i64 p, .ro (.ints .i64 ws) ws.length 1], 0⟩])
  = (bif decide (k < l) then bif decide ((0 : Int) ≤ i) then bif iand.sv IntKind.i64 (ishr.sv IntKind.i64 k i) (1 : Int) == (0 : Int) then bif decide (ws.length = ws.length ∧ (0 : Int) ≤ k ∧ k < (↑ws.length : Int) ∧ (0 : Int) ≤ i ∧ i < p ∧ q = os.length ∧ q ≤ (10 : Nat) ∧ i < (↑q : Int) ∧ (-1000000000000000 : Int) ≤ gz os i.toNat ∧ gz os i.toNat ≤ (1000000000000000 : Int)) && (wo.off.sp k.toNat i.toNat && wo.sp p ws) && (true && (true && (true && (true && (true && true))))) then L f n (mkS (22 : Nat) [((1 : Nat), AVal.int IntKind.i64 i), ((2 : Nat), AVal.fn (68 : Nat) [AVal.ptr (0 : Nat) (0 : Nat) (0 : Nat), AVal.ptr (2 : Nat) (0 : Nat) (0 : Nat), AVal.ptr (3 : Nat) (0 : Nat) (0 : Nat)]), ((9 : Nat), AVal.int IntKind.i64 l), ((10 : Nat), AVal.int IntKind.i64 (IntKind.i64.wrap (k + (1 : Int))))] [{ c := BC.cells [AVal.own (1 : Nat) (0 : Nat) q (0 : Nat) (1 : Nat)], ver := (0 : Nat) }, { c := BC.typ (Cont.ints IntKind.i64 (os.set i.toNat (gz os i.toNat + wo.fac.sv (wo.cnt.sv k.toNat) * wo.fac.sv (p.toNat - (1 : Nat) - wo.cnt.sv k.toNat) * wo.mo.sv ws k.toNat i.toNat))), ver := (0 : Nat) }, { c := BC.cells [AVal.int IntKind.i64 i], ver := (0 : Nat) }, { c := BC.cells [AVal.int IntKind.i64 p, AVal.ro (Cont.ints IntKind.i64 ws) ws.length (1 : Nat)], ver := (0 : Nat) }]) else none else L f n (mkS (22 : Nat) [((1 : Nat), AVal.int IntKind.i64 i), ((2 : Nat), AVal.fn (68 : Nat) [AVal.ptr (0 : Nat) (0 : Nat) (0 : Nat), AVal.ptr (2 : Nat) (0 : Nat) (0 : Nat), AVal.ptr (3 : Nat) (0 : Nat) (0 : Nat)]), ((9 : Nat), AVal.int IntKind.i64 l), ((10 : Nat), AVal.int IntKind.i64 (IntKind.i64.wrap (k + (1 : Int))))] [{ c := BC.cells [AVal.own (1 : Nat) (0 : Nat) q (0 : Nat) (1 : Nat)], ver := (0 : Nat) }, { c := BC.typ (Cont.ints IntKind.i64 os), ver := (0 : Nat) }, { c := BC.cells [AVal.int IntKind.i64 i], ver := (0 : Nat) }, { c := BC.cells [AVal.int IntKind.i64 p, AVal.ro (Cont.ints IntKind.i64 ws) ws.length (1 : Nat)], ver := (0 : Nat) }]) else none else some (AVal.tup [], [{ c := BC.cells [AVal.own (1 : Nat) (0 : Nat) q (0 : Nat) (1 : Nat)], ver := (0 : Nat) }, { c := BC.typ (Cont.ints IntKind.i64 os), ver := (0 : Nat) }, { c := BC.cells [AVal.int IntKind.i64 i], ver := (0 : Nat) }, { c := BC.cells [AVal.int IntKind.i64 p, AVal.ro (Cont.ints IntKind.i64 ws) ws.length (1 : Nat)], ver := (0 : Nat) }])) := by kernel_rfl
theorem loop (p i : Nat) (ws : List Int) (os : List Int) (q : Nat) (f : Nat) (hs : wo.sp p ws = true) (hp : 1 ≤ p ∧ p ≤ 6) (hw : ws.length = 2 ^ p) (h0 : gz ws 0 = 0) (v : ∀ x ∈ ws, -10000 ≤ x ∧ x ≤ 10000) (hi : i < p) (hq : q = os.length) (hq2 : q ≤ 10) (hiq : i < q) : ∀ (d k n : Nat), k + d = ws.length → d < n →
    L f n (mkS 22 [(1, .int .i64 (i : Int)), (2, .fn 68 [.ptr 0 0 0, .ptr 2 0 0, .ptr 3 0 0]), (9, .int .i64 (ws.length : Int)), (10, .int .i64 (k : Int))] [⟨.cells [.own 1 0 q 0 1], 0⟩, ⟨.typ (.ints .i64 (os.set i (wo.sh.sv p ws i k))), 0⟩, ⟨.cells [.int .i64 ((i : Nat) : Int)], 0⟩, ⟨.cells [.int .i64 ((p : Nat) : Int), .ro (.ints .i64 ws) ws.length 1], 0⟩]) = some (.tup [], [⟨.cells [.own 1 0 q 0 1], 0⟩, ⟨.typ (.ints .i64 (os.set i (wo.sh.sv p ws i ws.length))), 0⟩, ⟨.cells [.int .i64 ((i : Nat) : Int)], 0⟩, ⟨.cells [.int .i64 ((p : Nat) : Int), .ro (.ints .i64 ws) ws.length 1], 0⟩]) := by
  have h64 := wo.pow_le hp.2
  intro d
  induction d with
  | zero =>
    intro k n hk hn
    obtain ⟨n, rfl⟩ : ∃ k, n = k + 1 := ⟨n - 1, by omega⟩
    obtain rfl : k = ws.length := by omega
    rw [round]
    simp -implicitDefEqProofs (disch := omega) only [take_one, set_one, decide_eq_true, decide_eq_false, IntWalk.i64_in, beqT, beqF, bneT, bneF, nat_succ, ← Int.natCast_mul, ← Int.natCast_add, Int.toNat_natCast, Int.zero_mul, Int.zero_add, Int.add_zero, Nat.zero_add, Nat.add_zero, Nat.zero_mul, List.length_singleton, List.length_append, List.length_nil, List.length_cons, List.take_length, List.drop_zero, List.replicate_zero, List.take_nil, List.nil_append, Nat.reduceBEq, Nat.reduceMul, Nat.reduceLeDiff, eq_self, and_self, true_and, and_true, decide_true, decide_false, Bool.and_self, Bool.or_self, Bool.and_true, Bool.true_and, Bool.and_false, Bool.false_and, Bool.or_true, Bool.true_or, Bool.or_false, Bool.false_or, Bool.not_true, Bool.not_false, cond_true, cond_false]
  | succ d ih =>
    intro k n hk hn
    obtain ⟨n, rfl⟩ : ∃ k, n = k + 1 := ⟨n - 1, by omega⟩
    have g := ih (k + 1) n (by omega) (by omega)
    have s1 := wo.shr_and k (by omega) i (by omega)
    have b1 := wo.sh_in v (p := p) hp.2 i k
    have b2 := wo.term_in v (p := p) (k := k) (i := i) hp.2
    have e1 : gz (os.set i (wo.sh.sv p ws i k)) i = wo.sh.sv p ws i k := by rw [gz_set (by omega), if_pos rfl]
    have e2 : (os.set i (wo.sh.sv p ws i k)).length = os.length := List.length_set
    rw [round]
    cases hb : wo.off.sp k i
    · rw [hb, cond_false] at s1
      simp only [wo.sh.sv, hb, cond_false] at g
      simp -implicitDefEqProofs (disch := omega) only [s1, take_one, set_one, decide_eq_true, decide_eq_false, IntWalk.i64_in, beqT, beqF, bneT, bneF, nat_succ, ← Int.natCast_mul, ← Int.natCast_add, Int.toNat_natCast, Int.zero_mul, Int.zero_add, Int.add_zero, Nat.zero_add, Nat.add_zero, Nat.zero_mul, List.length_singleton, List.length_append, List.length_nil, List.length_cons, List.take_length, List.drop_zero, List.replicate_zero, List.take_nil, List.nil_append, Nat.reduceBEq, Nat.reduceMul, Nat.reduceLeDiff, eq_self, and_self, true_and, and_true, decide_true, decide_false, Bool.and_self, Bool.or_self, Bool.and_true, Bool.true_and, Bool.and_false, Bool.false_and, Bool.or_true, Bool.true_or, Bool.or_false, Bool.false_or, Bool.not_true, Bool.not_false, cond_true, cond_false]
      exact g
    · rw [hb, cond_true] at s1
      simp only [wo.sh.sv, hb, cond_true] at g
      simp -implicitDefEqProofs (disch := omega) only [s1, hs, hb, e1, e2, List.set_set, take_one, set_one, decide_eq_true, decide_eq_false, IntWalk.i64_in, beqT, beqF, bneT, bneF, nat_succ, ← Int.natCast_mul, ← Int.natCast_add, Int.toNat_natCast, Int.zero_mul, Int.zero_add, Int.add_zero, Nat.zero_add, Nat.add_zero, Nat.zero_mul, List.length_singleton, List.length_append, List.length_nil, List.length_cons, List.take_length, List.drop_zero, List.replicate_zero, List.take_nil, List.nil_append, Nat.reduceBEq, Nat.reduceMul, Nat.reduceLeDiff, eq_self, and_self, true_and, and_true, decide_true, decide_false, Bool.and_self, Bool.or_self, Bool.and_true, Bool.true_and, Bool.and_false, Bool.false_and, Bool.or_true, Bool.true_or, Bool.or_false, Bool.false_or, Bool.not_true, Bool.not_false, cond_true, cond_false]
      exact g
theorem run : ∀ args H v new, R args H = some (true, v, new) → ∃ fuel, runFn Try.prog (orcW [⟨68, cloShares.R⟩] []) hd Dr.std (some 0) fuel (bodyOf Try.f67) 22 [] args H = some (v, new) := by
  intro args H v new h
  unfold R at h
  split at h
  · rename_i p2 ws2 m2 i2 ff q os i p ws m
    simp only [Option.some.injEq, Prod.mk.injEq, Bool.and_eq_true, decide_eq_true_eq] at h
    obtain ⟨⟨⟨rfl, rfl, rfl, rfl, rfl, rfl, h1, h2, rfl, h4, h5, h6⟩, hs⟩, rfl, rfl⟩ := h
    have hs2 := hs
    obtain ⟨p, rfl, hp, hw, h0, v⟩ := wo.valid hs2
    have h64 := wo.pow_le hp.2
    obtain ⟨i, rfl⟩ : ∃ q : Nat, i2 = q := ⟨i2.toNat, by omega⟩
    obtain ⟨F, hF⟩ : ∃ F : Nat, F = 100 := ⟨100, rfl⟩
    refine ⟨F, ?_⟩
    have g := loop p i ws2 os os.length F hs hp hw h0 v (by omega) rfl h4 (by omega) ws2.length 0 F (by omega) (by omega)
    rw [Int.toNat_natCast] at h6
    simp only [wo.sh.sv, wo.set_zero h6] at g
    rw [start]
    simp -implicitDefEqProofs (disch := omega) only [take_one, set_one, decide_eq_true, decide_eq_false, IntWalk.i64_in, beqT, beqF, bneT, bneF, nat_succ, ← Int.natCast_mul, ← Int.natCast_add, Int.toNat_natCast, Int.zero_mul, Int.zero_add, Int.add_zero, Nat.zero_add, Nat.add_zero, Nat.zero_mul, List.length_singleton, List.length_append, List.length_nil, List.length_cons, List.take_length, List.drop_zero, List.replicate_zero, List.take_nil, List.nil_append, Nat.reduceBEq, Nat.reduceMul, Nat.reduceLeDiff, eq_self, and_self, true_and, and_true, decide_true, decide_false, Bool.and_self, Bool.or_self, Bool.and_true, Bool.true_and, Bool.and_false, Bool.false_and, Bool.or_true, Bool.true_or, Bool.or_false, Bool.false_or, Bool.not_true, Bool.not_false, cond_true, cond_false]
    exact g
  · cases h
theorem ok : EntWOk Try.prog ⟨67, R⟩ :=
  entw_ok mixed (A := (orcW [⟨68, cloShares.R⟩] [])) (orcW_ok (by simp only [List.mem_cons, List.not_mem_nil, or_false, forall_eq_or_imp, forall_eq]; exact cloShares.ok) (by simp)) Try.func67 (by kernel_rfl) (by kernel_rfl) (n := 22) (ts := []) (hd := hd) (dr := Dr.std) (cut := (some 0)) (by kernel_rfl) (by kernel_rfl) (by kernel_rfl) run
end outShares




end Go.Proofs.Ytekadpddilfolaa.Ab
