/-
  Functions: shares of all orders.
-/
import Derived.Test.YtekadpddilfolaaFnWC
namespace Go.Proofs.Ytekadpddilfolaa.Ab
open Go
set_option linter.unusedVariables false
set_option linter.unusedSimpArgs false
set_option maxRecDepth 100000

namespace wo
/-- Shares of the first i, and noughts. -/
def shl.sv (p : Nat) (ws : List Int) : Nat → List Int
  | 0 => List.replicate p 0
  | i + 1 => (shl.sv p ws i).set i (sh.sv p ws i ws.length)
theorem shl.sv_length (p : Nat) (ws : List Int) : ∀ i, (shl.sv p ws i).length = p
  | 0 => List.length_replicate
  | i + 1 => by rw [shl.sv, List.length_set, shl.sv_length p ws i]
theorem shl_get (p : Nat) (ws : List Int) : ∀ i j, i ≤ p → gz (shl.sv p ws i) j = if j < i then sh.sv p ws j ws.length else 0
  | 0, j, h => by
    rw [if_neg (by omega), shl.sv]
    by_cases hj : j < p
    · rw [gz_eq (by simpa using hj), List.getElem_replicate]
    · rw [gz_out (by simpa using hj)]
  | i + 1, j, h => by
    rw [shl.sv, gz_set (by rw [shl.sv_length]; omega), shl_get p ws i j (by omega)]
    by_cases e : i = j
    · subst e; rw [if_pos rfl, if_pos (by omega)]
    · rw [if_neg e]
      by_cases e2 : j < i
      · rw [if_pos e2, if_pos (by omega)]
      · rw [if_neg e2, if_neg (by omega)]
theorem shl.sv_zero (p : Nat) (ws : List Int) (i : Nat) (h : i ≤ p) : gz (shl.sv p ws i) i = 0 := by rw [shl_get p ws i i h, if_neg (by omega)]
def swl.sv (p : Nat) (ws : List Int) : Nat → List Int
  | 0 => List.replicate p 0
  | i + 1 => (swl.sv p ws i).set i (sw.sv ws i ws.length)
theorem swl.sv_length (p : Nat) (ws : List Int) : ∀ i, (swl.sv p ws i).length = p
  | 0 => List.length_replicate
  | i + 1 => by rw [swl.sv, List.length_set, swl.sv_length p ws i]
theorem swl_get (p : Nat) (ws : List Int) : ∀ i j, i ≤ p → gz (swl.sv p ws i) j = if j < i then sw.sv ws j ws.length else 0
  | 0, j, h => by
    rw [if_neg (by omega), swl.sv]
    by_cases hj : j < p
    · rw [gz_eq (by simpa using hj), List.getElem_replicate]
    · rw [gz_out (by simpa using hj)]
  | i + 1, j, h => by
    rw [swl.sv, gz_set (by rw [swl.sv_length]; omega), swl_get p ws i j (by omega)]
    by_cases e : i = j
    · subst e; rw [if_pos rfl, if_pos (by omega)]
    · rw [if_neg e]
      by_cases e2 : j < i
      · rw [if_pos e2, if_pos (by omega)]
      · rw [if_neg e2, if_neg (by omega)]
theorem swl.sv_zero (p : Nat) (ws : List Int) (i : Nat) (h : i ≤ p) : gz (swl.sv p ws i) i = 0 := by rw [swl_get p ws i i h, if_neg (by omega)]
end wo

namespace iSharesOf
def R : List AVal → Option (Bool × AVal × List Blk)
  | [.agg [.int .i64 p, .ro (.ints .i64 ws) m 1]] => some (decide (m = ws.length) && wo.sp p ws, .tup [.ro (.ints .i64 (wo.shl.sv p.toNat ws p.toNat)) p.toNat 1, .int .i64 (wo.fac.sv p.toNat), .bool true], [])
  | _ => none
def hd : Nat → Head := fun _ => ⟨[1, 5, 14, 15], some 3⟩
noncomputable def L (f n : Nat) (s : State) := loopAt Try.prog (orcW [⟨67, outShares.R⟩] [⟨62, iValidWorths.R⟩, ⟨70, factorial.R⟩]) hd Dr.std 0 f (bodyOf Try.f19) 0 [true, true, true, false, true] (retK Try.prog [2, 3, 4] 0 (some 0)) n s
theorem start (p : Nat) (ws : List Int) (f : Nat) :
  runFn Try.prog (orcW [⟨67, outShares.R⟩] [⟨62, iValidWorths.R⟩, ⟨70, factorial.R⟩]) hd Dr.std (some 0) f (bodyOf Try.f19) 27 [2, 3, 4] [.agg [.int .i64 p, .ro (.ints .i64 ws) ws.length 1]] []
  = (bif true && true && (true && true && true) then bif decide (ws.length = ws.length) && wo.sp (↑p : Int) ws && (true && (true && true) && true || true && true) then bif true && true then bif (1 : Nat) == (1 : Nat) && ((↑p : Int) == (↑p : Int) && (decide ((0 : Int) ≤ (↑p : Int)) && (decide ((↑p : Int) * (8 : Int) ≤ (140737488355328 : Int)) && decide ((↑p : Int) ≤ (4611686018427387904 : Int))))) then bif true && true then L f f (mkS (27 : Nat) [((1 : Nat), AVal.ptr (0 : Nat) (0 : Nat) (0 : Nat)), ((5 : Nat), AVal.ptr ((1 : Nat) + (1 : Nat)) (0 : Nat) (0 : Nat)), ((14 : Nat), AVal.int IntKind.i64 (↑p : Int)), ((15 : Nat), AVal.int IntKind.i64 (0 : Int))] [{ c := BC.cells [AVal.int IntKind.i64 (↑p : Int), AVal.ro (Cont.ints IntKind.i64 ws) ws.length (1 : Nat)], ver := (0 : Nat) }, { c := BC.typ (Cont.ints IntKind.i64 (List.replicate (↑p : Int).toNat (0 : Int))), ver := (0 : Nat) }, { c := BC.cells [AVal.own (1 : Nat) (0 : Nat) (↑p : Int).toNat (0 : Nat) (1 : Nat)], ver := (0 : Nat) }]) else none else none else none else none else none) := by kernel_rfl
theorem round (p i : Nat) (ws os : List Int) (q f n : Nat) :
  L f (n + 1) (mkS 27 [(1, .ptr 0 0 0), (5, .ptr 2 0 0), (14, .int .i64 p), (15, .int .i64 i)] [⟨.cells [.int .i64 p, .ro (.ints .i64 ws) ws.length 1], 0⟩, ⟨.typ (.ints .i64 os), 0⟩, ⟨.cells [.own 1 0 q 0 1], 0⟩])
  = (bif decide ((↑i : Int) < (↑p : Int)) then bif true && true && (true && true && true) then bif true && true then bif decide (ws.length = ws.length ∧ ws.length = ws.length ∧ (↑p : Int) = (↑p : Int) ∧ ws = ws ∧ (↑i : Int) = (↑i : Int) ∧ (68 : Nat) = (68 : FuncId) ∧ (0 : Int) ≤ (↑i : Int) ∧ (↑i : Int) < (↑p : Int) ∧ q = os.length ∧ q ≤ (10 : Nat) ∧ (↑i : Int) < (↑q : Int) ∧ gz os (↑i : Int).toNat = (0 : Int)) && wo.sp (↑p : Int) ws && (true && (true && (true && true)) && (true && (true && (true && (true && true))))) then L f n (mkS (27 : Nat) [((1 : Nat), AVal.ptr (0 : Nat) (0 : Nat) (0 : Nat)), ((5 : Nat), AVal.ptr (2 : Nat) (0 : Nat) (0 : Nat)), ((14 : Nat), AVal.int IntKind.i64 (↑p : Int)), ((15 : Nat), AVal.int IntKind.i64 (IntKind.i64.wrap ((↑i : Int) + (1 : Int))))] [{ c := BC.cells [AVal.int IntKind.i64 (↑p : Int), AVal.ro (Cont.ints IntKind.i64 ws) ws.length (1 : Nat)], ver := (0 : Nat) }, { c := BC.typ (Cont.ints IntKind.i64 (os.set (↑i : Int).toNat (wo.sh.sv (↑p : Int).toNat ws (↑i : Int).toNat ws.length))), ver := (0 : Nat) }, { c := BC.cells [AVal.own (1 : Nat) (0 : Nat) q (0 : Nat) (1 : Nat)], ver := (0 : Nat) }]) else none else none else none else bif true && true then bif true && true then bif decide ((0 : Int) ≤ (↑p : Int) ∧ (↑p : Int) ≤ (6 : Int)) && (true && true || true && true) then some (AVal.tup [AVal.ro (Cont.ints IntKind.i64 os) q (1 : Nat), AVal.int IntKind.i64 (wo.fac.sv (↑p : Int).toNat), AVal.bool true], []) else none else none else none) := by kernel_rfl
theorem loop (p : Nat) (ws : List Int) (f : Nat) (hs : wo.sp p ws = true) (hp : 1 ≤ p ∧ p ≤ 6) (hw : ws.length = 2 ^ p) (h0 : gz ws 0 = 0) (v : ∀ x ∈ ws, -10000 ≤ x ∧ x ≤ 10000) : ∀ (d i n : Nat), i + d = p → d < n →
    L f n (mkS 27 [(1, .ptr 0 0 0), (5, .ptr 2 0 0), (14, .int .i64 p), (15, .int .i64 i)] [⟨.cells [.int .i64 p, .ro (.ints .i64 ws) ws.length 1], 0⟩, ⟨.typ (.ints .i64 (wo.shl.sv p ws i)), 0⟩, ⟨.cells [.own 1 0 p 0 1], 0⟩]) = some (.tup [.ro (.ints .i64 (wo.shl.sv p ws p)) p 1, .int .i64 (wo.fac.sv p), .bool true], []) := by
  intro d
  induction d with
  | zero =>
    intro i n hk hn
    obtain ⟨n, rfl⟩ : ∃ k, n = k + 1 := ⟨n - 1, by omega⟩
    obtain rfl : i = p := by omega
    rw [round]
    simp -implicitDefEqProofs (disch := omega) only [take_one, set_one, decide_eq_true, decide_eq_false, IntWalk.i64_in, beqT, beqF, bneT, bneF, nat_succ, ← Int.natCast_mul, ← Int.natCast_add, Int.toNat_natCast, Int.zero_mul, Int.zero_add, Int.add_zero, Nat.zero_add, Nat.add_zero, Nat.zero_mul, List.length_singleton, List.length_append, List.length_nil, List.length_cons, List.take_length, List.drop_zero, List.replicate_zero, List.take_nil, List.nil_append, Nat.reduceBEq, Nat.reduceMul, Nat.reduceLeDiff, eq_self, and_self, true_and, and_true, decide_true, decide_false, Bool.and_self, Bool.or_self, Bool.and_true, Bool.true_and, Bool.and_false, Bool.false_and, Bool.or_true, Bool.true_or, Bool.or_false, Bool.false_or, Bool.not_true, Bool.not_false, cond_true, cond_false]
  | succ d ih =>
    intro i n hk hn
    obtain ⟨n, rfl⟩ : ∃ k, n = k + 1 := ⟨n - 1, by omega⟩
    have g := ih (i + 1) n (by omega) (by omega)
    have hl := wo.shl.sv_length p ws i
    have hz := wo.shl.sv_zero p ws i (by omega)
    simp only [wo.shl.sv] at g
    rw [round]
    simp -implicitDefEqProofs (disch := omega) only [hs, hl, hz, take_one, set_one, decide_eq_true, decide_eq_false, IntWalk.i64_in, beqT, beqF, bneT, bneF, nat_succ, ← Int.natCast_mul, ← Int.natCast_add, Int.toNat_natCast, Int.zero_mul, Int.zero_add, Int.add_zero, Nat.zero_add, Nat.add_zero, Nat.zero_mul, List.length_singleton, List.length_append, List.length_nil, List.length_cons, List.take_length, List.drop_zero, List.replicate_zero, List.take_nil, List.nil_append, Nat.reduceBEq, Nat.reduceMul, Nat.reduceLeDiff, eq_self, and_self, true_and, and_true, decide_true, decide_false, Bool.and_self, Bool.or_self, Bool.and_true, Bool.true_and, Bool.and_false, Bool.false_and, Bool.or_true, Bool.true_or, Bool.or_false, Bool.false_or, Bool.not_true, Bool.not_false, cond_true, cond_false]
    exact g
theorem run : ∀ args v new, R args = some (true, v, new) → ∃ fuel, runFn Try.prog (orcW [⟨67, outShares.R⟩] [⟨62, iValidWorths.R⟩, ⟨70, factorial.R⟩]) hd Dr.std (some 0) fuel (bodyOf Try.f19) 27 [2, 3, 4] args [] = some (v, new) := by
  intro args v new h
  unfold R at h
  split at h
  · rename_i p ws m
    simp only [Option.some.injEq, Prod.mk.injEq, Bool.and_eq_true, decide_eq_true_eq] at h
    obtain ⟨⟨⟨rfl⟩, hs⟩, rfl, rfl⟩ := h
    have hs2 := hs
    obtain ⟨p, rfl, hp, hw, h0, v⟩ := wo.valid hs2
    have h64 := wo.pow_le hp.2
    have h1p := wo.pow_pos p
    obtain ⟨F, hF⟩ : ∃ F : Nat, F = 100 := ⟨100, rfl⟩
    refine ⟨F, ?_⟩
    have g := loop p ws F hs hp hw h0 v p 0 F (by omega) (by omega)
    rw [start]
    simp -implicitDefEqProofs (disch := omega) only [hs, take_one, set_one, decide_eq_true, decide_eq_false, IntWalk.i64_in, beqT, beqF, bneT, bneF, nat_succ, ← Int.natCast_mul, ← Int.natCast_add, Int.toNat_natCast, Int.zero_mul, Int.zero_add, Int.add_zero, Nat.zero_add, Nat.add_zero, Nat.zero_mul, List.length_singleton, List.length_append, List.length_nil, List.length_cons, List.take_length, List.drop_zero, List.replicate_zero, List.take_nil, List.nil_append, Nat.reduceBEq, Nat.reduceMul, Nat.reduceLeDiff, eq_self, and_self, true_and, and_true, decide_true, decide_false, Bool.and_self, Bool.or_self, Bool.and_true, Bool.true_and, Bool.and_false, Bool.false_and, Bool.or_true, Bool.true_or, Bool.or_false, Bool.false_or, Bool.not_true, Bool.not_false, cond_true, cond_false]
    exact g
  · cases h
theorem ok : EntOk Try.prog ⟨19, R⟩ :=
  ent_okA mixed (A := (orcW [⟨67, outShares.R⟩] [⟨62, iValidWorths.R⟩, ⟨70, factorial.R⟩])) (orcW_ok (by simp only [List.mem_cons, List.not_mem_nil, or_false, forall_eq_or_imp, forall_eq]; exact outShares.ok) (by simp only [List.mem_cons, List.not_mem_nil, or_false, forall_eq_or_imp, forall_eq]; exact ⟨iValidWorths.ok, factorial.ok⟩)) Try.func19 (by kernel_rfl) (by kernel_rfl) (n := 27) (ts := [2, 3, 4]) (hd := hd) (dr := Dr.std) (cut := (some 0)) (by kernel_rfl) (by kernel_rfl) (by kernel_rfl) run
end iSharesOf


end Go.Proofs.Ytekadpddilfolaa.Ab
