/-
  Functions: the reference on worths.
-/
import Derived.Test.YtadcpdjcadnepaaFnWE
namespace Go.Proofs.Ytadcpdjcadnepaa.Ab
open Go
set_option linter.unusedVariables false
set_option linter.unusedSimpArgs false
set_option maxRecDepth 100000

namespace wo
theorem nu.sp_mono (ws : List Int) (i : Nat) : ∀ (n k : Nat), k ≤ n → nu.sp ws i k = false → nu.sp ws i n = false
  | 0, k, h, e => by obtain rfl : k = 0 := by omega
                     exact e
  | n + 1, k, h, e => by
    by_cases hk : k = n + 1
    · subst hk; exact e
    · have := nu.sp_mono ws i n k (by omega) e
      simp only [nu.sp, this, Bool.false_and]
      cases off.sp n i <;> rfl
theorem al.sp_mono (ws : List Int) (i j : Nat) : ∀ (n k : Nat), k ≤ n → al.sp ws i j k = false → al.sp ws i j n = false
  | 0, k, h, e => by obtain rfl : k = 0 := by omega
                     exact e
  | n + 1, k, h, e => by
    by_cases hk : k = n + 1
    · subst hk; exact e
    · have := al.sp_mono ws i j n k (by omega) e
      simp only [al.sp, this, Bool.false_and]
      cases off.sp n i <;> cases off.sp n j <;> rfl
end wo

namespace l03Is
def R : List AVal → Option (Bool × AVal × List Blk)
  | [.rom [.int .i64 p, .ro (.ints .i64 ws) m 1] 0] => some (decide (m = ws.length) && wo.sp p ws, .bool true, [])
  | _ => none
def hd : Nat → Head := fun _ => ⟨[0, 2, 36, 37], none⟩
noncomputable def L (f n : Nat) (s : State) := loopAt Try.prog (orc [⟨79, l00In.R⟩]) hd Dr.std 0 f (bodyOf Try.f78) 0 [true, true, false, true] (retK Try.prog [2] 0 none) n s
theorem start (p : Int) (ws : List Int) (f : Nat) :
  runFn Try.prog (orc [⟨79, l00In.R⟩]) hd Dr.std none f (bodyOf Try.f78) 50 [2] [.rom [.int .i64 p, .ro (.ints .i64 ws) ws.length 1] 0] []
  = (bif true && (true && true || true && true) then bif !(decide ((1 : Int) ≤ p) && decide (p ≤ (6 : Int))) then some (AVal.bool false, []) else bif decide ((0 : Int) ≤ p) then bif (↑ws.length : Int) != ishl.sv IntKind.i64 (1 : Int) p then some (AVal.bool false, []) else bif decide ((0 : Int) < (↑ws.length : Int)) then bif decide ((0 : Nat) < ws.length) then bif gz ws (0 : Nat) != (0 : Int) then some (AVal.bool false, []) else L f f (mkS (50 : Nat) [((0 : Nat), AVal.rom [AVal.int IntKind.i64 p, AVal.ro (Cont.ints IntKind.i64 ws) ws.length (1 : Nat)] (0 : Nat)), ((2 : Nat), AVal.bool false), ((36 : Nat), AVal.int IntKind.i64 (↑ws.length : Int)), ((37 : Nat), AVal.int IntKind.i64 (0 : Int))] []) else none else none else none else none) := by kernel_rfl
theorem round (p l k : Int) (ws : List Int) (f n : Nat) :
  L f (n + 1) (mkS 50 [(0, .rom [.int .i64 p, .ro (.ints .i64 ws) ws.length 1] 0), (2, .bool false), (36, .int .i64 l), (37, .int .i64 k)] [])
  = (bif decide (k < l) then bif true && (decide ((0 : Int) ≤ k) && decide (k < (↑ws.length : Int))) then bif decide (k.toNat < ws.length) then bif true && (true && true || true && true) then bif !(decide ((-10000 : Int) ≤ gz ws k.toNat) && decide (gz ws k.toNat ≤ (10000 : Int))) then some (AVal.bool false, []) else L f n (mkS (50 : Nat) [((0 : Nat), AVal.rom [AVal.int IntKind.i64 p, AVal.ro (Cont.ints IntKind.i64 ws) ws.length (1 : Nat)] (0 : Nat)), ((2 : Nat), AVal.bool false), ((36 : Nat), AVal.int IntKind.i64 l), ((37 : Nat), AVal.int IntKind.i64 (IntKind.i64.wrap (k + (1 : Int))))] []) else none else none else none else some (AVal.bool true, [])) := by kernel_rfl
theorem loop (p : Nat) (ws : List Int) (f : Nat) (hp : 1 ≤ p ∧ p ≤ 6) (hw : ws.length = 2 ^ p) (h0 : gz ws 0 = 0) (v : ∀ x ∈ ws, -10000 ≤ x ∧ x ≤ 10000) : ∀ (d k n : Nat), k + d = ws.length → d < n →
    L f n (mkS 50 [(0, .rom [.int .i64 ((p : Nat) : Int), .ro (.ints .i64 ws) ws.length 1] 0), (2, .bool false), (36, .int .i64 ((ws.length : Nat) : Int)), (37, .int .i64 ((k : Nat) : Int))] []) = some (.bool true, []) := by
  have h64 := wo.pow_le hp.2
  intro d
  induction d with
  | zero =>
    intro k n hk hn
    obtain ⟨n, rfl⟩ : ∃ k, n = k + 1 := ⟨n - 1, by omega⟩
    obtain rfl : k = ws.length := by omega
    rw [round]
    simp -implicitDefEqProofs (disch := omega) only [take_one, set_one, decide_eq_true, decide_eq_false, IntWalk.i64_in, beqT, beqF, bneT, bneF, nat_succ, ← Int.natCast_mul, ← Int.natCast_add, Int.toNat_natCast, Int.zero_mul, Int.zero_add, Int.add_zero, Nat.zero_add, Nat.add_zero, Nat.zero_mul, List.length_singleton, List.length_append, List.length_nil, List.length_cons, List.take_length, List.drop_zero, List.replicate_zero, List.take_nil, List.nil_append, Nat.reduceBEq, Nat.reduceMul, Nat.reduceLeDiff, eq_self, and_self, true_and, and_true, decide_true, decide_false, Bool.and_self, Bool.or_self, Bool.and_true, Bool.true_and, Bool.and_false, Bool.false_and, Bool.or_true, Bool.true_or, Bool.or_false, Bool.false_or, Bool.not_true, Bool.not_false, cond_true, cond_false]
  | succ d ih =>
    intro k n hk hn
    obtain ⟨n, rfl⟩ : ∃ k, n = k + 1 := ⟨n - 1, by omega⟩
    have g := ih (k + 1) n (by omega) (by omega)
    have b1 := wo.gz_in v k
    rw [round]
    simp -implicitDefEqProofs (disch := omega) only [take_one, set_one, decide_eq_true, decide_eq_false, IntWalk.i64_in, beqT, beqF, bneT, bneF, nat_succ, ← Int.natCast_mul, ← Int.natCast_add, Int.toNat_natCast, Int.zero_mul, Int.zero_add, Int.add_zero, Nat.zero_add, Nat.add_zero, Nat.zero_mul, List.length_singleton, List.length_append, List.length_nil, List.length_cons, List.take_length, List.drop_zero, List.replicate_zero, List.take_nil, List.nil_append, Nat.reduceBEq, Nat.reduceMul, Nat.reduceLeDiff, eq_self, and_self, true_and, and_true, decide_true, decide_false, Bool.and_self, Bool.or_self, Bool.and_true, Bool.true_and, Bool.and_false, Bool.false_and, Bool.or_true, Bool.true_or, Bool.or_false, Bool.false_or, Bool.not_true, Bool.not_false, cond_true, cond_false]
    exact g
theorem run : ∀ args v new, R args = some (true, v, new) → ∃ fuel, runFn Try.prog (orc [⟨79, l00In.R⟩]) hd Dr.std none fuel (bodyOf Try.f78) 50 [2] args [] = some (v, new) := by
  intro args v new h
  unfold R at h
  split at h
  · rename_i p ws m
    simp only [Option.some.injEq, Prod.mk.injEq, Bool.and_eq_true, decide_eq_true_eq] at h
    obtain ⟨⟨⟨rfl⟩, hs⟩, rfl, rfl⟩ := h
    have hs2 := hs
    obtain ⟨p, rfl, hp, hw, h0, v⟩ := wo.valid hs2
    have h64 := wo.pow_le hp.2
    have h1p := wo.pow_pos p
    have s1 := wo.shl_one p (by omega)
    have e : ((ws.length : Nat) : Int) = ((2 ^ p : Nat) : Int) := by rw [hw]
    obtain ⟨F, hF⟩ : ∃ F : Nat, F = 100 := ⟨100, rfl⟩
    refine ⟨F, ?_⟩
    have g := loop p ws F hp hw h0 v ws.length 0 F (by omega) (by omega)
    rw [start]
    simp -implicitDefEqProofs (disch := omega) only [s1, h0, take_one, set_one, decide_eq_true, decide_eq_false, IntWalk.i64_in, beqT, beqF, bneT, bneF, nat_succ, ← Int.natCast_mul, ← Int.natCast_add, Int.toNat_natCast, Int.zero_mul, Int.zero_add, Int.add_zero, Nat.zero_add, Nat.add_zero, Nat.zero_mul, List.length_singleton, List.length_append, List.length_nil, List.length_cons, List.take_length, List.drop_zero, List.replicate_zero, List.take_nil, List.nil_append, Nat.reduceBEq, Nat.reduceMul, Nat.reduceLeDiff, eq_self, and_self, true_and, and_true, decide_true, decide_false, Bool.and_self, Bool.or_self, Bool.and_true, Bool.true_and, Bool.and_false, Bool.false_and, Bool.or_true, Bool.true_or, Bool.or_false, Bool.false_or, Bool.not_true, Bool.not_false, cond_true, cond_false]
    exact g
  · cases h
theorem ok : EntOk Try.prog ⟨78, R⟩ :=
  ent_okA mixed (A := (orc [⟨79, l00In.R⟩])) (orc_ok (by simp only [List.mem_cons, List.not_mem_nil, or_false, forall_eq_or_imp, forall_eq]; exact l00In.ok)) Try.func78 (by kernel_rfl) (by kernel_rfl) (n := 50) (ts := [2]) (hd := hd) (dr := Dr.std) (cut := none) (by kernel_rfl) (by kernel_rfl) (by kernel_rfl) run
end l03Is

namespace l03Give
def R : List AVal → Heap → Option (Bool × AVal × Heap)
  | [.agg [.int .i64 p, .own 0 0 q 0 1]], [⟨.typ (.ints .i64 ws), 0⟩] => some (decide (q = ws.length) && wo.sp p ws, .tup [.agg [.int .i64 p, .own 0 0 q 0 1], .bool true], [⟨.typ (.ints .i64 ws), 0⟩])
  | _, _ => none
def hd : Nat → Head := hd0
theorem go (p : Int) (ws : List Int) (q : Nat) :
  runFn Try.prog (orc [⟨78, l03Is.R⟩]) hd Dr.std (some 0) 0 (bodyOf Try.f80) 8 [.cell 2 41, 3] [.agg [.int .i64 p, .own 0 0 q 0 1]] [⟨.typ (.ints .i64 ws), 0⟩]
  = (bif true && true then bif decide (q = ws.length) && wo.sp p ws && (false && true || true && true) then bif true && true && (true && true && true) then bif true && true && (true && true && true) && true then some (AVal.tup [AVal.agg [AVal.int IntKind.i64 p, AVal.own (0 : Nat) (0 : Nat) q (0 : Nat) (1 : Nat)], AVal.bool true], [{ c := BC.typ (Cont.ints IntKind.i64 ws), ver := (0 : Nat) }]) else none else none else none else none) := by kernel_rfl
theorem run : ∀ args H v new, R args H = some (true, v, new) → ∃ fuel, runFn Try.prog (orc [⟨78, l03Is.R⟩]) hd Dr.std (some 0) fuel (bodyOf Try.f80) 8 [.cell 2 41, 3] args H = some (v, new) := by
  intro args H v new h
  unfold R at h
  split at h
  · rename_i p q ws
    simp only [Option.some.injEq, Prod.mk.injEq, Bool.and_eq_true, decide_eq_true_eq] at h
    obtain ⟨⟨rfl, hs⟩, rfl, rfl⟩ := h
    refine ⟨0, ?_⟩
    rw [go]
    simp -implicitDefEqProofs (disch := omega) only [hs, take_one, set_one, decide_eq_true, decide_eq_false, IntWalk.i64_in, beqT, beqF, bneT, bneF, nat_succ, ← Int.natCast_mul, ← Int.natCast_add, Int.toNat_natCast, Int.zero_mul, Int.zero_add, Int.add_zero, Nat.zero_add, Nat.add_zero, Nat.zero_mul, List.length_singleton, List.length_append, List.length_nil, List.length_cons, List.take_length, List.drop_zero, List.replicate_zero, List.take_nil, List.nil_append, Nat.reduceBEq, Nat.reduceMul, Nat.reduceLeDiff, eq_self, and_self, true_and, and_true, decide_true, decide_false, Bool.and_self, Bool.or_self, Bool.and_true, Bool.true_and, Bool.and_false, Bool.false_and, Bool.or_true, Bool.true_or, Bool.or_false, Bool.false_or, Bool.not_true, Bool.not_false, cond_true, cond_false]
  · cases h
theorem ok : EntWOk Try.prog ⟨80, R⟩ :=
  entw_ok mixed (A := (orc [⟨78, l03Is.R⟩])) (orc_ok (by simp only [List.mem_cons, List.not_mem_nil, or_false, forall_eq_or_imp, forall_eq]; exact l03Is.ok)) Try.func80 (by kernel_rfl) (by kernel_rfl) (n := 8) (ts := [.cell 2 41, 3]) (hd := hd) (dr := Dr.std) (cut := (some 0)) (by kernel_rfl) (by kernel_rfl) (by kernel_rfl) run
end l03Give

namespace sWeighWorths
def R : List AVal → Option (Bool × AVal × List Blk)
  | [.agg [.int .i64 p, .ro (.ints .i64 ws) m 1], .agg [.int .i64 p2, .ro (.ints .i64 vs) m2 1], .int .i64 x, .int .i64 y] => some (decide (m = ws.length ∧ m2 = vs.length ∧ p2 = p ∧ x = 1 ∧ y = 1) && (wo.sp p ws && (wo.sp p2 vs && wo.sp p (wo.add.sv ws vs ws.length))), .tup [.agg [.int .i64 p, .ro (.ints .i64 (wo.add.sv ws vs ws.length)) m 1], .bool true], [])
  | _ => none
def hd : Nat → Head := fun _ => ⟨[2, 3, 4, 5, 8, 10, 41, 42, 998], none⟩
noncomputable def L (f n : Nat) (s : State) := loopAt Try.prog (orcW [⟨80, l03Give.R⟩] [⟨78, l03Is.R⟩, ⟨79, l00In.R⟩]) hd Dr.std 0 f (bodyOf Try.f25) 0 [true, true, true, false, true] (retK Try.prog [.cell 8 41, 9] 0 (some 0)) n s
theorem start (p : Int) (ws vs : List Int) (f : Nat) :
  runFn Try.prog (orcW [⟨80, l03Give.R⟩] [⟨78, l03Is.R⟩, ⟨79, l00In.R⟩]) hd Dr.std (some 0) f (bodyOf Try.f25) 70 [.cell 8 41, 9] [.agg [.int .i64 p, .ro (.ints .i64 ws) ws.length 1], .agg [.int .i64 p, .ro (.ints .i64 vs) vs.length 1], .int .i64 1, .int .i64 1] []
  = (bif decide (ws.length = ws.length) && wo.sp p ws && (false || true && true) then bif decide (vs.length = vs.length) && wo.sp p vs && (false || true && true) then bif true && true then bif true && true then bif p != p then some (AVal.tup [AVal.agg [AVal.int IntKind.i64 (0 : Int), AVal.nils], AVal.bool false], []) else bif true && true then bif true && true then L f f (mkS (70 : Nat) [((2 : Nat), AVal.int IntKind.i64 (1 : Int)), ((3 : Nat), AVal.int IntKind.i64 (1 : Int)), ((4 : Nat), AVal.ptr (0 : Nat) (0 : Nat) (0 : Nat)), ((5 : Nat), AVal.ptr (1 : Nat) (0 : Nat) (0 : Nat)), ((8 : Nat), AVal.ptr (2 : Nat) (0 : Nat) (0 : Nat)), ((10 : Nat), AVal.ptr (3 : Nat) (0 : Nat) (0 : Nat)), ((41 : Nat), AVal.int IntKind.i64 (↑ws.length : Int)), ((42 : Nat), AVal.int IntKind.i64 (0 : Int))] [{ c := BC.cells [AVal.int IntKind.i64 p, AVal.ro (Cont.ints IntKind.i64 ws) ws.length (1 : Nat)], ver := (0 : Nat) }, { c := BC.cells [AVal.int IntKind.i64 p, AVal.ro (Cont.ints IntKind.i64 vs) vs.length (1 : Nat)], ver := (0 : Nat) }, { c := BC.cells [AVal.int IntKind.i64 (0 : Int), AVal.nils], ver := (0 : Nat) }, { c := BC.cells [AVal.int IntKind.i64 p, AVal.nils], ver := (0 : Nat) }]) else none else none else none else none else none else none) := by kernel_rfl
theorem round0 (p l k : Int) (ws vs : List Int) (f n : Nat) :
  L f (n + 1) (mkS 70 [(2, .int .i64 1), (3, .int .i64 1), (4, .ptr 0 0 0), (5, .ptr 1 0 0), (8, .ptr 2 0 0), (10, .ptr 3 0 0), (41, .int .i64 l), (42, .int .i64 k)] [⟨.cells [.int .i64 p, .ro (.ints .i64 ws) ws.length 1], 0⟩, ⟨.cells [.int .i64 p, .ro (.ints .i64 vs) vs.length 1], 0⟩, ⟨.cells [.int .i64 0, .nils], 0⟩, ⟨.cells [.int .i64 p, .nils], 0⟩])
  = (bif decide (k < l) then bif true && true then bif true && true then bif true && (decide ((0 : Int) ≤ k) && decide (k < (↑ws.length : Int))) then bif decide (k.toNat < ws.length) then bif true && true then bif true && (decide ((0 : Int) ≤ k) && decide (k < (↑vs.length : Int))) then bif decide (k.toNat < vs.length) then bif (1 : Nat) == (1 : Nat) && (1 : Nat) == (1 : Nat) && (true && true && (decide ((0 : Nat) < (List.take (1 : Nat) (List.drop (0 : Nat) ((List.replicate (1 : Nat) (0 : Int)).set (0 : Nat) (IntKind.i64.wrap (IntKind.i64.wrap ((1 : Int) * gz ws k.toNat) + IntKind.i64.wrap ((1 : Int) * gz vs k.toNat)))))).length) && (decide ((List.take (1 : Nat) (List.drop (0 : Nat) ((List.replicate (1 : Nat) (0 : Int)).set (0 : Nat) (IntKind.i64.wrap (IntKind.i64.wrap ((1 : Int) * gz ws k.toNat) + IntKind.i64.wrap ((1 : Int) * gz vs k.toNat)))))).length ≤ (4611686018427387904 : Nat)) && decide ((List.take (1 : Nat) (List.drop (0 : Nat) ((List.replicate (1 : Nat) (0 : Int)).set (0 : Nat) (IntKind.i64.wrap (IntKind.i64.wrap ((1 : Int) * gz ws k.toNat) + IntKind.i64.wrap ((1 : Int) * gz vs k.toNat)))))).length * (8 : Nat) ≤ (140737488355328 : Nat))))) then L f n (mkS (70 : Nat) [((2 : Nat), AVal.int IntKind.i64 (1 : Int)), ((3 : Nat), AVal.int IntKind.i64 (1 : Int)), ((4 : Nat), AVal.ptr (0 : Nat) (0 : Nat) (0 : Nat)), ((5 : Nat), AVal.ptr (1 : Nat) (0 : Nat) (0 : Nat)), ((8 : Nat), AVal.ptr (2 : Nat) (0 : Nat) (0 : Nat)), ((10 : Nat), AVal.ptr (3 : Nat) (0 : Nat) (0 : Nat)), ((41 : Nat), AVal.int IntKind.i64 l), ((42 : Nat), AVal.int IntKind.i64 (IntKind.i64.wrap (k + (1 : Int))))] [{ c := BC.cells [AVal.int IntKind.i64 p, AVal.ro (Cont.ints IntKind.i64 ws) ws.length (1 : Nat)], ver := (0 : Nat) }, { c := BC.cells [AVal.int IntKind.i64 p, AVal.ro (Cont.ints IntKind.i64 vs) vs.length (1 : Nat)], ver := (0 : Nat) }, { c := BC.cells [AVal.int IntKind.i64 (0 : Int), AVal.nils], ver := (0 : Nat) }, { c := BC.cells [AVal.int IntKind.i64 p, AVal.own (4 : Nat) (0 : Nat) (List.take (1 : Nat) (List.drop (0 : Nat) ((List.replicate (1 : Nat) (0 : Int)).set (0 : Nat) (IntKind.i64.wrap (IntKind.i64.wrap ((1 : Int) * gz ws k.toNat) + IntKind.i64.wrap ((1 : Int) * gz vs k.toNat)))))).length (0 : Nat) (1 : Nat)], ver := (0 : Nat) }, { c := BC.typ (Cont.ints IntKind.i64 (List.take (1 : Nat) (List.drop (0 : Nat) ((List.replicate (1 : Nat) (0 : Int)).set (0 : Nat) (IntKind.i64.wrap (IntKind.i64.wrap ((1 : Int) * gz ws k.toNat) + IntKind.i64.wrap ((1 : Int) * gz vs k.toNat))))))), ver := (0 : Nat) }]) else none else none else none else none else none else none else none else none else bif true && true && (true && true && true) then none else none) := by kernel_rfl
theorem round (p l k : Int) (ws vs os : List Int) (q f n : Nat) :
  L f (n + 1) (mkS 70 [(2, .int .i64 1), (3, .int .i64 1), (4, .ptr 0 0 0), (5, .ptr 1 0 0), (8, .ptr 2 0 0), (10, .ptr 3 0 0), (41, .int .i64 l), (42, .int .i64 k)] [⟨.cells [.int .i64 p, .ro (.ints .i64 ws) ws.length 1], 0⟩, ⟨.cells [.int .i64 p, .ro (.ints .i64 vs) vs.length 1], 0⟩, ⟨.cells [.int .i64 0, .nils], 0⟩, ⟨.cells [.int .i64 p, .own 4 0 q 0 1], 0⟩, ⟨.typ (.ints .i64 os), 0⟩])
  = (bif decide (k < l) then bif true && true then bif true && true then bif true && (decide ((0 : Int) ≤ k) && decide (k < (↑ws.length : Int))) then bif decide (k.toNat < ws.length) then bif true && true then bif true && (decide ((0 : Int) ≤ k) && decide (k < (↑vs.length : Int))) then bif decide (k.toNat < vs.length) then bif (1 : Nat) == (1 : Nat) && (1 : Nat) == (1 : Nat) && (true && (true && true) && (true && true && (decide (q + (List.take (1 : Nat) (List.drop (0 : Nat) ((List.replicate (1 : Nat) (0 : Int)).set (0 : Nat) (IntKind.i64.wrap (IntKind.i64.wrap ((1 : Int) * gz ws k.toNat) + IntKind.i64.wrap ((1 : Int) * gz vs k.toNat)))))).length ≤ (4611686018427387904 : Nat)) && decide ((q + (List.take (1 : Nat) (List.drop (0 : Nat) ((List.replicate (1 : Nat) (0 : Int)).set (0 : Nat) (IntKind.i64.wrap (IntKind.i64.wrap ((1 : Int) * gz ws k.toNat) + IntKind.i64.wrap ((1 : Int) * gz vs k.toNat)))))).length) * (8 : Nat) ≤ (140737488355328 : Nat))))) then L f n (mkS (70 : Nat) [((2 : Nat), AVal.int IntKind.i64 (1 : Int)), ((3 : Nat), AVal.int IntKind.i64 (1 : Int)), ((4 : Nat), AVal.ptr (0 : Nat) (0 : Nat) (0 : Nat)), ((5 : Nat), AVal.ptr (1 : Nat) (0 : Nat) (0 : Nat)), ((8 : Nat), AVal.ptr (2 : Nat) (0 : Nat) (0 : Nat)), ((10 : Nat), AVal.ptr (3 : Nat) (0 : Nat) (0 : Nat)), ((41 : Nat), AVal.int IntKind.i64 l), ((42 : Nat), AVal.int IntKind.i64 (IntKind.i64.wrap (k + (1 : Int))))] [{ c := BC.cells [AVal.int IntKind.i64 p, AVal.ro (Cont.ints IntKind.i64 ws) ws.length (1 : Nat)], ver := (0 : Nat) }, { c := BC.cells [AVal.int IntKind.i64 p, AVal.ro (Cont.ints IntKind.i64 vs) vs.length (1 : Nat)], ver := (0 : Nat) }, { c := BC.cells [AVal.int IntKind.i64 (0 : Int), AVal.nils], ver := (0 : Nat) }, { c := BC.cells [AVal.int IntKind.i64 p, AVal.own (4 : Nat) (0 : Nat) (q + (List.take (1 : Nat) (List.drop (0 : Nat) ((List.replicate (1 : Nat) (0 : Int)).set (0 : Nat) (IntKind.i64.wrap (IntKind.i64.wrap ((1 : Int) * gz ws k.toNat) + IntKind.i64.wrap ((1 : Int) * gz vs k.toNat)))))).length) (0 : Nat) (1 : Nat)], ver := (0 : Nat) }, { c := BC.typ (Cont.ints IntKind.i64 (List.take q os ++ List.take (1 : Nat) (List.drop (0 : Nat) ((List.replicate (1 : Nat) (0 : Int)).set (0 : Nat) (IntKind.i64.wrap (IntKind.i64.wrap ((1 : Int) * gz ws k.toNat) + IntKind.i64.wrap ((1 : Int) * gz vs k.toNat))))))), ver := (0 : Nat) }]) else none else none else none else none else none else none else none else none else bif true && true && (true && true && true) then bif decide (q = os.length) && wo.sp p os && (true && (true && true)) then bif true && true && (true && true && true) && true then some (AVal.tup [AVal.agg [AVal.int IntKind.i64 p, AVal.ro (Cont.ints IntKind.i64 os) q (1 : Nat)], AVal.bool true], []) else none else none else none) := by kernel_rfl
theorem loop (p : Nat) (ws vs : List Int) (f : Nat) (ha : wo.sp p (wo.add.sv ws vs ws.length) = true) (hp : 1 ≤ p ∧ p ≤ 6) (hw : ws.length = 2 ^ p) (h0 : gz ws 0 = 0) (v : ∀ x ∈ ws, -10000 ≤ x ∧ x ≤ 10000) (hw2 : vs.length = 2 ^ p) (h02 : gz vs 0 = 0) (v2 : ∀ x ∈ vs, -10000 ≤ x ∧ x ≤ 10000) : ∀ (d k n : Nat), k + d = ws.length → d < n →
    L f n (mkS 70 [(2, .int .i64 1), (3, .int .i64 1), (4, .ptr 0 0 0), (5, .ptr 1 0 0), (8, .ptr 2 0 0), (10, .ptr 3 0 0), (41, .int .i64 ((ws.length : Nat) : Int)), (42, .int .i64 ((k : Nat) : Int))] [⟨.cells [.int .i64 ((p : Nat) : Int), .ro (.ints .i64 ws) ws.length 1], 0⟩, ⟨.cells [.int .i64 ((p : Nat) : Int), .ro (.ints .i64 vs) vs.length 1], 0⟩, ⟨.cells [.int .i64 0, .nils], 0⟩, ⟨.cells [.int .i64 ((p : Nat) : Int), .own 4 0 k 0 1], 0⟩, ⟨.typ (.ints .i64 (wo.add.sv ws vs k)), 0⟩]) = some (.tup [.agg [.int .i64 ((p : Nat) : Int), .ro (.ints .i64 (wo.add.sv ws vs ws.length)) ws.length 1], .bool true], []) := by
  have h64 := wo.pow_le hp.2
  intro d
  induction d with
  | zero =>
    intro k n hk hn
    obtain ⟨n, rfl⟩ : ∃ k, n = k + 1 := ⟨n - 1, by omega⟩
    obtain rfl : k = ws.length := by omega
    rw [round]
    have lk := wo.add_length ws vs ws.length
    simp -implicitDefEqProofs (disch := omega) only [ha, lk, take_one, set_one, decide_eq_true, decide_eq_false, IntWalk.i64_in, beqT, beqF, bneT, bneF, nat_succ, ← Int.natCast_mul, ← Int.natCast_add, Int.toNat_natCast, Int.zero_mul, Int.zero_add, Int.add_zero, Nat.zero_add, Nat.add_zero, Nat.zero_mul, List.length_singleton, List.length_append, List.length_nil, List.length_cons, List.take_length, List.drop_zero, List.replicate_zero, List.take_nil, List.nil_append, Nat.reduceBEq, Nat.reduceMul, Nat.reduceLeDiff, eq_self, and_self, true_and, and_true, decide_true, decide_false, Bool.and_self, Bool.or_self, Bool.and_true, Bool.true_and, Bool.and_false, Bool.false_and, Bool.or_true, Bool.true_or, Bool.or_false, Bool.false_or, Bool.not_true, Bool.not_false, cond_true, cond_false]
  | succ d ih =>
    intro k n hk hn
    obtain ⟨n, rfl⟩ : ∃ k, n = k + 1 := ⟨n - 1, by omega⟩
    have g := ih (k + 1) n (by omega) (by omega)
    have lk := wo.add_length ws vs k
    have tk : List.take k (wo.add.sv ws vs k) = wo.add.sv ws vs k := by rw [List.take_of_length_le (by omega)]
    have b1 := wo.gz_in v k
    have b2 := wo.gz_in v2 k
    simp only [wo.add.sv] at g
    rw [round]
    simp -implicitDefEqProofs (disch := omega) only [Int.one_mul, tk, take_one, set_one, decide_eq_true, decide_eq_false, IntWalk.i64_in, beqT, beqF, bneT, bneF, nat_succ, ← Int.natCast_mul, ← Int.natCast_add, Int.toNat_natCast, Int.zero_mul, Int.zero_add, Int.add_zero, Nat.zero_add, Nat.add_zero, Nat.zero_mul, List.length_singleton, List.length_append, List.length_nil, List.length_cons, List.take_length, List.drop_zero, List.replicate_zero, List.take_nil, List.nil_append, Nat.reduceBEq, Nat.reduceMul, Nat.reduceLeDiff, eq_self, and_self, true_and, and_true, decide_true, decide_false, Bool.and_self, Bool.or_self, Bool.and_true, Bool.true_and, Bool.and_false, Bool.false_and, Bool.or_true, Bool.true_or, Bool.or_false, Bool.false_or, Bool.not_true, Bool.not_false, cond_true, cond_false]
    exact g
theorem run : ∀ args v new, R args = some (true, v, new) → ∃ fuel, runFn Try.prog (orcW [⟨80, l03Give.R⟩] [⟨78, l03Is.R⟩, ⟨79, l00In.R⟩]) hd Dr.std (some 0) fuel (bodyOf Try.f25) 70 [.cell 8 41, 9] args [] = some (v, new) := by
  intro args v new h
  unfold R at h
  split at h
  · rename_i p ws m p2 vs m2 x y
    simp only [Option.some.injEq, Prod.mk.injEq, Bool.and_eq_true, decide_eq_true_eq] at h
    obtain ⟨⟨⟨rfl, rfl, rfl, rfl, rfl⟩, hs, hs2, ha⟩, rfl, rfl⟩ := h
    have hs3 := hs
    have hs4 := hs2
    obtain ⟨p, rfl, hp, hw, h0, v⟩ := wo.valid hs3
    obtain ⟨p', e, _, hw2, h02, v2⟩ := wo.valid hs4
    obtain rfl : p = p' := by omega
    have h64 := wo.pow_le hp.2
    have h1p := wo.pow_pos p
    have b1 := wo.gz_in v 0
    have b2 := wo.gz_in v2 0
    obtain ⟨F, hF⟩ : ∃ F : Nat, F = 100 := ⟨100, rfl⟩
    refine ⟨F + 1, ?_⟩
    have g := loop p ws vs (F + 1) ha hp hw h0 v hw2 h02 v2 (ws.length - 1) 1 F (by omega) (by omega)
    simp only [wo.add.sv, List.nil_append] at g
    rw [start]
    simp -implicitDefEqProofs (disch := omega) only [hs, hs2, take_one, set_one, decide_eq_true, decide_eq_false, IntWalk.i64_in, beqT, beqF, bneT, bneF, nat_succ, ← Int.natCast_mul, ← Int.natCast_add, Int.toNat_natCast, Int.zero_mul, Int.zero_add, Int.add_zero, Nat.zero_add, Nat.add_zero, Nat.zero_mul, List.length_singleton, List.length_append, List.length_nil, List.length_cons, List.take_length, List.drop_zero, List.replicate_zero, List.take_nil, List.nil_append, Nat.reduceBEq, Nat.reduceMul, Nat.reduceLeDiff, eq_self, and_self, true_and, and_true, decide_true, decide_false, Bool.and_self, Bool.or_self, Bool.and_true, Bool.true_and, Bool.and_false, Bool.false_and, Bool.or_true, Bool.true_or, Bool.or_false, Bool.false_or, Bool.not_true, Bool.not_false, cond_true, cond_false]
    rw [round0]
    simp -implicitDefEqProofs (disch := omega) only [Int.one_mul, Int.toNat_zero, take_one, set_one, decide_eq_true, decide_eq_false, IntWalk.i64_in, beqT, beqF, bneT, bneF, nat_succ, ← Int.natCast_mul, ← Int.natCast_add, Int.toNat_natCast, Int.zero_mul, Int.zero_add, Int.add_zero, Nat.zero_add, Nat.add_zero, Nat.zero_mul, List.length_singleton, List.length_append, List.length_nil, List.length_cons, List.take_length, List.drop_zero, List.replicate_zero, List.take_nil, List.nil_append, Nat.reduceBEq, Nat.reduceMul, Nat.reduceLeDiff, eq_self, and_self, true_and, and_true, decide_true, decide_false, Bool.and_self, Bool.or_self, Bool.and_true, Bool.true_and, Bool.and_false, Bool.false_and, Bool.or_true, Bool.true_or, Bool.or_false, Bool.false_or, Bool.not_true, Bool.not_false, cond_true, cond_false]
    exact g
  · cases h
theorem ok : EntOk Try.prog ⟨25, R⟩ :=
  ent_okA mixed (A := (orcW [⟨80, l03Give.R⟩] [⟨78, l03Is.R⟩, ⟨79, l00In.R⟩])) (orcW_ok (by simp only [List.mem_cons, List.not_mem_nil, or_false, forall_eq_or_imp, forall_eq]; exact l03Give.ok) (by simp only [List.mem_cons, List.not_mem_nil, or_false, forall_eq_or_imp, forall_eq]; exact ⟨l03Is.ok, l00In.ok⟩)) Try.func25 (by kernel_rfl) (by kernel_rfl) (n := 70) (ts := [.cell 8 41, 9]) (hd := hd) (dr := Dr.std) (cut := (some 0)) (by kernel_rfl) (by kernel_rfl) (by kernel_rfl) run
end sWeighWorths

namespace sIsNull
def R : List AVal → Option (Bool × AVal × List Blk)
  | [.agg [.int .i64 p, .ro (.ints .i64 ws) m 1], .int .i64 i] => some (decide (m = ws.length ∧ 0 ≤ i ∧ i < p) && wo.sp p ws, .tup [.bool (wo.nu.sp ws i.toNat ws.length), .bool true], [])
  | _ => none
def hd : Nat → Head := fun _ => ⟨[1, 2, 4, 5, 19, 20], none⟩
noncomputable def L (f n : Nat) (s : State) := loopAt Try.prog (orc [⟨78, l03Is.R⟩, ⟨79, l00In.R⟩, ⟨86, l03In.R⟩]) hd Dr.std 0 f (bodyOf Try.f33) 0 [true, true, false, true] (retK Try.prog [4, 5] 0 (some 0)) n s
theorem start (p : Int) (ws : List Int) (i : Int) (f : Nat) :
  runFn Try.prog (orc [⟨78, l03Is.R⟩, ⟨79, l00In.R⟩, ⟨86, l03In.R⟩]) hd Dr.std (some 0) f (bodyOf Try.f33) 45 [4, 5] [.agg [.int .i64 p, .ro (.ints .i64 ws) ws.length 1], .int .i64 i] []
  = (bif decide (ws.length = ws.length) && wo.sp p ws && (false && true || true && true) then bif true && true then bif true && (true && (true && (true && true)) || true && true) then bif !(decide ((0 : Int) ≤ i) && decide (i ≤ IntKind.i64.wrap (p - (1 : Int)))) then some (AVal.tup [AVal.bool false, AVal.bool false], []) else bif true && true then L f f (mkS (45 : Nat) [((1 : Nat), AVal.int IntKind.i64 i), ((2 : Nat), AVal.ptr (0 : Nat) (0 : Nat) (0 : Nat)), ((4 : Nat), AVal.bool false), ((5 : Nat), AVal.bool false), ((19 : Nat), AVal.int IntKind.i64 (↑ws.length : Int)), ((20 : Nat), AVal.int IntKind.i64 (0 : Int))] [{ c := BC.cells [AVal.int IntKind.i64 p, AVal.ro (Cont.ints IntKind.i64 ws) ws.length (1 : Nat)], ver := (0 : Nat) }]) else none else none else none else none) := by kernel_rfl
theorem round (p l k : Int) (ws : List Int) (i : Int) (f n : Nat) :
  L f (n + 1) (mkS 45 [(1, .int .i64 i), (2, .ptr 0 0 0), (4, .bool false), (5, .bool false), (19, .int .i64 l), (20, .int .i64 k)] [⟨.cells [.int .i64 p, .ro (.ints .i64 ws) ws.length 1], 0⟩])
  = (bif decide (k < l) then bif decide ((0 : Int) ≤ k ∧ k < (64 : Int) ∧ (0 : Int) ≤ i ∧ i < (6 : Int)) && (true && (true && true) || true && true) then bif !!wo.off.sp k.toNat i.toNat then bif true && true then bif decide ((0 : Int) ≤ IntKind.u64.wrap i) then bif true && (decide ((0 : Int) ≤ IntKind.i64.wrap (k + ishl.sv IntKind.i64 (1 : Int) (IntKind.u64.wrap i))) && decide (IntKind.i64.wrap (k + ishl.sv IntKind.i64 (1 : Int) (IntKind.u64.wrap i)) < (↑ws.length : Int))) then bif decide ((IntKind.i64.wrap (k + ishl.sv IntKind.i64 (1 : Int) (IntKind.u64.wrap i))).toNat < ws.length) then bif true && true then bif true && (decide ((0 : Int) ≤ k) && decide (k < (↑ws.length : Int))) then bif decide (k.toNat < ws.length) then bif gz ws (IntKind.i64.wrap (k + ishl.sv IntKind.i64 (1 : Int) (IntKind.u64.wrap i))).toNat != gz ws k.toNat then some (AVal.tup [AVal.bool false, AVal.bool true], []) else L f n (mkS (45 : Nat) [((1 : Nat), AVal.int IntKind.i64 i), ((2 : Nat), AVal.ptr (0 : Nat) (0 : Nat) (0 : Nat)), ((4 : Nat), AVal.bool false), ((5 : Nat), AVal.bool false), ((19 : Nat), AVal.int IntKind.i64 l), ((20 : Nat), AVal.int IntKind.i64 (IntKind.i64.wrap (k + (1 : Int))))] [{ c := BC.cells [AVal.int IntKind.i64 p, AVal.ro (Cont.ints IntKind.i64 ws) ws.length (1 : Nat)], ver := (0 : Nat) }]) else none else none else none else none else none else none else none else L f n (mkS (45 : Nat) [((1 : Nat), AVal.int IntKind.i64 i), ((2 : Nat), AVal.ptr (0 : Nat) (0 : Nat) (0 : Nat)), ((4 : Nat), AVal.bool false), ((5 : Nat), AVal.bool false), ((19 : Nat), AVal.int IntKind.i64 l), ((20 : Nat), AVal.int IntKind.i64 (IntKind.i64.wrap (k + (1 : Int))))] [{ c := BC.cells [AVal.int IntKind.i64 p, AVal.ro (Cont.ints IntKind.i64 ws) ws.length (1 : Nat)], ver := (0 : Nat) }]) else none else some (AVal.tup [AVal.bool true, AVal.bool true], [])) := by kernel_rfl
theorem loop (p : Nat) (ws : List Int) (i : Nat) (f : Nat) (hp : 1 ≤ p ∧ p ≤ 6) (hw : ws.length = 2 ^ p) (h0 : gz ws 0 = 0) (v : ∀ x ∈ ws, -10000 ≤ x ∧ x ≤ 10000) (hi : i < p) : ∀ (d k n : Nat), k + d = ws.length → d < n → wo.nu.sp ws i k = true →
    L f n (mkS 45 [(1, .int .i64 ((i : Nat) : Int)), (2, .ptr 0 0 0), (4, .bool false), (5, .bool false), (19, .int .i64 ((ws.length : Nat) : Int)), (20, .int .i64 ((k : Nat) : Int))] [⟨.cells [.int .i64 ((p : Nat) : Int), .ro (.ints .i64 ws) ws.length 1], 0⟩]) = some (.tup [.bool (wo.nu.sp ws i ws.length), .bool true], []) := by
  have h64 := wo.pow_le hp.2
  intro d
  induction d with
  | zero =>
    intro k n hk hn ht
    obtain ⟨n, rfl⟩ : ∃ k, n = k + 1 := ⟨n - 1, by omega⟩
    obtain rfl : k = ws.length := by omega
    rw [round]
    simp -implicitDefEqProofs (disch := omega) only [ht, take_one, set_one, decide_eq_true, decide_eq_false, IntWalk.i64_in, beqT, beqF, bneT, bneF, nat_succ, ← Int.natCast_mul, ← Int.natCast_add, Int.toNat_natCast, Int.zero_mul, Int.zero_add, Int.add_zero, Nat.zero_add, Nat.add_zero, Nat.zero_mul, List.length_singleton, List.length_append, List.length_nil, List.length_cons, List.take_length, List.drop_zero, List.replicate_zero, List.take_nil, List.nil_append, Nat.reduceBEq, Nat.reduceMul, Nat.reduceLeDiff, eq_self, and_self, true_and, and_true, decide_true, decide_false, Bool.and_self, Bool.or_self, Bool.and_true, Bool.true_and, Bool.and_false, Bool.false_and, Bool.or_true, Bool.true_or, Bool.or_false, Bool.false_or, Bool.not_true, Bool.not_false, cond_true, cond_false]
  | succ d ih =>
    intro k n hk hn ht
    obtain ⟨n, rfl⟩ : ∃ k, n = k + 1 := ⟨n - 1, by omega⟩
    have g := ih (k + 1) n (by omega) (by omega)
    have hm := wo.nu.sp_mono ws i ws.length (k + 1) (by omega)
    simp only [wo.nu.sp, ht] at g hm
    have s1 := wo.shl_one i (by omega)
    have e1 : IntKind.u64.wrap ((i : Nat) : Int) = ((i : Nat) : Int) := wo.u64_nat i (by omega)
    rw [round]
    cases hb : wo.off.sp k i
    · simp only [hb, cond_false] at g
      simp -implicitDefEqProofs (disch := omega) only [hb, take_one, set_one, decide_eq_true, decide_eq_false, IntWalk.i64_in, beqT, beqF, bneT, bneF, nat_succ, ← Int.natCast_mul, ← Int.natCast_add, Int.toNat_natCast, Int.zero_mul, Int.zero_add, Int.add_zero, Nat.zero_add, Nat.add_zero, Nat.zero_mul, List.length_singleton, List.length_append, List.length_nil, List.length_cons, List.take_length, List.drop_zero, List.replicate_zero, List.take_nil, List.nil_append, Nat.reduceBEq, Nat.reduceMul, Nat.reduceLeDiff, eq_self, and_self, true_and, and_true, decide_true, decide_false, Bool.and_self, Bool.or_self, Bool.and_true, Bool.true_and, Bool.and_false, Bool.false_and, Bool.or_true, Bool.true_or, Bool.or_false, Bool.false_or, Bool.not_true, Bool.not_false, cond_true, cond_false]
      exact g trivial
    · have hadd := wo.off_add k (by omega) i (by omega) hb
      have hu := wo.up_lt (show k < 2 ^ p by omega) hi
      simp only [hb, cond_true, Bool.true_and] at g hm
      by_cases hc : gz ws (wo.up.sv k i) = gz ws k
      · have hz : (wo.mo.sv ws k i == 0) = true := by unfold wo.mo.sv; rw [beq_iff_eq]; omega
        simp -implicitDefEqProofs (disch := omega) only [hb, s1, e1, hadd, take_one, set_one, decide_eq_true, decide_eq_false, IntWalk.i64_in, beqT, beqF, bneT, bneF, nat_succ, ← Int.natCast_mul, ← Int.natCast_add, Int.toNat_natCast, Int.zero_mul, Int.zero_add, Int.add_zero, Nat.zero_add, Nat.add_zero, Nat.zero_mul, List.length_singleton, List.length_append, List.length_nil, List.length_cons, List.take_length, List.drop_zero, List.replicate_zero, List.take_nil, List.nil_append, Nat.reduceBEq, Nat.reduceMul, Nat.reduceLeDiff, eq_self, and_self, true_and, and_true, decide_true, decide_false, Bool.and_self, Bool.or_self, Bool.and_true, Bool.true_and, Bool.and_false, Bool.false_and, Bool.or_true, Bool.true_or, Bool.or_false, Bool.false_or, Bool.not_true, Bool.not_false, cond_true, cond_false]
        exact g hz
      · have hz : (wo.mo.sv ws k i == 0) = false := by unfold wo.mo.sv; rw [beq_eq_false_iff_ne]; omega
        simp -implicitDefEqProofs (disch := omega) only [hb, s1, e1, hadd, hm hz, take_one, set_one, decide_eq_true, decide_eq_false, IntWalk.i64_in, beqT, beqF, bneT, bneF, nat_succ, ← Int.natCast_mul, ← Int.natCast_add, Int.toNat_natCast, Int.zero_mul, Int.zero_add, Int.add_zero, Nat.zero_add, Nat.add_zero, Nat.zero_mul, List.length_singleton, List.length_append, List.length_nil, List.length_cons, List.take_length, List.drop_zero, List.replicate_zero, List.take_nil, List.nil_append, Nat.reduceBEq, Nat.reduceMul, Nat.reduceLeDiff, eq_self, and_self, true_and, and_true, decide_true, decide_false, Bool.and_self, Bool.or_self, Bool.and_true, Bool.true_and, Bool.and_false, Bool.false_and, Bool.or_true, Bool.true_or, Bool.or_false, Bool.false_or, Bool.not_true, Bool.not_false, cond_true, cond_false]
theorem run : ∀ args v new, R args = some (true, v, new) → ∃ fuel, runFn Try.prog (orc [⟨78, l03Is.R⟩, ⟨79, l00In.R⟩, ⟨86, l03In.R⟩]) hd Dr.std (some 0) fuel (bodyOf Try.f33) 45 [4, 5] args [] = some (v, new) := by
  intro args v new h
  unfold R at h
  split at h
  · rename_i p ws m i
    simp only [Option.some.injEq, Prod.mk.injEq, Bool.and_eq_true, decide_eq_true_eq] at h
    obtain ⟨⟨⟨rfl, h2, h3⟩, hs⟩, rfl, rfl⟩ := h
    have hs2 := hs
    obtain ⟨p, rfl, hp, hw, h0, v⟩ := wo.valid hs2
    have h64 := wo.pow_le hp.2
    have h1p := wo.pow_pos p
    obtain ⟨i, rfl⟩ : ∃ q : Nat, i = q := ⟨i.toNat, by omega⟩
    obtain ⟨F, hF⟩ : ∃ F : Nat, F = 100 := ⟨100, rfl⟩
    refine ⟨F, ?_⟩
    have g := loop p ws i F hp hw h0 v (by omega)  ws.length 0 F (by omega) (by omega) (by simp only [wo.nu.sp])
    rw [start]
    simp -implicitDefEqProofs (disch := omega) only [hs, take_one, set_one, decide_eq_true, decide_eq_false, IntWalk.i64_in, beqT, beqF, bneT, bneF, nat_succ, ← Int.natCast_mul, ← Int.natCast_add, Int.toNat_natCast, Int.zero_mul, Int.zero_add, Int.add_zero, Nat.zero_add, Nat.add_zero, Nat.zero_mul, List.length_singleton, List.length_append, List.length_nil, List.length_cons, List.take_length, List.drop_zero, List.replicate_zero, List.take_nil, List.nil_append, Nat.reduceBEq, Nat.reduceMul, Nat.reduceLeDiff, eq_self, and_self, true_and, and_true, decide_true, decide_false, Bool.and_self, Bool.or_self, Bool.and_true, Bool.true_and, Bool.and_false, Bool.false_and, Bool.or_true, Bool.true_or, Bool.or_false, Bool.false_or, Bool.not_true, Bool.not_false, cond_true, cond_false]
    exact g
  · cases h
theorem ok : EntOk Try.prog ⟨33, R⟩ :=
  ent_okA mixed (A := (orc [⟨78, l03Is.R⟩, ⟨79, l00In.R⟩, ⟨86, l03In.R⟩])) (orc_ok (by simp only [List.mem_cons, List.not_mem_nil, or_false, forall_eq_or_imp, forall_eq]; exact ⟨l03Is.ok, l00In.ok, l03In.ok⟩)) Try.func33 (by kernel_rfl) (by kernel_rfl) (n := 45) (ts := [4, 5]) (hd := hd) (dr := Dr.std) (cut := (some 0)) (by kernel_rfl) (by kernel_rfl) (by kernel_rfl) run
end sIsNull

namespace sAreAlike
def R : List AVal → Option (Bool × AVal × List Blk)
  | [.agg [.int .i64 p, .ro (.ints .i64 ws) m 1], .int .i64 i, .int .i64 j] => some (decide (m = ws.length ∧ 0 ≤ i ∧ i < p ∧ 0 ≤ j ∧ j < p ∧ i ≠ j) && wo.sp p ws, .tup [.bool (wo.al.sp ws i.toNat j.toNat ws.length), .bool true], [])
  | _ => none
def hd : Nat → Head := fun _ => ⟨[1, 2, 3, 6, 7, 34, 35], none⟩
noncomputable def L (f n : Nat) (s : State) := loopAt Try.prog (orc [⟨78, l03Is.R⟩, ⟨79, l00In.R⟩, ⟨86, l03In.R⟩]) hd Dr.std 0 f (bodyOf Try.f35) 0 [true, true, false, true] (retK Try.prog [6, 7] 0 (some 0)) n s
theorem start (p : Int) (ws : List Int) (i j : Int) (f : Nat) :
  runFn Try.prog (orc [⟨78, l03Is.R⟩, ⟨79, l00In.R⟩, ⟨86, l03In.R⟩]) hd Dr.std (some 0) f (bodyOf Try.f35) 70 [6, 7] [.agg [.int .i64 p, .ro (.ints .i64 ws) ws.length 1], .int .i64 i, .int .i64 j] []
  = (bif decide (ws.length = ws.length) && wo.sp p ws && (false && true || true && true) then bif true && true then bif true && (true && (true && (true && true)) || true && true) then bif !(decide ((0 : Int) ≤ i) && decide (i ≤ IntKind.i64.wrap (p - (1 : Int)))) then some (AVal.tup [AVal.bool false, AVal.bool false], []) else bif true && true then bif true && (true && (true && (true && true)) || true && true) then bif !(decide ((0 : Int) ≤ j) && decide (j ≤ IntKind.i64.wrap (p - (1 : Int)))) then some (AVal.tup [AVal.bool false, AVal.bool false], []) else bif i == j then some (AVal.tup [AVal.bool false, AVal.bool false], []) else bif true && true then L f f (mkS (70 : Nat) [((1 : Nat), AVal.int IntKind.i64 i), ((2 : Nat), AVal.int IntKind.i64 j), ((3 : Nat), AVal.ptr (0 : Nat) (0 : Nat) (0 : Nat)), ((6 : Nat), AVal.bool false), ((7 : Nat), AVal.bool false), ((34 : Nat), AVal.int IntKind.i64 (↑ws.length : Int)), ((35 : Nat), AVal.int IntKind.i64 (0 : Int))] [{ c := BC.cells [AVal.int IntKind.i64 p, AVal.ro (Cont.ints IntKind.i64 ws) ws.length (1 : Nat)], ver := (0 : Nat) }]) else none else none else none else none else none else none) := by kernel_rfl
theorem round (p l k : Int) (ws : List Int) (i j : Int) (f n : Nat) :
  L f (n + 1) (mkS 70 [(1, .int .i64 i), (2, .int .i64 j), (3, .ptr 0 0 0), (6, .bool false), (7, .bool false), (34, .int .i64 l), (35, .int .i64 k)] [⟨.cells [.int .i64 p, .ro (.ints .i64 ws) ws.length 1], 0⟩])
  = (bif decide (k < l) then bif decide ((0 : Int) ≤ k ∧ k < (64 : Int) ∧ (0 : Int) ≤ i ∧ i < (6 : Int)) && (true && (true && true) || true && true) then bif !!wo.off.sp k.toNat i.toNat then bif decide ((0 : Int) ≤ k ∧ k < (64 : Int) ∧ (0 : Int) ≤ j ∧ j < (6 : Int)) && (true && (true && true) || true && true) then bif !!wo.off.sp k.toNat j.toNat then bif true && true then bif decide ((0 : Int) ≤ IntKind.u64.wrap i) then bif true && (decide ((0 : Int) ≤ IntKind.i64.wrap (k + ishl.sv IntKind.i64 (1 : Int) (IntKind.u64.wrap i))) && decide (IntKind.i64.wrap (k + ishl.sv IntKind.i64 (1 : Int) (IntKind.u64.wrap i)) < (↑ws.length : Int))) then bif decide ((IntKind.i64.wrap (k + ishl.sv IntKind.i64 (1 : Int) (IntKind.u64.wrap i))).toNat < ws.length) then bif true && true then bif decide ((0 : Int) ≤ IntKind.u64.wrap j) then bif true && (decide ((0 : Int) ≤ IntKind.i64.wrap (k + ishl.sv IntKind.i64 (1 : Int) (IntKind.u64.wrap j))) && decide (IntKind.i64.wrap (k + ishl.sv IntKind.i64 (1 : Int) (IntKind.u64.wrap j)) < (↑ws.length : Int))) then bif decide ((IntKind.i64.wrap (k + ishl.sv IntKind.i64 (1 : Int) (IntKind.u64.wrap j))).toNat < ws.length) then bif gz ws (IntKind.i64.wrap (k + ishl.sv IntKind.i64 (1 : Int) (IntKind.u64.wrap i))).toNat != gz ws (IntKind.i64.wrap (k + ishl.sv IntKind.i64 (1 : Int) (IntKind.u64.wrap j))).toNat then some (AVal.tup [AVal.bool false, AVal.bool true], []) else L f n (mkS (70 : Nat) [((1 : Nat), AVal.int IntKind.i64 i), ((2 : Nat), AVal.int IntKind.i64 j), ((3 : Nat), AVal.ptr (0 : Nat) (0 : Nat) (0 : Nat)), ((6 : Nat), AVal.bool false), ((7 : Nat), AVal.bool false), ((34 : Nat), AVal.int IntKind.i64 l), ((35 : Nat), AVal.int IntKind.i64 (IntKind.i64.wrap (k + (1 : Int))))] [{ c := BC.cells [AVal.int IntKind.i64 p, AVal.ro (Cont.ints IntKind.i64 ws) ws.length (1 : Nat)], ver := (0 : Nat) }]) else none else none else none else none else none else none else none else none else L f n (mkS (70 : Nat) [((1 : Nat), AVal.int IntKind.i64 i), ((2 : Nat), AVal.int IntKind.i64 j), ((3 : Nat), AVal.ptr (0 : Nat) (0 : Nat) (0 : Nat)), ((6 : Nat), AVal.bool false), ((7 : Nat), AVal.bool false), ((34 : Nat), AVal.int IntKind.i64 l), ((35 : Nat), AVal.int IntKind.i64 (IntKind.i64.wrap (k + (1 : Int))))] [{ c := BC.cells [AVal.int IntKind.i64 p, AVal.ro (Cont.ints IntKind.i64 ws) ws.length (1 : Nat)], ver := (0 : Nat) }]) else none else L f n (mkS (70 : Nat) [((1 : Nat), AVal.int IntKind.i64 i), ((2 : Nat), AVal.int IntKind.i64 j), ((3 : Nat), AVal.ptr (0 : Nat) (0 : Nat) (0 : Nat)), ((6 : Nat), AVal.bool false), ((7 : Nat), AVal.bool false), ((34 : Nat), AVal.int IntKind.i64 l), ((35 : Nat), AVal.int IntKind.i64 (IntKind.i64.wrap (k + (1 : Int))))] [{ c := BC.cells [AVal.int IntKind.i64 p, AVal.ro (Cont.ints IntKind.i64 ws) ws.length (1 : Nat)], ver := (0 : Nat) }]) else none else some (AVal.tup [AVal.bool true, AVal.bool true], [])) := by kernel_rfl
theorem loop (p : Nat) (ws : List Int) (i j : Nat) (f : Nat) (hp : 1 ≤ p ∧ p ≤ 6) (hw : ws.length = 2 ^ p) (h0 : gz ws 0 = 0) (v : ∀ x ∈ ws, -10000 ≤ x ∧ x ≤ 10000) (hi : i < p) (hj : j < p) : ∀ (d k n : Nat), k + d = ws.length → d < n → wo.al.sp ws i j k = true →
    L f n (mkS 70 [(1, .int .i64 ((i : Nat) : Int)), (2, .int .i64 ((j : Nat) : Int)), (3, .ptr 0 0 0), (6, .bool false), (7, .bool false), (34, .int .i64 ((ws.length : Nat) : Int)), (35, .int .i64 ((k : Nat) : Int))] [⟨.cells [.int .i64 ((p : Nat) : Int), .ro (.ints .i64 ws) ws.length 1], 0⟩]) = some (.tup [.bool (wo.al.sp ws i j ws.length), .bool true], []) := by
  have h64 := wo.pow_le hp.2
  intro d
  induction d with
  | zero =>
    intro k n hk hn ht
    obtain ⟨n, rfl⟩ : ∃ k, n = k + 1 := ⟨n - 1, by omega⟩
    obtain rfl : k = ws.length := by omega
    rw [round]
    simp -implicitDefEqProofs (disch := omega) only [ht, take_one, set_one, decide_eq_true, decide_eq_false, IntWalk.i64_in, beqT, beqF, bneT, bneF, nat_succ, ← Int.natCast_mul, ← Int.natCast_add, Int.toNat_natCast, Int.zero_mul, Int.zero_add, Int.add_zero, Nat.zero_add, Nat.add_zero, Nat.zero_mul, List.length_singleton, List.length_append, List.length_nil, List.length_cons, List.take_length, List.drop_zero, List.replicate_zero, List.take_nil, List.nil_append, Nat.reduceBEq, Nat.reduceMul, Nat.reduceLeDiff, eq_self, and_self, true_and, and_true, decide_true, decide_false, Bool.and_self, Bool.or_self, Bool.and_true, Bool.true_and, Bool.and_false, Bool.false_and, Bool.or_true, Bool.true_or, Bool.or_false, Bool.false_or, Bool.not_true, Bool.not_false, cond_true, cond_false]
  | succ d ih =>
    intro k n hk hn ht
    obtain ⟨n, rfl⟩ : ∃ k, n = k + 1 := ⟨n - 1, by omega⟩
    have g := ih (k + 1) n (by omega) (by omega)
    have hm := wo.al.sp_mono ws i j ws.length (k + 1) (by omega)
    simp only [wo.al.sp, ht] at g hm
    have s1 := wo.shl_one i (by omega)
    have e1 : IntKind.u64.wrap ((i : Nat) : Int) = ((i : Nat) : Int) := wo.u64_nat i (by omega)
    have s2 := wo.shl_one j (by omega)
    have e2 : IntKind.u64.wrap ((j : Nat) : Int) = ((j : Nat) : Int) := wo.u64_nat j (by omega)
    rw [round]
    cases hb : wo.off.sp k i
    · simp only [hb, cond_false] at g
      simp -implicitDefEqProofs (disch := omega) only [hb, take_one, set_one, decide_eq_true, decide_eq_false, IntWalk.i64_in, beqT, beqF, bneT, bneF, nat_succ, ← Int.natCast_mul, ← Int.natCast_add, Int.toNat_natCast, Int.zero_mul, Int.zero_add, Int.add_zero, Nat.zero_add, Nat.add_zero, Nat.zero_mul, List.length_singleton, List.length_append, List.length_nil, List.length_cons, List.take_length, List.drop_zero, List.replicate_zero, List.take_nil, List.nil_append, Nat.reduceBEq, Nat.reduceMul, Nat.reduceLeDiff, eq_self, and_self, true_and, and_true, decide_true, decide_false, Bool.and_self, Bool.or_self, Bool.and_true, Bool.true_and, Bool.and_false, Bool.false_and, Bool.or_true, Bool.true_or, Bool.or_false, Bool.false_or, Bool.not_true, Bool.not_false, cond_true, cond_false]
      exact g trivial
    · cases hd : wo.off.sp k j
      · simp only [hb, hd, cond_false, cond_true] at g
        simp -implicitDefEqProofs (disch := omega) only [hb, hd, take_one, set_one, decide_eq_true, decide_eq_false, IntWalk.i64_in, beqT, beqF, bneT, bneF, nat_succ, ← Int.natCast_mul, ← Int.natCast_add, Int.toNat_natCast, Int.zero_mul, Int.zero_add, Int.add_zero, Nat.zero_add, Nat.add_zero, Nat.zero_mul, List.length_singleton, List.length_append, List.length_nil, List.length_cons, List.take_length, List.drop_zero, List.replicate_zero, List.take_nil, List.nil_append, Nat.reduceBEq, Nat.reduceMul, Nat.reduceLeDiff, eq_self, and_self, true_and, and_true, decide_true, decide_false, Bool.and_self, Bool.or_self, Bool.and_true, Bool.true_and, Bool.and_false, Bool.false_and, Bool.or_true, Bool.true_or, Bool.or_false, Bool.false_or, Bool.not_true, Bool.not_false, cond_true, cond_false]
        exact g trivial
      · have hadd := wo.off_add k (by omega) i (by omega) hb
        have hu := wo.up_lt (show k < 2 ^ p by omega) hi
        have hadd2 := wo.off_add k (by omega) j (by omega) hd
        have hu2 := wo.up_lt (show k < 2 ^ p by omega) hj
        simp only [hb, hd, cond_true, Bool.true_and] at g hm
        by_cases hc : gz ws (wo.up.sv k i) = gz ws (wo.up.sv k j)
        · have hz : (wo.mo.sv ws k i == wo.mo.sv ws k j) = true := by unfold wo.mo.sv; rw [beq_iff_eq]; omega
          simp -implicitDefEqProofs (disch := omega) only [hb, hd, s1, s2, e1, e2, hadd, hadd2, take_one, set_one, decide_eq_true, decide_eq_false, IntWalk.i64_in, beqT, beqF, bneT, bneF, nat_succ, ← Int.natCast_mul, ← Int.natCast_add, Int.toNat_natCast, Int.zero_mul, Int.zero_add, Int.add_zero, Nat.zero_add, Nat.add_zero, Nat.zero_mul, List.length_singleton, List.length_append, List.length_nil, List.length_cons, List.take_length, List.drop_zero, List.replicate_zero, List.take_nil, List.nil_append, Nat.reduceBEq, Nat.reduceMul, Nat.reduceLeDiff, eq_self, and_self, true_and, and_true, decide_true, decide_false, Bool.and_self, Bool.or_self, Bool.and_true, Bool.true_and, Bool.and_false, Bool.false_and, Bool.or_true, Bool.true_or, Bool.or_false, Bool.false_or, Bool.not_true, Bool.not_false, cond_true, cond_false]
          exact g hz
        · have hz : (wo.mo.sv ws k i == wo.mo.sv ws k j) = false := by unfold wo.mo.sv; rw [beq_eq_false_iff_ne]; omega
          simp -implicitDefEqProofs (disch := omega) only [hb, hd, s1, s2, e1, e2, hadd, hadd2, hm hz, take_one, set_one, decide_eq_true, decide_eq_false, IntWalk.i64_in, beqT, beqF, bneT, bneF, nat_succ, ← Int.natCast_mul, ← Int.natCast_add, Int.toNat_natCast, Int.zero_mul, Int.zero_add, Int.add_zero, Nat.zero_add, Nat.add_zero, Nat.zero_mul, List.length_singleton, List.length_append, List.length_nil, List.length_cons, List.take_length, List.drop_zero, List.replicate_zero, List.take_nil, List.nil_append, Nat.reduceBEq, Nat.reduceMul, Nat.reduceLeDiff, eq_self, and_self, true_and, and_true, decide_true, decide_false, Bool.and_self, Bool.or_self, Bool.and_true, Bool.true_and, Bool.and_false, Bool.false_and, Bool.or_true, Bool.true_or, Bool.or_false, Bool.false_or, Bool.not_true, Bool.not_false, cond_true, cond_false]
theorem run : ∀ args v new, R args = some (true, v, new) → ∃ fuel, runFn Try.prog (orc [⟨78, l03Is.R⟩, ⟨79, l00In.R⟩, ⟨86, l03In.R⟩]) hd Dr.std (some 0) fuel (bodyOf Try.f35) 70 [6, 7] args [] = some (v, new) := by
  intro args v new h
  unfold R at h
  split at h
  · rename_i p ws m i j
    simp only [Option.some.injEq, Prod.mk.injEq, Bool.and_eq_true, decide_eq_true_eq] at h
    obtain ⟨⟨⟨rfl, h2, h3, h4, h5, h6⟩, hs⟩, rfl, rfl⟩ := h
    have hs2 := hs
    obtain ⟨p, rfl, hp, hw, h0, v⟩ := wo.valid hs2
    have h64 := wo.pow_le hp.2
    have h1p := wo.pow_pos p
    obtain ⟨i, rfl⟩ : ∃ q : Nat, i = q := ⟨i.toNat, by omega⟩
    obtain ⟨j, rfl⟩ : ∃ q : Nat, j = q := ⟨j.toNat, by omega⟩
    obtain ⟨F, hF⟩ : ∃ F : Nat, F = 100 := ⟨100, rfl⟩
    refine ⟨F, ?_⟩
    have g := loop p ws i j F hp hw h0 v (by omega) (by omega) ws.length 0 F (by omega) (by omega) (by simp only [wo.al.sp])
    rw [start]
    simp -implicitDefEqProofs (disch := omega) only [hs, take_one, set_one, decide_eq_true, decide_eq_false, IntWalk.i64_in, beqT, beqF, bneT, bneF, nat_succ, ← Int.natCast_mul, ← Int.natCast_add, Int.toNat_natCast, Int.zero_mul, Int.zero_add, Int.add_zero, Nat.zero_add, Nat.add_zero, Nat.zero_mul, List.length_singleton, List.length_append, List.length_nil, List.length_cons, List.take_length, List.drop_zero, List.replicate_zero, List.take_nil, List.nil_append, Nat.reduceBEq, Nat.reduceMul, Nat.reduceLeDiff, eq_self, and_self, true_and, and_true, decide_true, decide_false, Bool.and_self, Bool.or_self, Bool.and_true, Bool.true_and, Bool.and_false, Bool.false_and, Bool.or_true, Bool.true_or, Bool.or_false, Bool.false_or, Bool.not_true, Bool.not_false, cond_true, cond_false]
    exact g
  · cases h
theorem ok : EntOk Try.prog ⟨35, R⟩ :=
  ent_okA mixed (A := (orc [⟨78, l03Is.R⟩, ⟨79, l00In.R⟩, ⟨86, l03In.R⟩])) (orc_ok (by simp only [List.mem_cons, List.not_mem_nil, or_false, forall_eq_or_imp, forall_eq]; exact ⟨l03Is.ok, l00In.ok, l03In.ok⟩)) Try.func35 (by kernel_rfl) (by kernel_rfl) (n := 70) (ts := [6, 7]) (hd := hd) (dr := Dr.std) (cut := (some 0)) (by kernel_rfl) (by kernel_rfl) (by kernel_rfl) run
end sAreAlike

end Go.Proofs.Ytadcpdjcadnepaa.Ab
