/-
  Functions: turns and rounds of envy.
-/
import Derived.Test.YtadcpdjcadnepaaFnQP
import Derived.Test.YtadcpdjcadnepaaFnZA
namespace Go.Proofs.Ytadcpdjcadnepaa.Ab
open Go
set_option linter.unusedVariables false
set_option linter.unusedSimpArgs false
set_option maxRecDepth 100000

namespace bMul64
def R : List AVal → Option (Bool × AVal × List Blk)
  | [.int .u64 a, .int .u64 y] => some (decide (a = 1 ∧ 1 ≤ y ∧ y ≤ 8), .tup [.int .u64 0, .int .u64 y], [])
  | _ => none
theorem run : ∀ args v new, R args = some (true, v, new) → ∃ fuel, runFn Try.prog (orc []) hd0 Dr.std none fuel (bodyOf Try.f136) 51 [4, 5] args [] = some (v, new) := by
  intro args v new h
  unfold R at h
  split at h
  · rename_i a y
    simp only [Option.some.injEq, Prod.mk.injEq, decide_eq_true_eq] at h
    obtain ⟨⟨rfl, h1, h2⟩, rfl, rfl⟩ := h
    have hc : y = 1 ∨ y = 2 ∨ y = 3 ∨ y = 4 ∨ y = 5 ∨ y = 6 ∨ y = 7 ∨ y = 8 := by omega
    rcases hc with rfl | rfl | rfl | rfl | rfl | rfl | rfl | rfl <;> exact ⟨0, by kernel_rfl⟩
  · cases h
theorem ok : EntOk Try.prog ⟨136, R⟩ :=
  ent_okA mixed (A := (orc [])) (orc_ok (by simp)) Try.func136 (by kernel_rfl) (by kernel_rfl) (n := 51) (ts := [4, 5]) (hd := hd0) (dr := Dr.std) (cut := none) (by kernel_rfl) (by kernel_rfl) (by kernel_rfl) run
end bMul64

namespace bMul
def R : List AVal → Option (Bool × AVal × List Blk)
  | [.int .u64 a, .int .u64 y] => some (decide (a = 1 ∧ 1 ≤ y ∧ y ≤ 8), .tup [.int .u64 0, .int .u64 y], [])
  | _ => none
theorem run : ∀ args v new, R args = some (true, v, new) → ∃ fuel, runFn Try.prog (orc [⟨136, bMul64.R⟩]) hd0 Dr.std none fuel (bodyOf Try.f133) 30 [4, 5] args [] = some (v, new) := by
  intro args v new h
  unfold R at h
  split at h
  · rename_i a y
    simp only [Option.some.injEq, Prod.mk.injEq, decide_eq_true_eq] at h
    obtain ⟨⟨rfl, h1, h2⟩, rfl, rfl⟩ := h
    have hc : y = 1 ∨ y = 2 ∨ y = 3 ∨ y = 4 ∨ y = 5 ∨ y = 6 ∨ y = 7 ∨ y = 8 := by omega
    rcases hc with rfl | rfl | rfl | rfl | rfl | rfl | rfl | rfl <;> exact ⟨0, by kernel_rfl⟩
  · cases h
theorem ok : EntOk Try.prog ⟨133, R⟩ :=
  ent_okA mixed (A := (orc [⟨136, bMul64.R⟩])) (orc_ok (by simp only [List.mem_cons, List.not_mem_nil, or_false, forall_eq_or_imp, forall_eq]; exact bMul64.ok)) Try.func133 (by kernel_rfl) (by kernel_rfl) (n := 30) (ts := [4, 5]) (hd := hd0) (dr := Dr.std) (cut := none) (by kernel_rfl) (by kernel_rfl) (by kernel_rfl) run
end bMul

namespace slRepeat
def R : List AVal → Option (Bool × AVal × List Blk)
  | [.ro (.ints .i64 xs) m 1, .int .i64 k] => some (decide (m = 1 ∧ xs.length = 1 ∧ 1 ≤ k ∧ k ≤ 8), .own 0 0 k.toNat 0 1, [⟨.typ (.ints .i64 (List.replicate k.toNat (gz xs 0))), 0⟩])
  | _ => none
def hd : Nat → Head := fun _ => ⟨[7, 8], some 1⟩
theorem run : ∀ args v new, R args = some (true, v, new) → ∃ fuel, runFn Try.prog (orc [⟨133, bMul.R⟩]) hd Dr.std (some 1) fuel (bodyOf Try.f128) 48 [4] args [] = some (v, new) := by
  intro args v new h
  unfold R at h
  split at h
  · rename_i xs m k
    simp only [Option.some.injEq, Prod.mk.injEq, decide_eq_true_eq] at h
    obtain ⟨⟨rfl, hx, h1, h2⟩, rfl, rfl⟩ := h
    obtain ⟨c, rfl⟩ := List.length_eq_one_iff.1 hx
    have hc : k = 1 ∨ k = 2 ∨ k = 3 ∨ k = 4 ∨ k = 5 ∨ k = 6 ∨ k = 7 ∨ k = 8 := by omega
    rcases hc with rfl | rfl | rfl | rfl | rfl | rfl | rfl | rfl <;> exact ⟨10, by kernel_rfl⟩
  · cases h
theorem ok : EntOk Try.prog ⟨128, R⟩ :=
  ent_okA mixed (A := (orc [⟨133, bMul.R⟩])) (orc_ok (by simp only [List.mem_cons, List.not_mem_nil, or_false, forall_eq_or_imp, forall_eq]; exact bMul.ok)) Try.func128 (by kernel_rfl) (by kernel_rfl) (n := 48) (ts := [4]) (hd := hd) (dr := Dr.std) (cut := (some 1)) (by kernel_rfl) (by kernel_rfl) (by kernel_rfl) run
end slRepeat

namespace iNone
def R : List AVal → Option (Bool × AVal × List Blk)
  | [.int .i64 k] => some (decide (1 ≤ k ∧ k ≤ 8), .own 0 0 k.toNat 0 1, [⟨.typ (.ints .i64 (List.replicate k.toNat (-1))), 0⟩])
  | _ => none
theorem run : ∀ args v new, R args = some (true, v, new) → ∃ fuel, regc [1] (runFn Try.prog (orc [⟨128, slRepeat.R⟩]) hd0 Dr.std none fuel (bodyOf Try.f88) 6 [2] args []) = some (v, new) := by
  intro args v new h
  unfold R at h
  split at h
  · rename_i k
    simp only [Option.some.injEq, Prod.mk.injEq, decide_eq_true_eq] at h
    obtain ⟨⟨h1, h2⟩, rfl, rfl⟩ := h
    have hc : k = 1 ∨ k = 2 ∨ k = 3 ∨ k = 4 ∨ k = 5 ∨ k = 6 ∨ k = 7 ∨ k = 8 := by omega
    rcases hc with rfl | rfl | rfl | rfl | rfl | rfl | rfl | rfl <;> exact ⟨0, by kernel_rfl⟩
  · cases h
theorem ok : EntOk Try.prog ⟨88, R⟩ :=
  ent_okAG (ks := [1]) mixed (A := (orc [⟨128, slRepeat.R⟩])) (orc_ok (by simp only [List.mem_cons, List.not_mem_nil, or_false, forall_eq_or_imp, forall_eq]; exact slRepeat.ok)) Try.func88 (by kernel_rfl) (by kernel_rfl) (n := 6) (ts := [2]) (hd := hd0) (dr := Dr.std) (cut := none) (by kernel_rfl) (by kernel_rfl) (by kernel_rfl) run
end iNone

namespace iTakeTurns
def dr : Nat → Dr := fun i => bif eqN i 12 then ⟨some [0, 1, 2, 3, 4, 5, 6, 7, 8, 10, 11, 12, 9, 13, 14, 15, 16], false⟩ else ⟨none, false⟩
def R : List AVal → Option (Bool × AVal × List Blk)
  | [.agg [.int .i64 p, .int .i64 t, .ro (.ints .i64 ws) m 1], .ro (.ints .i64 ord) l 1] => some (decide (m = ws.length ∧ l = ord.length ∧ 1 ≤ l ∧ l ≤ 8) && (vp.sp p t ws && ord.all fun x => decide (0 ≤ x) && decide (x ≤ p - 1)), .tup [.own 0 0 t.toNat 0 1, .bool true], [⟨.typ (.ints .i64 (tt.sv t.toNat ws ord)), 0⟩])
  | _ => none
def hd : Nat → Head := fun i => bif eqN i 0 then ⟨[1, 2, 6, 27, 28], some 2⟩ else ⟨[1, 2, 6, 8, 9, 27, 28, 38, 39, 40], some 2⟩
noncomputable def L1 (f n : Nat) (s : State) := loopAt Try.prog (orc [⟨42, iValidValues.R⟩, ⟨66, areMany.R⟩, ⟨88, iNone.R⟩, ⟨89, vOf.R⟩]) hd dr 0 f (bodyOf Try.f36) 0 [true, true, true, false, true] (retK Try.prog [4, 5] 0 none) n s
noncomputable def L2 (f n n2 : Nat) (s : State) := loopAt Try.prog (orc [⟨42, iValidValues.R⟩, ⟨66, areMany.R⟩, ⟨88, iNone.R⟩, ⟨89, vOf.R⟩]) hd dr 0 f (bodyAt (bodyOf Try.f36) [true, true, true, false, true]) (curAt (bodyOf Try.f36) 0 [true, true, true, false, true]) [true, true, false, true, true, true, false, true] (iterK (normE 0 (hd (curAt (bodyOf Try.f36) 0 [true, true, true, false, true]))) (L1 f n) (contAt Try.prog (orc [⟨42, iValidValues.R⟩, ⟨66, areMany.R⟩, ⟨88, iNone.R⟩, ⟨89, vOf.R⟩]) hd dr 0 f (bodyOf Try.f36) 0 [true, true, true, false, true] (retK Try.prog [4, 5] 0 none))) n2 s
theorem start (p t : Nat) (ws : List Int) (ord : List Int) (f : Nat) :
  runFn Try.prog (orc [⟨42, iValidValues.R⟩, ⟨66, areMany.R⟩, ⟨88, iNone.R⟩, ⟨89, vOf.R⟩]) hd dr none f (bodyOf Try.f36) 70 [4, 5] [.agg [.int .i64 p, .int .i64 t, .ro (.ints .i64 ws) ws.length 1], .ro (.ints .i64 ord) ord.length 1] []
  = (bif true && true && (true && true && (true && true && true)) then bif decide (ws.length = ws.length) && vp.sp (↑p : Int) (↑t : Int) ws && (true && (true && (true && true)) && true || true && true) then bif true && true then bif decide (ord.length ≤ ord.length ∧ ord.length ≤ (4611686018427387904 : Nat)) && (true && (true && (true && (true && (true && true)))) || true && true) then bif !(decide ((1 : Int) ≤ (↑ord.length : Int)) && decide ((↑ord.length : Int) ≤ (8 : Int)) && (List.take ord.length ord).all fun x => decide ((0 : Int) ≤ x) && decide (x ≤ IntKind.i64.wrap ((↑p : Int) - (1 : Int)))) then some (AVal.tup [AVal.nils, AVal.bool false], [{ c := BC.cells [AVal.int IntKind.i64 (↑p : Int), AVal.int IntKind.i64 (↑t : Int), AVal.ro (Cont.ints IntKind.i64 ws) ws.length (1 : Nat)], ver := (0 : Nat) }]) else bif true && true then bif decide ((1 : Int) ≤ (↑t : Int) ∧ (↑t : Int) ≤ (8 : Int)) && (true && true || true && (true && true)) then L1 f f (mkS (70 : Nat) [((1 : Nat), AVal.ro (Cont.ints IntKind.i64 ord) ord.length (1 : Nat)), ((2 : Nat), AVal.ptr (0 : Nat) (0 : Nat) (0 : Nat)), ((6 : Nat), AVal.own (1 : Nat) (0 : Nat) (↑t : Int).toNat (0 : Nat) (1 : Nat)), ((27 : Nat), AVal.int IntKind.i64 (↑(↑t : Int).toNat : Int)), ((28 : Nat), AVal.int IntKind.i64 (0 : Int))] [{ c := BC.cells [AVal.int IntKind.i64 (↑p : Int), AVal.int IntKind.i64 (↑t : Int), AVal.ro (Cont.ints IntKind.i64 ws) ws.length (1 : Nat)], ver := (0 : Nat) }, { c := BC.typ (Cont.ints IntKind.i64 (List.replicate (↑t : Int).toNat (-1 : Int))), ver := (0 : Nat) }]) else none else none else none else none else none else none) := by kernel_rfl
theorem round1 (p t : Nat) (ws : List Int) (ord out : List Int) (s f n : Nat) :
  L1 f (n + 1) (mkS 70 [(1, .ro (.ints .i64 ord) ord.length 1), (2, .ptr 0 0 0), (6, .own 1 0 t 0 1), (27, .int .i64 t), (28, .int .i64 (s : Int))] [⟨.cells [.int .i64 p, .int .i64 t, .ro (.ints .i64 ws) ws.length 1], 0⟩, ⟨.typ (.ints .i64 out), 0⟩])
  = (bif decide ((↑s : Int) < (↑t : Int)) then bif !(↑ord.length : Int) == (0 : Int) then bif true && (decide ((0 : Int) ≤ (↑s : Int).tmod (↑ord.length : Int)) && decide ((↑s : Int).tmod (↑ord.length : Int) < (↑ord.length : Int))) then bif decide (((↑s : Int).tmod (↑ord.length : Int)).toNat < ord.length) then L2 f n f (mkS (70 : Nat) [((1 : Nat), AVal.ro (Cont.ints IntKind.i64 ord) ord.length (1 : Nat)), ((2 : Nat), AVal.ptr (0 : Nat) (0 : Nat) (0 : Nat)), ((6 : Nat), AVal.own (1 : Nat) (0 : Nat) t (0 : Nat) (1 : Nat)), ((8 : Nat), AVal.int IntKind.i64 (gz ord ((↑s : Int).tmod (↑ord.length : Int)).toNat)), ((9 : Nat), AVal.int IntKind.i64 (-1 : Int)), ((27 : Nat), AVal.int IntKind.i64 (↑t : Int)), ((28 : Nat), AVal.int IntKind.i64 (↑s : Int)), ((38 : Nat), AVal.own (1 : Nat) (0 : Nat) t (0 : Nat) (1 : Nat)), ((39 : Nat), AVal.int IntKind.i64 (↑t : Int)), ((40 : Nat), AVal.int IntKind.i64 (0 : Int))] [{ c := BC.cells [AVal.int IntKind.i64 (↑p : Int), AVal.int IntKind.i64 (↑t : Int), AVal.ro (Cont.ints IntKind.i64 ws) ws.length (1 : Nat)], ver := (0 : Nat) }, { c := BC.typ (Cont.ints IntKind.i64 out), ver := (0 : Nat) }]) else none else none else none else some (AVal.tup [AVal.own (1 : Nat) (0 : Nat) t (0 : Nat) (1 : Nat), AVal.bool true], [{ c := BC.cells [AVal.int IntKind.i64 (↑p : Int), AVal.int IntKind.i64 (↑t : Int), AVal.ro (Cont.ints IntKind.i64 ws) ws.length (1 : Nat)], ver := (0 : Nat) }, { c := BC.typ (Cont.ints IntKind.i64 out), ver := (0 : Nat) }])) := by kernel_rfl
theorem round2 (p t : Nat) (ws : List Int) (ord out : List Int) (b : Int) (pl s k f n n2 : Nat) :
  L2 f n (n2 + 1) (mkS 70 [(1, .ro (.ints .i64 ord) ord.length 1), (2, .ptr 0 0 0), (6, .own 1 0 t 0 1), (8, .int .i64 (pl : Int)), (9, .int .i64 b), (27, .int .i64 t), (28, .int .i64 (s : Int)), (38, .own 1 0 t 0 1), (39, .int .i64 t), (40, .int .i64 (k : Int))] [⟨.cells [.int .i64 p, .int .i64 t, .ro (.ints .i64 ws) ws.length 1], 0⟩, ⟨.typ (.ints .i64 out), 0⟩])
  = (bif decide ((↑k : Int) < (↑t : Int)) then bif true && (decide ((0 : Int) ≤ (↑k : Int)) && decide ((↑k : Int) < (↑t : Int))) then bif true && decide ((↑k : Int).toNat < out.length) then bif decide (gz out (↑k : Int).toNat < (0 : Int)) then bif decide (b < (0 : Int)) then L2 f n n2 (mkS (70 : Nat) [((1 : Nat), AVal.ro (Cont.ints IntKind.i64 ord) ord.length (1 : Nat)), ((2 : Nat), AVal.ptr (0 : Nat) (0 : Nat) (0 : Nat)), ((6 : Nat), AVal.own (1 : Nat) (0 : Nat) t (0 : Nat) (1 : Nat)), ((8 : Nat), AVal.int IntKind.i64 (↑pl : Int)), ((9 : Nat), AVal.int IntKind.i64 (↑k : Int)), ((27 : Nat), AVal.int IntKind.i64 (↑t : Int)), ((28 : Nat), AVal.int IntKind.i64 (↑s : Int)), ((38 : Nat), AVal.own (1 : Nat) (0 : Nat) t (0 : Nat) (1 : Nat)), ((39 : Nat), AVal.int IntKind.i64 (↑t : Int)), ((40 : Nat), AVal.int IntKind.i64 (IntKind.i64.wrap ((↑k : Int) + (1 : Int))))] [{ c := BC.cells [AVal.int IntKind.i64 (↑p : Int), AVal.int IntKind.i64 (↑t : Int), AVal.ro (Cont.ints IntKind.i64 ws) ws.length (1 : Nat)], ver := (0 : Nat) }, { c := BC.typ (Cont.ints IntKind.i64 out), ver := (0 : Nat) }]) else bif true && true && (true && true && (true && true && true)) then bif true && true && (true && true && (true && true && true)) then bif decide (ws.length = ws.length ∧ (0 : Int) ≤ (↑pl : Int) ∧ (0 : Int) ≤ (↑k : Int) ∧ (↑pl : Int) ≤ (100 : Int) ∧ (↑k : Int) ≤ (100 : Int) ∧ (0 : Int) ≤ (↑t : Int) ∧ (↑t : Int) ≤ (100 : Int) ∧ (↑pl : Int) * (↑t : Int) + (↑k : Int) < (↑ws.length : Int)) && (true && (true && (true && true)) && (true && (true && true)) || true && true) then bif decide (ws.length = ws.length ∧ (0 : Int) ≤ (↑pl : Int) ∧ (0 : Int) ≤ b ∧ (↑pl : Int) ≤ (100 : Int) ∧ b ≤ (100 : Int) ∧ (0 : Int) ≤ (↑t : Int) ∧ (↑t : Int) ≤ (100 : Int) ∧ (↑pl : Int) * (↑t : Int) + b < (↑ws.length : Int)) && (true && (true && (true && true)) && (true && (true && true)) || true && true) then bif decide (gz ws ((↑pl : Int) * (↑t : Int) + b).toNat < gz ws ((↑pl : Int) * (↑t : Int) + (↑k : Int)).toNat) then L2 f n n2 (mkS (70 : Nat) [((1 : Nat), AVal.ro (Cont.ints IntKind.i64 ord) ord.length (1 : Nat)), ((2 : Nat), AVal.ptr (0 : Nat) (0 : Nat) (0 : Nat)), ((6 : Nat), AVal.own (1 : Nat) (0 : Nat) t (0 : Nat) (1 : Nat)), ((8 : Nat), AVal.int IntKind.i64 (↑pl : Int)), ((9 : Nat), AVal.int IntKind.i64 (↑k : Int)), ((27 : Nat), AVal.int IntKind.i64 (↑t : Int)), ((28 : Nat), AVal.int IntKind.i64 (↑s : Int)), ((38 : Nat), AVal.own (1 : Nat) (0 : Nat) t (0 : Nat) (1 : Nat)), ((39 : Nat), AVal.int IntKind.i64 (↑t : Int)), ((40 : Nat), AVal.int IntKind.i64 (IntKind.i64.wrap ((↑k : Int) + (1 : Int))))] [{ c := BC.cells [AVal.int IntKind.i64 (↑p : Int), AVal.int IntKind.i64 (↑t : Int), AVal.ro (Cont.ints IntKind.i64 ws) ws.length (1 : Nat)], ver := (0 : Nat) }, { c := BC.typ (Cont.ints IntKind.i64 out), ver := (0 : Nat) }]) else L2 f n n2 (mkS (70 : Nat) [((1 : Nat), AVal.ro (Cont.ints IntKind.i64 ord) ord.length (1 : Nat)), ((2 : Nat), AVal.ptr (0 : Nat) (0 : Nat) (0 : Nat)), ((6 : Nat), AVal.own (1 : Nat) (0 : Nat) t (0 : Nat) (1 : Nat)), ((8 : Nat), AVal.int IntKind.i64 (↑pl : Int)), ((9 : Nat), AVal.int IntKind.i64 b), ((27 : Nat), AVal.int IntKind.i64 (↑t : Int)), ((28 : Nat), AVal.int IntKind.i64 (↑s : Int)), ((38 : Nat), AVal.own (1 : Nat) (0 : Nat) t (0 : Nat) (1 : Nat)), ((39 : Nat), AVal.int IntKind.i64 (↑t : Int)), ((40 : Nat), AVal.int IntKind.i64 (IntKind.i64.wrap ((↑k : Int) + (1 : Int))))] [{ c := BC.cells [AVal.int IntKind.i64 (↑p : Int), AVal.int IntKind.i64 (↑t : Int), AVal.ro (Cont.ints IntKind.i64 ws) ws.length (1 : Nat)], ver := (0 : Nat) }, { c := BC.typ (Cont.ints IntKind.i64 out), ver := (0 : Nat) }]) else none else none else none else none else L2 f n n2 (mkS (70 : Nat) [((1 : Nat), AVal.ro (Cont.ints IntKind.i64 ord) ord.length (1 : Nat)), ((2 : Nat), AVal.ptr (0 : Nat) (0 : Nat) (0 : Nat)), ((6 : Nat), AVal.own (1 : Nat) (0 : Nat) t (0 : Nat) (1 : Nat)), ((8 : Nat), AVal.int IntKind.i64 (↑pl : Int)), ((9 : Nat), AVal.int IntKind.i64 b), ((27 : Nat), AVal.int IntKind.i64 (↑t : Int)), ((28 : Nat), AVal.int IntKind.i64 (↑s : Int)), ((38 : Nat), AVal.own (1 : Nat) (0 : Nat) t (0 : Nat) (1 : Nat)), ((39 : Nat), AVal.int IntKind.i64 (↑t : Int)), ((40 : Nat), AVal.int IntKind.i64 (IntKind.i64.wrap ((↑k : Int) + (1 : Int))))] [{ c := BC.cells [AVal.int IntKind.i64 (↑p : Int), AVal.int IntKind.i64 (↑t : Int), AVal.ro (Cont.ints IntKind.i64 ws) ws.length (1 : Nat)], ver := (0 : Nat) }, { c := BC.typ (Cont.ints IntKind.i64 out), ver := (0 : Nat) }]) else none else none else bif true && (decide ((0 : Int) ≤ b) && decide (b < (↑t : Int))) then bif true && (true && (decide (b.toNat < out.length) && true)) then L1 f n (mkS (70 : Nat) [((1 : Nat), AVal.ro (Cont.ints IntKind.i64 ord) ord.length (1 : Nat)), ((2 : Nat), AVal.ptr (0 : Nat) (0 : Nat) (0 : Nat)), ((6 : Nat), AVal.own (1 : Nat) (0 : Nat) t (0 : Nat) (1 : Nat)), ((27 : Nat), AVal.int IntKind.i64 (↑t : Int)), ((28 : Nat), AVal.int IntKind.i64 (IntKind.i64.wrap ((↑s : Int) + (1 : Int))))] [{ c := BC.cells [AVal.int IntKind.i64 (↑p : Int), AVal.int IntKind.i64 (↑t : Int), AVal.ro (Cont.ints IntKind.i64 ws) ws.length (1 : Nat)], ver := (0 : Nat) }, { c := BC.typ (Cont.ints IntKind.i64 (out.set b.toNat (↑pl : Int))), ver := (0 : Nat) }]) else none else none) := by kernel_rfl
theorem inner (p t : Nat) (ws : List Int) (ord out : List Int) (f n s pl b : Nat) (hs : vp.sp p t ws = true) (hp : 1 ≤ p ∧ p ≤ 6) (ht : 1 ≤ t ∧ t ≤ 8) (hw : ws.length = p * t) (v : ∀ x ∈ ws, 0 ≤ x ∧ x ≤ 1000) (hl : out.length = t) (hpl : pl < p) (hbt : b < t) (hbest : tt.best t ws out pl t = (b : Int)) (hst : s ≤ 100) : ∀ (d k n2 : Nat), k + d = t → d < n2 →
    L2 f n n2 (mkS 70 [(1, .ro (.ints .i64 ord) ord.length 1), (2, .ptr 0 0 0), (6, .own 1 0 t 0 1), (8, .int .i64 (pl : Int)), (9, .int .i64 (tt.best t ws out pl k)), (27, .int .i64 t), (28, .int .i64 (s : Int)), (38, .own 1 0 t 0 1), (39, .int .i64 t), (40, .int .i64 (k : Int))] [⟨.cells [.int .i64 p, .int .i64 t, .ro (.ints .i64 ws) ws.length 1], 0⟩, ⟨.typ (.ints .i64 out), 0⟩]) = L1 f n (mkS 70 [(1, .ro (.ints .i64 ord) ord.length 1), (2, .ptr 0 0 0), (6, .own 1 0 t 0 1), (27, .int .i64 t), (28, .int .i64 ((s + 1 : Nat) : Int))] [⟨.cells [.int .i64 p, .int .i64 t, .ro (.ints .i64 ws) ws.length 1], 0⟩, ⟨.typ (.ints .i64 (out.set b (pl : Int))), 0⟩]) := by
  have h48 := vp.le_48 hp.2 ht.2
  intro d
  induction d with
  | zero =>
    intro k n2 hk hn
    obtain ⟨n2, rfl⟩ : ∃ k, n2 = k + 1 := ⟨n2 - 1, by omega⟩
    obtain rfl : k = t := by omega
    rw [round2, hbest]
    simp -implicitDefEqProofs (disch := omega) only [take_one, set_one, decide_eq_true, decide_eq_false, IntWalk.i64_in, beqT, beqF, bneT, bneF, nat_succ, ← Int.natCast_mul, ← Int.natCast_add, Int.toNat_natCast, Int.zero_mul, Int.zero_add, Int.add_zero, Nat.zero_add, Nat.add_zero, Nat.zero_mul, List.length_singleton, List.length_append, List.length_nil, List.length_cons, List.take_length, List.drop_zero, List.replicate_zero, List.take_nil, List.nil_append, Nat.reduceBEq, Nat.reduceMul, Nat.reduceLeDiff, eq_self, and_self, true_and, and_true, decide_true, decide_false, Bool.and_self, Bool.or_self, Bool.and_true, Bool.true_and, Bool.and_false, Bool.false_and, Bool.or_true, Bool.true_or, Bool.or_false, Bool.false_or, Bool.not_true, Bool.not_false, cond_true, cond_false]
  | succ d ih =>
    intro k n2 hk hn
    obtain ⟨n2, rfl⟩ : ∃ k, n2 = k + 1 := ⟨n2 - 1, by omega⟩
    have hkt : k < t := by omega
    have hx := ix_lt (R := p) (C := t) hpl hkt
    have g := ih (k + 1) n2 (by omega) (by omega)
    simp only [tt.best] at g
    rw [round2]
    rcases tt.best_ok t ws out pl k with ⟨e, _⟩ | ⟨c, e, hc, _⟩
    · rw [e] at g ⊢
      by_cases h1 : gz out k < 0
      · simp -implicitDefEqProofs (disch := omega) only [take_one, set_one, decide_eq_true, decide_eq_false, IntWalk.i64_in, beqT, beqF, bneT, bneF, nat_succ, ← Int.natCast_mul, ← Int.natCast_add, Int.toNat_natCast, Int.zero_mul, Int.zero_add, Int.add_zero, Nat.zero_add, Nat.add_zero, Nat.zero_mul, List.length_singleton, List.length_append, List.length_nil, List.length_cons, List.take_length, List.drop_zero, List.replicate_zero, List.take_nil, List.nil_append, Nat.reduceBEq, Nat.reduceMul, Nat.reduceLeDiff, eq_self, and_self, true_and, and_true, decide_true, decide_false, Bool.and_self, Bool.or_self, Bool.and_true, Bool.true_and, Bool.and_false, Bool.false_and, Bool.or_true, Bool.true_or, Bool.or_false, Bool.false_or, Bool.not_true, Bool.not_false, cond_true, cond_false] at g
        simp -implicitDefEqProofs (disch := omega) only [take_one, set_one, decide_eq_true, decide_eq_false, IntWalk.i64_in, beqT, beqF, bneT, bneF, nat_succ, ← Int.natCast_mul, ← Int.natCast_add, Int.toNat_natCast, Int.zero_mul, Int.zero_add, Int.add_zero, Nat.zero_add, Nat.add_zero, Nat.zero_mul, List.length_singleton, List.length_append, List.length_nil, List.length_cons, List.take_length, List.drop_zero, List.replicate_zero, List.take_nil, List.nil_append, Nat.reduceBEq, Nat.reduceMul, Nat.reduceLeDiff, eq_self, and_self, true_and, and_true, decide_true, decide_false, Bool.and_self, Bool.or_self, Bool.and_true, Bool.true_and, Bool.and_false, Bool.false_and, Bool.or_true, Bool.true_or, Bool.or_false, Bool.false_or, Bool.not_true, Bool.not_false, cond_true, cond_false]
        exact g
      · simp -implicitDefEqProofs (disch := omega) only [take_one, set_one, decide_eq_true, decide_eq_false, IntWalk.i64_in, beqT, beqF, bneT, bneF, nat_succ, ← Int.natCast_mul, ← Int.natCast_add, Int.toNat_natCast, Int.zero_mul, Int.zero_add, Int.add_zero, Nat.zero_add, Nat.add_zero, Nat.zero_mul, List.length_singleton, List.length_append, List.length_nil, List.length_cons, List.take_length, List.drop_zero, List.replicate_zero, List.take_nil, List.nil_append, Nat.reduceBEq, Nat.reduceMul, Nat.reduceLeDiff, eq_self, and_self, true_and, and_true, decide_true, decide_false, Bool.and_self, Bool.or_self, Bool.and_true, Bool.true_and, Bool.and_false, Bool.false_and, Bool.or_true, Bool.true_or, Bool.or_false, Bool.false_or, Bool.not_true, Bool.not_false, cond_true, cond_false] at g
        simp -implicitDefEqProofs (disch := omega) only [take_one, set_one, decide_eq_true, decide_eq_false, IntWalk.i64_in, beqT, beqF, bneT, bneF, nat_succ, ← Int.natCast_mul, ← Int.natCast_add, Int.toNat_natCast, Int.zero_mul, Int.zero_add, Int.add_zero, Nat.zero_add, Nat.add_zero, Nat.zero_mul, List.length_singleton, List.length_append, List.length_nil, List.length_cons, List.take_length, List.drop_zero, List.replicate_zero, List.take_nil, List.nil_append, Nat.reduceBEq, Nat.reduceMul, Nat.reduceLeDiff, eq_self, and_self, true_and, and_true, decide_true, decide_false, Bool.and_self, Bool.or_self, Bool.and_true, Bool.true_and, Bool.and_false, Bool.false_and, Bool.or_true, Bool.true_or, Bool.or_false, Bool.false_or, Bool.not_true, Bool.not_false, cond_true, cond_false]
        exact g
    · rw [e, Int.toNat_natCast] at g
      rw [e]
      have hx2 := ix_lt (R := p) (C := t) (k := c) hpl (by omega)
      have e1 : gz ws (pl * t + c) = vp.w t ws pl c := rfl
      have e2 : gz ws (pl * t + k) = vp.w t ws pl k := rfl
      by_cases h1 : gz out k < 0
      · by_cases h2 : vp.w t ws pl c < vp.w t ws pl k
        · simp -implicitDefEqProofs (disch := omega) only [take_one, set_one, decide_eq_true, decide_eq_false, IntWalk.i64_in, beqT, beqF, bneT, bneF, nat_succ, ← Int.natCast_mul, ← Int.natCast_add, Int.toNat_natCast, Int.zero_mul, Int.zero_add, Int.add_zero, Nat.zero_add, Nat.add_zero, Nat.zero_mul, List.length_singleton, List.length_append, List.length_nil, List.length_cons, List.take_length, List.drop_zero, List.replicate_zero, List.take_nil, List.nil_append, Nat.reduceBEq, Nat.reduceMul, Nat.reduceLeDiff, eq_self, and_self, true_and, and_true, decide_true, decide_false, Bool.and_self, Bool.or_self, Bool.and_true, Bool.true_and, Bool.and_false, Bool.false_and, Bool.or_true, Bool.true_or, Bool.or_false, Bool.false_or, Bool.not_true, Bool.not_false, cond_true, cond_false] at g
          simp -implicitDefEqProofs (disch := omega) only [e1, e2, take_one, set_one, decide_eq_true, decide_eq_false, IntWalk.i64_in, beqT, beqF, bneT, bneF, nat_succ, ← Int.natCast_mul, ← Int.natCast_add, Int.toNat_natCast, Int.zero_mul, Int.zero_add, Int.add_zero, Nat.zero_add, Nat.add_zero, Nat.zero_mul, List.length_singleton, List.length_append, List.length_nil, List.length_cons, List.take_length, List.drop_zero, List.replicate_zero, List.take_nil, List.nil_append, Nat.reduceBEq, Nat.reduceMul, Nat.reduceLeDiff, eq_self, and_self, true_and, and_true, decide_true, decide_false, Bool.and_self, Bool.or_self, Bool.and_true, Bool.true_and, Bool.and_false, Bool.false_and, Bool.or_true, Bool.true_or, Bool.or_false, Bool.false_or, Bool.not_true, Bool.not_false, cond_true, cond_false]
          exact g
        · simp -implicitDefEqProofs (disch := omega) only [take_one, set_one, decide_eq_true, decide_eq_false, IntWalk.i64_in, beqT, beqF, bneT, bneF, nat_succ, ← Int.natCast_mul, ← Int.natCast_add, Int.toNat_natCast, Int.zero_mul, Int.zero_add, Int.add_zero, Nat.zero_add, Nat.add_zero, Nat.zero_mul, List.length_singleton, List.length_append, List.length_nil, List.length_cons, List.take_length, List.drop_zero, List.replicate_zero, List.take_nil, List.nil_append, Nat.reduceBEq, Nat.reduceMul, Nat.reduceLeDiff, eq_self, and_self, true_and, and_true, decide_true, decide_false, Bool.and_self, Bool.or_self, Bool.and_true, Bool.true_and, Bool.and_false, Bool.false_and, Bool.or_true, Bool.true_or, Bool.or_false, Bool.false_or, Bool.not_true, Bool.not_false, cond_true, cond_false] at g
          simp -implicitDefEqProofs (disch := omega) only [e1, e2, take_one, set_one, decide_eq_true, decide_eq_false, IntWalk.i64_in, beqT, beqF, bneT, bneF, nat_succ, ← Int.natCast_mul, ← Int.natCast_add, Int.toNat_natCast, Int.zero_mul, Int.zero_add, Int.add_zero, Nat.zero_add, Nat.add_zero, Nat.zero_mul, List.length_singleton, List.length_append, List.length_nil, List.length_cons, List.take_length, List.drop_zero, List.replicate_zero, List.take_nil, List.nil_append, Nat.reduceBEq, Nat.reduceMul, Nat.reduceLeDiff, eq_self, and_self, true_and, and_true, decide_true, decide_false, Bool.and_self, Bool.or_self, Bool.and_true, Bool.true_and, Bool.and_false, Bool.false_and, Bool.or_true, Bool.true_or, Bool.or_false, Bool.false_or, Bool.not_true, Bool.not_false, cond_true, cond_false]
          exact g
      · simp -implicitDefEqProofs (disch := omega) only [take_one, set_one, decide_eq_true, decide_eq_false, IntWalk.i64_in, beqT, beqF, bneT, bneF, nat_succ, ← Int.natCast_mul, ← Int.natCast_add, Int.toNat_natCast, Int.zero_mul, Int.zero_add, Int.add_zero, Nat.zero_add, Nat.add_zero, Nat.zero_mul, List.length_singleton, List.length_append, List.length_nil, List.length_cons, List.take_length, List.drop_zero, List.replicate_zero, List.take_nil, List.nil_append, Nat.reduceBEq, Nat.reduceMul, Nat.reduceLeDiff, eq_self, and_self, true_and, and_true, decide_true, decide_false, Bool.and_self, Bool.or_self, Bool.and_true, Bool.true_and, Bool.and_false, Bool.false_and, Bool.or_true, Bool.true_or, Bool.or_false, Bool.false_or, Bool.not_true, Bool.not_false, cond_true, cond_false] at g
        simp -implicitDefEqProofs (disch := omega) only [e1, e2, take_one, set_one, decide_eq_true, decide_eq_false, IntWalk.i64_in, beqT, beqF, bneT, bneF, nat_succ, ← Int.natCast_mul, ← Int.natCast_add, Int.toNat_natCast, Int.zero_mul, Int.zero_add, Int.add_zero, Nat.zero_add, Nat.add_zero, Nat.zero_mul, List.length_singleton, List.length_append, List.length_nil, List.length_cons, List.take_length, List.drop_zero, List.replicate_zero, List.take_nil, List.nil_append, Nat.reduceBEq, Nat.reduceMul, Nat.reduceLeDiff, eq_self, and_self, true_and, and_true, decide_true, decide_false, Bool.and_self, Bool.or_self, Bool.and_true, Bool.true_and, Bool.and_false, Bool.false_and, Bool.or_true, Bool.true_or, Bool.or_false, Bool.false_or, Bool.not_true, Bool.not_false, cond_true, cond_false]
        exact g
theorem loop1 (p t : Nat) (ws : List Int) (ord : List Int) (f : Nat) (hf : 10 < f) (hs : vp.sp p t ws = true) (hp : 1 ≤ p ∧ p ≤ 6) (ht : 1 ≤ t ∧ t ≤ 8) (hw : ws.length = p * t) (v : ∀ x ∈ ws, 0 ≤ x ∧ x ≤ 1000) (h0 : 0 < ord.length) (h8 : ord.length ≤ 8) (ho : ∀ x ∈ ord, 0 ≤ x ∧ x < (p : Int)) : ∀ (d s n : Nat), s + d = t → d < n →
    L1 f n (mkS 70 [(1, .ro (.ints .i64 ord) ord.length 1), (2, .ptr 0 0 0), (6, .own 1 0 t 0 1), (27, .int .i64 t), (28, .int .i64 (s : Int))] [⟨.cells [.int .i64 p, .int .i64 t, .ro (.ints .i64 ws) ws.length 1], 0⟩, ⟨.typ (.ints .i64 (tt.go t ws ord s)), 0⟩]) = some (.tup [.own 1 0 t 0 1, .bool true], [⟨.cells [.int .i64 p, .int .i64 t, .ro (.ints .i64 ws) ws.length 1], 0⟩, ⟨.typ (.ints .i64 (tt.go t ws ord t)), 0⟩]) := by
  intro d
  induction d with
  | zero =>
    intro s n hi hn
    obtain ⟨n, rfl⟩ : ∃ k, n = k + 1 := ⟨n - 1, by omega⟩
    obtain rfl : s = t := by omega
    rw [round1]
    simp -implicitDefEqProofs (disch := omega) only [take_one, set_one, decide_eq_true, decide_eq_false, IntWalk.i64_in, beqT, beqF, bneT, bneF, nat_succ, ← Int.natCast_mul, ← Int.natCast_add, Int.toNat_natCast, Int.zero_mul, Int.zero_add, Int.add_zero, Nat.zero_add, Nat.add_zero, Nat.zero_mul, List.length_singleton, List.length_append, List.length_nil, List.length_cons, List.take_length, List.drop_zero, List.replicate_zero, List.take_nil, List.nil_append, Nat.reduceBEq, Nat.reduceMul, Nat.reduceLeDiff, eq_self, and_self, true_and, and_true, decide_true, decide_false, Bool.and_self, Bool.or_self, Bool.and_true, Bool.true_and, Bool.and_false, Bool.false_and, Bool.or_true, Bool.true_or, Bool.or_false, Bool.false_or, Bool.not_true, Bool.not_false, cond_true, cond_false]
  | succ d ih =>
    intro s n hi hn
    obtain ⟨n, rfl⟩ : ∃ k, n = k + 1 := ⟨n - 1, by omega⟩
    have g := ih (s + 1) n (by omega) (by omega)
    obtain ⟨b, e, hb, _⟩ := tt.next (t := t) (ws := ws) h0 ho (s := s) (by omega)
    have hpl := tt.pl_in h0 ho s
    obtain ⟨pl, hx⟩ : ∃ x : Nat, tt.pl ord s = x := ⟨(tt.pl ord s).toNat, by omega⟩
    rw [hx, Int.toNat_natCast] at e
    have hlo := tt.go_length t ws ord s
    have g2 := inner p t ws ord (tt.go t ws ord s) f n s pl b hs hp ht hw v hlo (by omega) hb e (by omega) t 0 f (by omega) (by omega)
    have hm : s % ord.length < ord.length := Nat.mod_lt _ h0
    obtain ⟨sm, hsm⟩ : ∃ q, s % ord.length = q := ⟨_, rfl⟩
    rw [hsm] at hm
    have hx2 : gz ord sm = (pl : Int) := by rw [← hx, ← hsm]; rfl
    simp only [tt.go] at g
    rw [hx, Int.toNat_natCast, e, Int.toNat_natCast] at g
    simp only [tt.best] at g2
    rw [round1]
    simp -implicitDefEqProofs (disch := omega) only [← Int.ofNat_tmod, hsm, hx2, take_one, set_one, decide_eq_true, decide_eq_false, IntWalk.i64_in, beqT, beqF, bneT, bneF, nat_succ, ← Int.natCast_mul, ← Int.natCast_add, Int.toNat_natCast, Int.zero_mul, Int.zero_add, Int.add_zero, Nat.zero_add, Nat.add_zero, Nat.zero_mul, List.length_singleton, List.length_append, List.length_nil, List.length_cons, List.take_length, List.drop_zero, List.replicate_zero, List.take_nil, List.nil_append, Nat.reduceBEq, Nat.reduceMul, Nat.reduceLeDiff, eq_self, and_self, true_and, and_true, decide_true, decide_false, Bool.and_self, Bool.or_self, Bool.and_true, Bool.true_and, Bool.and_false, Bool.false_and, Bool.or_true, Bool.true_or, Bool.or_false, Bool.false_or, Bool.not_true, Bool.not_false, cond_true, cond_false]
    exact g2.trans g
theorem run : ∀ args v new, R args = some (true, v, new) → ∃ fuel, regc [1] (runFn Try.prog (orc [⟨42, iValidValues.R⟩, ⟨66, areMany.R⟩, ⟨88, iNone.R⟩, ⟨89, vOf.R⟩]) hd dr none fuel (bodyOf Try.f36) 70 [4, 5] args []) = some (v, new) := by
  intro args v new h
  unfold R at h
  split at h
  · rename_i p t ws m ord l
    simp only [Option.some.injEq, Prod.mk.injEq, Bool.and_eq_true, decide_eq_true_eq] at h
    obtain ⟨⟨⟨rfl, rfl, h1, h2⟩, hs, ho⟩, rfl, rfl⟩ := h
    have hs2 := hs
    obtain ⟨p, t, rfl, rfl, hp, ht, hw, v⟩ := vp.valid hs2
    have h48 := vp.le_48 hp.2 ht.2
    obtain ⟨F, hF⟩ : ∃ F : Nat, F = 100 := ⟨100, rfl⟩
    refine ⟨F, ?_⟩
    have ho2 : ∀ x ∈ ord, 0 ≤ x ∧ x < (p : Int) := fun x hx => by
      have := List.all_eq_true.1 ho x hx
      simp only [Bool.and_eq_true, decide_eq_true_eq] at this
      omega
    have g := loop1 p t ws ord F (by omega) hs hp ht hw v (by omega) (by omega) ho2 t 0 F (by omega) (by omega)
    rw [start]
    simp -implicitDefEqProofs (disch := omega) only [hs, ho, take_one, set_one, decide_eq_true, decide_eq_false, IntWalk.i64_in, beqT, beqF, bneT, bneF, nat_succ, ← Int.natCast_mul, ← Int.natCast_add, Int.toNat_natCast, Int.zero_mul, Int.zero_add, Int.add_zero, Nat.zero_add, Nat.add_zero, Nat.zero_mul, List.length_singleton, List.length_append, List.length_nil, List.length_cons, List.take_length, List.drop_zero, List.replicate_zero, List.take_nil, List.nil_append, Nat.reduceBEq, Nat.reduceMul, Nat.reduceLeDiff, eq_self, and_self, true_and, and_true, decide_true, decide_false, Bool.and_self, Bool.or_self, Bool.and_true, Bool.true_and, Bool.and_false, Bool.false_and, Bool.or_true, Bool.true_or, Bool.or_false, Bool.false_or, Bool.not_true, Bool.not_false, cond_true, cond_false]
    exact (congrArg (regc [1]) g).trans rfl
  · cases h
theorem ok : EntOk Try.prog ⟨36, R⟩ :=
  ent_okAG (ks := [1]) mixed (A := (orc [⟨42, iValidValues.R⟩, ⟨66, areMany.R⟩, ⟨88, iNone.R⟩, ⟨89, vOf.R⟩])) (orc_ok (by simp only [List.mem_cons, List.not_mem_nil, or_false, forall_eq_or_imp, forall_eq]; exact ⟨iValidValues.ok, areMany.ok, iNone.ok, vOf.ok⟩)) Try.func36 (by kernel_rfl) (by kernel_rfl) (n := 70) (ts := [4, 5]) (hd := hd) (dr := dr) (cut := none) (by kernel_rfl) (by kernel_rfl) (by kernel_rfl) run
end iTakeTurns

namespace vEnvier
def R : List AVal → Option (Bool × AVal × List Blk)
  | [.agg [.int .i64 p, .int .i64 t, .ro (.ints .i64 ws) m 1], .int .i64 j, .ro (.ints .i64 os) l 1] => some (decide (m = ws.length ∧ l = os.length ∧ (l : Int) = t) && vp.sp p t ws, .int .i64 (er.ei.sv t.toNat ws os p.toNat j), [])
  | _ => none
def hd : Nat → Head := fun _ => ⟨[1, 2, 3, 6, 9, 10], some 1⟩
noncomputable def L (f n : Nat) (s : State) := loopAt Try.prog (orc [⟨95, vEnvy.R⟩]) hd Dr.std 0 f (bodyOf Try.f93) 0 [true, false, true] (retK Try.prog [6] 0 (some 0)) n s
theorem start (p t : Nat) (ws : List Int) (os : List Int) (j : Int) (f : Nat) :
  runFn Try.prog (orc [⟨95, vEnvy.R⟩]) hd Dr.std (some 0) f (bodyOf Try.f93) 21 [6] [.agg [.int .i64 p, .int .i64 t, .ro (.ints .i64 ws) ws.length 1], .int .i64 j, .ro (.ints .i64 os) os.length 1] []
  = (bif true && true then L f f (mkS (21 : Nat) [((1 : Nat), AVal.int IntKind.i64 j), ((2 : Nat), AVal.ro (Cont.ints IntKind.i64 os) os.length (1 : Nat)), ((3 : Nat), AVal.ptr (0 : Nat) (0 : Nat) (0 : Nat)), ((6 : Nat), AVal.int IntKind.i64 (0 : Int)), ((9 : Nat), AVal.int IntKind.i64 (↑p : Int)), ((10 : Nat), AVal.int IntKind.i64 (0 : Int))] [{ c := BC.cells [AVal.int IntKind.i64 (↑p : Int), AVal.int IntKind.i64 (↑t : Int), AVal.ro (Cont.ints IntKind.i64 ws) ws.length (1 : Nat)], ver := (0 : Nat) }]) else none) := by kernel_rfl
theorem round (p t : Nat) (ws : List Int) (os : List Int) (j : Int) (i f n : Nat) :
  L f (n + 1) (mkS 21 [(1, .int .i64 j), (2, .ro (.ints .i64 os) os.length 1), (3, .ptr 0 0 0), (6, .int .i64 0), (9, .int .i64 p), (10, .int .i64 (i : Int))] [⟨.cells [.int .i64 p, .int .i64 t, .ro (.ints .i64 ws) ws.length 1], 0⟩])
  = (bif decide ((↑i : Int) < (↑p : Int)) then bif true && true && (true && true && (true && true && true)) then bif decide (ws.length = ws.length ∧ os.length = os.length ∧ (0 : Int) ≤ (↑i : Int) ∧ (↑i : Int) < (↑p : Int) ∧ (↑os.length : Int) = (↑t : Int)) && vp.sp (↑p : Int) (↑t : Int) ws && (true && (true && (true && true)) && (true && (true && (true && true))) || true && true) then bif decide ((0 : Int) < vp.envy.sv (↑t : Int).toNat ws os (↑i : Int).toNat j) then some (AVal.int IntKind.i64 (↑i : Int), []) else L f n (mkS (21 : Nat) [((1 : Nat), AVal.int IntKind.i64 j), ((2 : Nat), AVal.ro (Cont.ints IntKind.i64 os) os.length (1 : Nat)), ((3 : Nat), AVal.ptr (0 : Nat) (0 : Nat) (0 : Nat)), ((6 : Nat), AVal.int IntKind.i64 (0 : Int)), ((9 : Nat), AVal.int IntKind.i64 (↑p : Int)), ((10 : Nat), AVal.int IntKind.i64 (IntKind.i64.wrap ((↑i : Int) + (1 : Int))))] [{ c := BC.cells [AVal.int IntKind.i64 (↑p : Int), AVal.int IntKind.i64 (↑t : Int), AVal.ro (Cont.ints IntKind.i64 ws) ws.length (1 : Nat)], ver := (0 : Nat) }]) else none else none else some (AVal.int IntKind.i64 (-1 : Int), [])) := by kernel_rfl
theorem loop (p t : Nat) (ws : List Int) (os : List Int) (j : Int) (f : Nat) (hs : vp.sp p t ws = true) (hp : 1 ≤ p ∧ p ≤ 6) (ht : 1 ≤ t ∧ t ≤ 8) (hw : ws.length = p * t) (v : ∀ x ∈ ws, 0 ≤ x ∧ x ≤ 1000) (hl : os.length = t) : ∀ (d i n : Nat), i + d = p → d < n →
    L f n (mkS 21 [(1, .int .i64 j), (2, .ro (.ints .i64 os) os.length 1), (3, .ptr 0 0 0), (6, .int .i64 0), (9, .int .i64 p), (10, .int .i64 (i : Int))] [⟨.cells [.int .i64 p, .int .i64 t, .ro (.ints .i64 ws) ws.length 1], 0⟩]) = some (.int .i64 (er.ei.go t ws os j d i), []) := by
  intro d
  induction d with
  | zero =>
    intro i n hi hn
    obtain ⟨n, rfl⟩ : ∃ k, n = k + 1 := ⟨n - 1, by omega⟩
    obtain rfl : i = p := by omega
    rw [round]
    simp -implicitDefEqProofs (disch := omega) only [take_one, set_one, decide_eq_true, decide_eq_false, IntWalk.i64_in, beqT, beqF, bneT, bneF, nat_succ, ← Int.natCast_mul, ← Int.natCast_add, Int.toNat_natCast, Int.zero_mul, Int.zero_add, Int.add_zero, Nat.zero_add, Nat.add_zero, Nat.zero_mul, List.length_singleton, List.length_append, List.length_nil, List.length_cons, List.take_length, List.drop_zero, List.replicate_zero, List.take_nil, List.nil_append, Nat.reduceBEq, Nat.reduceMul, Nat.reduceLeDiff, eq_self, and_self, true_and, and_true, decide_true, decide_false, Bool.and_self, Bool.or_self, Bool.and_true, Bool.true_and, Bool.and_false, Bool.false_and, Bool.or_true, Bool.true_or, Bool.or_false, Bool.false_or, Bool.not_true, Bool.not_false, cond_true, cond_false]
    rfl
  | succ d ih =>
    intro i n hi hn
    obtain ⟨n, rfl⟩ : ∃ k, n = k + 1 := ⟨n - 1, by omega⟩
    have g := ih (i + 1) n (by omega) (by omega)
    rw [round]
    simp only [er.ei.go]
    by_cases h1 : 0 < vp.envy.sv t ws os i j
    · simp -implicitDefEqProofs (disch := omega) only [hs, take_one, set_one, decide_eq_true, decide_eq_false, IntWalk.i64_in, beqT, beqF, bneT, bneF, nat_succ, ← Int.natCast_mul, ← Int.natCast_add, Int.toNat_natCast, Int.zero_mul, Int.zero_add, Int.add_zero, Nat.zero_add, Nat.add_zero, Nat.zero_mul, List.length_singleton, List.length_append, List.length_nil, List.length_cons, List.take_length, List.drop_zero, List.replicate_zero, List.take_nil, List.nil_append, Nat.reduceBEq, Nat.reduceMul, Nat.reduceLeDiff, eq_self, and_self, true_and, and_true, decide_true, decide_false, Bool.and_self, Bool.or_self, Bool.and_true, Bool.true_and, Bool.and_false, Bool.false_and, Bool.or_true, Bool.true_or, Bool.or_false, Bool.false_or, Bool.not_true, Bool.not_false, cond_true, cond_false]
    · simp -implicitDefEqProofs (disch := omega) only [hs, take_one, set_one, decide_eq_true, decide_eq_false, IntWalk.i64_in, beqT, beqF, bneT, bneF, nat_succ, ← Int.natCast_mul, ← Int.natCast_add, Int.toNat_natCast, Int.zero_mul, Int.zero_add, Int.add_zero, Nat.zero_add, Nat.add_zero, Nat.zero_mul, List.length_singleton, List.length_append, List.length_nil, List.length_cons, List.take_length, List.drop_zero, List.replicate_zero, List.take_nil, List.nil_append, Nat.reduceBEq, Nat.reduceMul, Nat.reduceLeDiff, eq_self, and_self, true_and, and_true, decide_true, decide_false, Bool.and_self, Bool.or_self, Bool.and_true, Bool.true_and, Bool.and_false, Bool.false_and, Bool.or_true, Bool.true_or, Bool.or_false, Bool.false_or, Bool.not_true, Bool.not_false, cond_true, cond_false]
      exact g
theorem run : ∀ args v new, R args = some (true, v, new) → ∃ fuel, runFn Try.prog (orc [⟨95, vEnvy.R⟩]) hd Dr.std (some 0) fuel (bodyOf Try.f93) 21 [6] args [] = some (v, new) := by
  intro args v new h
  unfold R at h
  split at h
  · rename_i p t ws m j os l
    simp only [Option.some.injEq, Prod.mk.injEq, Bool.and_eq_true, decide_eq_true_eq] at h
    obtain ⟨⟨⟨rfl, rfl, h3⟩, hs⟩, rfl, rfl⟩ := h
    have hs2 := hs
    obtain ⟨p, t, rfl, rfl, hp, ht, hw, v⟩ := vp.valid hs2
    have h48 := vp.le_48 hp.2 ht.2
    obtain ⟨F, hF⟩ : ∃ F : Nat, F = 100 := ⟨100, rfl⟩
    refine ⟨F, ?_⟩
    rw [start]
    simp -implicitDefEqProofs (disch := omega) only [take_one, set_one, decide_eq_true, decide_eq_false, IntWalk.i64_in, beqT, beqF, bneT, bneF, nat_succ, ← Int.natCast_mul, ← Int.natCast_add, Int.toNat_natCast, Int.zero_mul, Int.zero_add, Int.add_zero, Nat.zero_add, Nat.add_zero, Nat.zero_mul, List.length_singleton, List.length_append, List.length_nil, List.length_cons, List.take_length, List.drop_zero, List.replicate_zero, List.take_nil, List.nil_append, Nat.reduceBEq, Nat.reduceMul, Nat.reduceLeDiff, eq_self, and_self, true_and, and_true, decide_true, decide_false, Bool.and_self, Bool.or_self, Bool.and_true, Bool.true_and, Bool.and_false, Bool.false_and, Bool.or_true, Bool.true_or, Bool.or_false, Bool.false_or, Bool.not_true, Bool.not_false, cond_true, cond_false]
    exact loop p t ws os j F hs hp ht hw v (by omega) p 0 F (by omega) (by omega)
  · cases h
theorem ok : EntOk Try.prog ⟨93, R⟩ :=
  ent_okA mixed (A := (orc [⟨95, vEnvy.R⟩])) (orc_ok (by simp only [List.mem_cons, List.not_mem_nil, or_false, forall_eq_or_imp, forall_eq]; exact vEnvy.ok)) Try.func93 (by kernel_rfl) (by kernel_rfl) (n := 21) (ts := [6]) (hd := hd) (dr := Dr.std) (cut := (some 0)) (by kernel_rfl) (by kernel_rfl) (by kernel_rfl) run
end vEnvier

namespace envy1
def R : List AVal → Option (Bool × AVal × List Blk)
  | [.int .i64 j, .rom [.int .i64 p, .int .i64 t, .ro (.ints .i64 ws) m 1] 0, .rom [.ro (.ints .i64 os) l 1] 0] => some (decide (m = ws.length ∧ l = os.length ∧ (l : Int) = t ∧ 0 ≤ j) && vp.sp p t ws, .bool (er.fr.sp t.toNat ws os p.toNat j.toNat), [])
  | _ => none
theorem go (p t : Int) (ws : List Int) (m : Nat) (j : Int) (os : List Int) (l : Nat) :
  runFn Try.prog (orc [⟨93, vEnvier.R⟩]) hd0 Dr.std none 0 (bodyOf Try.f92) 10 [4] [.int .i64 j, .rom [.int .i64 p, .int .i64 t, .ro (.ints .i64 ws) m 1] 0, .rom [.ro (.ints .i64 os) l 1] 0] []
  = (bif decide (m = ws.length ∧ l = os.length ∧ (↑l : Int) = t) && vp.sp p t ws && (true && (true && (true && true)) && (true && (true && true)) || true && true) then some (AVal.bool (decide (er.ei.sv t.toNat ws os p.toNat j < (0 : Int))), []) else none) := by kernel_rfl
theorem run : ∀ args v new, R args = some (true, v, new) → ∃ fuel, runFn Try.prog (orc [⟨93, vEnvier.R⟩]) hd0 Dr.std none fuel (bodyOf Try.f92) 10 [4] args [] = some (v, new) := by
  intro args v new h
  unfold R at h
  split at h
  · rename_i j p t ws m os l
    simp only [Option.some.injEq, Prod.mk.injEq, Bool.and_eq_true, decide_eq_true_eq] at h
    obtain ⟨⟨⟨rfl, rfl, h3, h4⟩, hs⟩, rfl, rfl⟩ := h
    obtain ⟨j, rfl⟩ : ∃ q : Nat, j = q := ⟨j.toNat, by omega⟩
    refine ⟨0, ?_⟩
    rw [go]
    unfold er.fr.sp
    simp -implicitDefEqProofs (disch := omega) only [hs, take_one, set_one, decide_eq_true, decide_eq_false, IntWalk.i64_in, beqT, beqF, bneT, bneF, nat_succ, ← Int.natCast_mul, ← Int.natCast_add, Int.toNat_natCast, Int.zero_mul, Int.zero_add, Int.add_zero, Nat.zero_add, Nat.add_zero, Nat.zero_mul, List.length_singleton, List.length_append, List.length_nil, List.length_cons, List.take_length, List.drop_zero, List.replicate_zero, List.take_nil, List.nil_append, Nat.reduceBEq, Nat.reduceMul, Nat.reduceLeDiff, eq_self, and_self, true_and, and_true, decide_true, decide_false, Bool.and_self, Bool.or_self, Bool.and_true, Bool.true_and, Bool.and_false, Bool.false_and, Bool.or_true, Bool.true_or, Bool.or_false, Bool.false_or, Bool.not_true, Bool.not_false, cond_true, cond_false]
  · cases h
theorem ok : EntOk Try.prog ⟨92, R⟩ :=
  ent_okA mixed (A := (orc [⟨93, vEnvier.R⟩])) (orc_ok (by simp only [List.mem_cons, List.not_mem_nil, or_false, forall_eq_or_imp, forall_eq]; exact vEnvier.ok)) Try.func92 (by kernel_rfl) (by kernel_rfl) (n := 10) (ts := [4]) (hd := hd0) (dr := Dr.std) (cut := none) (by kernel_rfl) (by kernel_rfl) (by kernel_rfl) run
end envy1

namespace envyIdx
def R : List AVal → Option (Bool × AVal × List Blk)
  | [.ro (.ints .i64 zs) n0 1, .fn ff [.rom [.int .i64 p, .int .i64 t, .ro (.ints .i64 ws) m 1] 0, .rom [.ro (.ints .i64 os) l 1] 0]] => some (decide (m = ws.length ∧ l = os.length ∧ (l : Int) = t ∧ (n0 : Int) = p ∧ zs = cq.sv p.toNat ∧ ff = 92) && vp.sp p t ws, .int .i64 (er.free.sv t.toNat ws os p.toNat), [])
  | _ => none
def hd : Nat → Head := fun _ => ⟨[0, 1, 4, 7, 8], none⟩
noncomputable def L (f n : Nat) (s : State) := loopAt Try.prog (orc [⟨92, envy1.R⟩]) hd Dr.std 0 f (bodyOf Try.f90) 0 [true, false, true] (retK Try.prog [4] 0 none) n s
theorem start (p t : Nat) (ws : List Int) (os zs : List Int) (n0 f : Nat) :
  runFn Try.prog (orc [⟨92, envy1.R⟩]) hd Dr.std none f (bodyOf Try.f90) 19 [4] [.ro (.ints .i64 zs) n0 1, .fn 92 [.rom [.int .i64 p, .int .i64 t, .ro (.ints .i64 ws) ws.length 1] 0, .rom [.ro (.ints .i64 os) os.length 1] 0]] []
  = (L f f (mkS (19 : Nat) [((0 : Nat), AVal.ro (Cont.ints IntKind.i64 zs) n0 (1 : Nat)), ((1 : Nat), AVal.fn (92 : Nat) [AVal.rom [AVal.int IntKind.i64 (↑p : Int), AVal.int IntKind.i64 (↑t : Int), AVal.ro (Cont.ints IntKind.i64 ws) ws.length (1 : Nat)] (0 : Nat), AVal.rom [AVal.ro (Cont.ints IntKind.i64 os) os.length (1 : Nat)] (0 : Nat)]), ((4 : Nat), AVal.int IntKind.i64 (0 : Int)), ((7 : Nat), AVal.int IntKind.i64 (↑n0 : Int)), ((8 : Nat), AVal.int IntKind.i64 (0 : Int))] [])) := by kernel_rfl
theorem round (p t : Nat) (ws : List Int) (os zs : List Int) (n0 i f n : Nat) :
  L f (n + 1) (mkS 19 [(0, .ro (.ints .i64 zs) n0 1), (1, .fn 92 [.rom [.int .i64 p, .int .i64 t, .ro (.ints .i64 ws) ws.length 1] 0, .rom [.ro (.ints .i64 os) os.length 1] 0]), (4, .int .i64 0), (7, .int .i64 n0), (8, .int .i64 (i : Int))] [])
  = (bif decide ((↑i : Int) < (↑n0 : Int)) then bif true && (decide ((0 : Int) ≤ (↑i : Int)) && decide ((↑i : Int) < (↑n0 : Int))) then bif decide ((↑i : Int).toNat < zs.length) then bif decide (ws.length = ws.length ∧ os.length = os.length ∧ (↑os.length : Int) = (↑t : Int) ∧ (0 : Int) ≤ gz zs (↑i : Int).toNat) && vp.sp (↑p : Int) (↑t : Int) ws && (true && (true && (true && (true && true)) && (true && true && true)) || true && true) then bif er.fr.sp (↑t : Int).toNat ws os (↑p : Int).toNat (gz zs (↑i : Int).toNat).toNat then some (AVal.int IntKind.i64 (↑i : Int), []) else L f n (mkS (19 : Nat) [((0 : Nat), AVal.ro (Cont.ints IntKind.i64 zs) n0 (1 : Nat)), ((1 : Nat), AVal.fn (92 : Nat) [AVal.rom [AVal.int IntKind.i64 (↑p : Int), AVal.int IntKind.i64 (↑t : Int), AVal.ro (Cont.ints IntKind.i64 ws) ws.length (1 : Nat)] (0 : Nat), AVal.rom [AVal.ro (Cont.ints IntKind.i64 os) os.length (1 : Nat)] (0 : Nat)]), ((4 : Nat), AVal.int IntKind.i64 (0 : Int)), ((7 : Nat), AVal.int IntKind.i64 (↑n0 : Int)), ((8 : Nat), AVal.int IntKind.i64 (IntKind.i64.wrap ((↑i : Int) + (1 : Int))))] []) else none else none else none else some (AVal.int IntKind.i64 (-1 : Int), [])) := by kernel_rfl
theorem loop (p t : Nat) (ws : List Int) (os zs : List Int) (f : Nat) (hs : vp.sp p t ws = true) (hp : 1 ≤ p ∧ p ≤ 6) (ht : 1 ≤ t ∧ t ≤ 8) (hw : ws.length = p * t) (v : ∀ x ∈ ws, 0 ≤ x ∧ x ≤ 1000) (hl : os.length = t) (hz : zs = cq.sv p) : ∀ (d i n : Nat), i + d = p → d < n →
    L f n (mkS 19 [(0, .ro (.ints .i64 zs) p 1), (1, .fn 92 [.rom [.int .i64 p, .int .i64 t, .ro (.ints .i64 ws) ws.length 1] 0, .rom [.ro (.ints .i64 os) os.length 1] 0]), (4, .int .i64 0), (7, .int .i64 p), (8, .int .i64 (i : Int))] []) = some (.int .i64 (fidx.sq (er.fr.sp t ws os p) ((List.range p).drop i) i), []) := by
  have lz : zs.length = p := by rw [hz, cq.sv_length]
  intro d
  induction d with
  | zero =>
    intro i n hi hn
    obtain ⟨n, rfl⟩ : ∃ k, n = k + 1 := ⟨n - 1, by omega⟩
    obtain rfl : i = p := by omega
    have e : (List.range i).drop i = [] := List.drop_of_length_le (by simp)
    rw [round, e]
    simp -implicitDefEqProofs (disch := omega) only [take_one, set_one, decide_eq_true, decide_eq_false, IntWalk.i64_in, beqT, beqF, bneT, bneF, nat_succ, ← Int.natCast_mul, ← Int.natCast_add, Int.toNat_natCast, Int.zero_mul, Int.zero_add, Int.add_zero, Nat.zero_add, Nat.add_zero, Nat.zero_mul, List.length_singleton, List.length_append, List.length_nil, List.length_cons, List.take_length, List.drop_zero, List.replicate_zero, List.take_nil, List.nil_append, Nat.reduceBEq, Nat.reduceMul, Nat.reduceLeDiff, eq_self, and_self, true_and, and_true, decide_true, decide_false, Bool.and_self, Bool.or_self, Bool.and_true, Bool.true_and, Bool.and_false, Bool.false_and, Bool.or_true, Bool.true_or, Bool.or_false, Bool.false_or, Bool.not_true, Bool.not_false, cond_true, cond_false]
    rfl
  | succ d ih =>
    intro i n hi hn
    obtain ⟨n, rfl⟩ : ∃ k, n = k + 1 := ⟨n - 1, by omega⟩
    have hip : i < p := by omega
    have g := ih (i + 1) n (by omega) (by omega)
    have hg : gz zs i = (i : Int) := by rw [hz, gz_eq (by rw [cq.sv_length]; exact hip)]; simp [cq.sv]
    have hd : (List.range p).drop i = i :: (List.range p).drop (i + 1) := by
      rw [List.drop_eq_getElem_cons (by simp; omega)]; simp
    rw [round, hd]
    simp only [fidx.sq]
    simp -implicitDefEqProofs (disch := omega) only [hs, hg, take_one, set_one, decide_eq_true, decide_eq_false, IntWalk.i64_in, beqT, beqF, bneT, bneF, nat_succ, ← Int.natCast_mul, ← Int.natCast_add, Int.toNat_natCast, Int.zero_mul, Int.zero_add, Int.add_zero, Nat.zero_add, Nat.add_zero, Nat.zero_mul, List.length_singleton, List.length_append, List.length_nil, List.length_cons, List.take_length, List.drop_zero, List.replicate_zero, List.take_nil, List.nil_append, Nat.reduceBEq, Nat.reduceMul, Nat.reduceLeDiff, eq_self, and_self, true_and, and_true, decide_true, decide_false, Bool.and_self, Bool.or_self, Bool.and_true, Bool.true_and, Bool.and_false, Bool.false_and, Bool.or_true, Bool.true_or, Bool.or_false, Bool.false_or, Bool.not_true, Bool.not_false, cond_true, cond_false]
    rw [g]
    cases er.fr.sp t ws os p i <;> rfl
theorem run : ∀ args v new, R args = some (true, v, new) → ∃ fuel, runFn Try.prog (orc [⟨92, envy1.R⟩]) hd Dr.std none fuel (bodyOf Try.f90) 19 [4] args [] = some (v, new) := by
  intro args v new h
  unfold R at h
  split at h
  · rename_i zs n0 ff p t ws m os l
    simp only [Option.some.injEq, Prod.mk.injEq, Bool.and_eq_true, decide_eq_true_eq] at h
    obtain ⟨⟨⟨rfl, rfl, h3, h4, hz, rfl⟩, hs⟩, rfl, rfl⟩ := h
    have hs2 := hs
    obtain ⟨p, t, rfl, rfl, hp, ht, hw, v⟩ := vp.valid hs2
    obtain rfl : n0 = p := by omega
    rw [Int.toNat_natCast] at hz
    refine ⟨n0 + 1, ?_⟩
    have g := loop n0 t ws os zs (n0 + 1) hs hp ht hw v (by omega) hz n0 0 (n0 + 1) (by omega) (by omega)
    rw [List.drop_zero] at g
    rw [start]
    simp -implicitDefEqProofs (disch := omega) only [take_one, set_one, decide_eq_true, decide_eq_false, IntWalk.i64_in, beqT, beqF, bneT, bneF, nat_succ, ← Int.natCast_mul, ← Int.natCast_add, Int.toNat_natCast, Int.zero_mul, Int.zero_add, Int.add_zero, Nat.zero_add, Nat.add_zero, Nat.zero_mul, List.length_singleton, List.length_append, List.length_nil, List.length_cons, List.take_length, List.drop_zero, List.replicate_zero, List.take_nil, List.nil_append, Nat.reduceBEq, Nat.reduceMul, Nat.reduceLeDiff, eq_self, and_self, true_and, and_true, decide_true, decide_false, Bool.and_self, Bool.or_self, Bool.and_true, Bool.true_and, Bool.and_false, Bool.false_and, Bool.or_true, Bool.true_or, Bool.or_false, Bool.false_or, Bool.not_true, Bool.not_false, cond_true, cond_false]
    exact g
  · cases h
theorem ok : EntOk Try.prog ⟨90, R⟩ :=
  ent_okA mixed (A := (orc [⟨92, envy1.R⟩])) (orc_ok (by simp only [List.mem_cons, List.not_mem_nil, or_false, forall_eq_or_imp, forall_eq]; exact envy1.ok)) Try.func90 (by kernel_rfl) (by kernel_rfl) (n := 19) (ts := [4]) (hd := hd) (dr := Dr.std) (cut := none) (by kernel_rfl) (by kernel_rfl) (by kernel_rfl) run
end envyIdx

namespace slIndexQ
def R : List AVal → Option (Bool × AVal × List Blk)
  | [.ro (.ints .i64 xs) m 1, .int .i64 v] => some (decide (m ≤ xs.length ∧ m ≤ 4611686018427387904), .int .i64 (fidx.sq (fun y => v == y) (xs.take m) 0), [])
  | _ => none
def hd : Nat → Head := fun _ => ⟨[0, 1, 4, 7, 8], none⟩
noncomputable def L (f n : Nat) (s : State) := loopAt Try.prog (orc []) hd Dr.std 0 f (bodyOf Try.f129) 0 [true, false, true] (retK Try.prog [4] 0 none) n s
theorem start (xs : List Int) (m : Nat) (v : Int) (f : Nat) :
  runFn Try.prog (orc []) hd Dr.std none f (bodyOf Try.f129) 19 [4] [.ro (.ints .i64 xs) m 1, .int .i64 v] []
  = (L f f (mkS (19 : Nat) [((0 : Nat), AVal.ro (Cont.ints IntKind.i64 xs) m (1 : Nat)), ((1 : Nat), AVal.int IntKind.i64 v), ((4 : Nat), AVal.int IntKind.i64 (0 : Int)), ((7 : Nat), AVal.int IntKind.i64 (↑m : Int)), ((8 : Nat), AVal.int IntKind.i64 (0 : Int))] [])) := by kernel_rfl
theorem round (xs : List Int) (m : Nat) (v : Int) (i : Nat) (f n : Nat) :
  L f (n + 1) (mkS 19 [(0, .ro (.ints .i64 xs) m 1), (1, .int .i64 v), (4, .int .i64 0), (7, .int .i64 m), (8, .int .i64 i)] [])
  = (bif decide ((↑i : Int) < (↑m : Int)) then bif true && (decide ((0 : Int) ≤ (↑i : Int)) && decide ((↑i : Int) < (↑m : Int))) then bif decide ((↑i : Int).toNat < xs.length) then bif v == gz xs (↑i : Int).toNat then some (AVal.int IntKind.i64 (↑i : Int), []) else L f n (mkS (19 : Nat) [((0 : Nat), AVal.ro (Cont.ints IntKind.i64 xs) m (1 : Nat)), ((1 : Nat), AVal.int IntKind.i64 v), ((4 : Nat), AVal.int IntKind.i64 (0 : Int)), ((7 : Nat), AVal.int IntKind.i64 (↑m : Int)), ((8 : Nat), AVal.int IntKind.i64 (IntKind.i64.wrap ((↑i : Int) + (1 : Int))))] []) else none else none else some (AVal.int IntKind.i64 (-1 : Int), [])) := by kernel_rfl
theorem loop (xs : List Int) (m : Nat) (v : Int) (f : Nat) (hx : m ≤ xs.length) (hb : m ≤ 4611686018427387904) : ∀ (d i n : Nat) , i + d = m → d < n →
    L f n (mkS 19 [(0, .ro (.ints .i64 xs) m 1), (1, .int .i64 v), (4, .int .i64 0), (7, .int .i64 m), (8, .int .i64 i)] []) = some (.int .i64 (fidx.sq (fun y => v == y) ((xs.take m).drop i) i), []) := by
  intro d
  induction d with
  | zero =>
    intro i n  hi hn 
    obtain ⟨n, rfl⟩ : ∃ k, n = k + 1 := ⟨n - 1, by omega⟩
    obtain rfl : i = m := by omega
    rw [round]
    have e : (xs.take i).drop i = [] := by simp
    rw [e]
    simp [fidx.sq]
  | succ d ih =>
    intro i n  hi hn 
    obtain ⟨n, rfl⟩ : ∃ k, n = k + 1 := ⟨n - 1, by omega⟩
    have h1 : i < m := by omega
    have h4 : (0 : Int) ≤ (i : Int) := Int.natCast_nonneg _
    have h5 : (i : Int) < (m : Int) := by omega
    have h2 : i < xs.length := by omega
    rw [round]
    rw [drop_take_cons hx h1]
    simp only [fidx.sq]
    have hr := ih (i + 1) n (by omega) (by omega)
    simp only [h4, h5, h2, gz_eq h2, decide_true, Bool.and_self, Bool.or_self, Bool.and_true, Bool.true_and, cond_true, Int.toNat_natCast, wrap_nat i (by omega)]
    rw [hr]
    cases (v == xs[i]) <;> rfl
theorem run : ∀ args v new, R args = some (true, v, new) → ∃ fuel, runFn Try.prog (orc []) hd Dr.std none fuel (bodyOf Try.f129) 19 [4] args [] = some (v, new) := by
  intro args v new h
  unfold R at h
  split at h
  · rename_i xs m v
    simp only [Option.some.injEq, Prod.mk.injEq, decide_eq_true_eq] at h
    obtain ⟨⟨h1, h2⟩, rfl, rfl⟩ := h
    refine ⟨m + 1, ?_⟩
    rw [start]
    have hl := loop xs m v (m + 1) h1 h2 m 0 (m + 1) (by omega) (by omega)
    simpa using hl
  · cases h
theorem ok : EntOk Try.prog ⟨129, R⟩ :=
  ent_okA mixed (A := (orc [])) (orc_ok (by simp)) Try.func129 (by kernel_rfl) (by kernel_rfl) (n := 19) (ts := [4]) (hd := hd) (dr := Dr.std) (cut := none) (by kernel_rfl) (by kernel_rfl) (by kernel_rfl) run
end slIndexQ

end Go.Proofs.Ytadcpdjcadnepaa.Ab
