/-
  Functions: the closure that keeps the best.
-/
import Derived.Test.YtgeglpommdckgaaFnOE
namespace Go.Proofs.Ytgeglpommdckgaa.Ab
open Go
set_option linter.unusedVariables false
set_option linter.unusedSimpArgs false
set_option maxRecDepth 100000

namespace clo_nil
def R : List AVal → Heap → Option (Bool × AVal × Heap)
  | [.own 0 0 m 0 1, .ptr 1 0 0, .ptr 2 0 0, .ptr 3 0 0], [⟨.typ (.ints .i64 xs), 0⟩, ⟨.cells [.int .i64 u, .int .i64 r, .ro (.ints .i64 ws) mw 1, .ro (.ints .i64 cs) mc 1], 0⟩, ⟨.cells [.nils], 0⟩, ⟨.cells [.int .i64 l], 0⟩] => some (decide (mw = ws.length ∧ mc = cs.length ∧ mw ≤ 4611686018427387904 ∧ mc ≤ 4611686018427387904 ∧ m = xs.length ∧ 0 < m ∧ m ≤ 1000) && load.sp u r ws cs xs, .tup [], [⟨.typ (.ints .i64 xs), 0⟩, ⟨.cells [.int .i64 u, .int .i64 r, .ro (.ints .i64 ws) mw 1, .ro (.ints .i64 cs) mc 1], 0⟩, ⟨.cells [.own 4 0 m 0 1], 0⟩, ⟨.cells [.int .i64 (od.T.sv u r ws cs xs)], 0⟩, ⟨.typ (.ints .i64 xs), 0⟩])
  | _, _ => none
theorem go (u r : Int) (ws cs : List Int) (xs bs : List Int) (m k : Nat) (l : Int) :
  runFn Try.prog (orc [⟨54, iTotal.R⟩, ⟨55, slClone.R⟩]) hd0 Dr.std (some 1) 0 (bodyOf Try.f53) 19 [] [.own 0 0 m 0 1, .ptr 1 0 0, .ptr 2 0 0, .ptr 3 0 0] [⟨.typ (.ints .i64 xs), 0⟩, ⟨.cells [.int .i64 u, .int .i64 r, .ro (.ints .i64 ws) ws.length 1, .ro (.ints .i64 cs) cs.length 1], 0⟩, ⟨.cells [.nils], 0⟩, ⟨.cells [.int .i64 l], 0⟩]
  = (bif true && (true && (true && (true && true))) then bif true && true && (true && true && (true && true && (true && true && true))) then bif decide (ws.length ≤ ws.length ∧ ws.length ≤ (4611686018427387904 : Nat) ∧ cs.length ≤ cs.length ∧ cs.length ≤ (4611686018427387904 : Nat) ∧ m ≤ xs.length ∧ m ≤ (4611686018427387904 : Nat)) && load.sp u r (List.take ws.length ws) (List.take cs.length cs) (List.take m xs) && (true && (true && (true && (true && true))) && (false && true) || true && true) then bif decide ((0 : Nat) < m ∧ m ≤ xs.length ∧ m ≤ (1048576 : Nat)) && (false && true || true && (true && true)) then bif true && (true && (true && true)) then bif true && (true && (true && true)) then some (AVal.tup [], [{ c := BC.typ (Cont.ints IntKind.i64 xs), ver := (0 : Nat) }, { c := BC.cells [AVal.int IntKind.i64 u, AVal.int IntKind.i64 r, AVal.ro (Cont.ints IntKind.i64 ws) ws.length (1 : Nat), AVal.ro (Cont.ints IntKind.i64 cs) cs.length (1 : Nat)], ver := (0 : Nat) }, { c := BC.cells [AVal.own ((1 : Nat) + (1 : Nat) + (1 : Nat) + (1 : Nat) + (0 : Nat)) (0 : Nat) m (0 : Nat) (1 : Nat)], ver := (0 : Nat) }, { c := BC.cells [AVal.int IntKind.i64 (sumOf.sp (pays.sv u r (List.take ws.length ws) (List.take cs.length cs) (List.take m xs)))], ver := (0 : Nat) }, { c := BC.typ (Cont.ints IntKind.i64 (List.take m xs)), ver := (0 : Nat) }]) else none else none else none else none else none else none) := by kernel_rfl
theorem run : ∀ args H v new, R args H = some (true, v, new) → ∃ fuel, runFn Try.prog (orc [⟨54, iTotal.R⟩, ⟨55, slClone.R⟩]) hd0 Dr.std (some 1) fuel (bodyOf Try.f53) 19 [] args H = some (v, new) := by
  intro args H v new h
  unfold R at h
  split at h
  · rename_i m xs u r ws mw cs mc l
    simp only [Option.some.injEq, Prod.mk.injEq, Bool.and_eq_true, decide_eq_true_eq, Bool.not_eq_true'] at h
    obtain ⟨⟨⟨rfl, rfl, h3, h4, rfl, h6, h7⟩, hv⟩, rfl, rfl⟩ := h
    refine ⟨0, ?_⟩
    have q1 : xs.length ≤ 4611686018427387904 := by omega
    have q2 : xs.length ≤ 1048576 := by omega
    have hT : sumOf.sp (pays.sv u r ws cs xs) = od.T.sv u r ws cs xs := rfl
    rw [go (bs := []) (k := 0)]
    simp -implicitDefEqProofs only [h3, h4, h6, q1, q2, hv, hT, List.take_length, Nat.le_refl, and_self, eq_self, decide_true, decide_false, Bool.and_self, Bool.or_self, Bool.and_true, Bool.true_and, Bool.and_false, Bool.false_and, Bool.or_true, Bool.true_or, Bool.or_false, Bool.false_or, Bool.not_true, Bool.not_false, cond_true, cond_false]
  · cases h
theorem ok : EntWOk Try.prog ⟨53, R⟩ :=
  entw_ok mixed (A := (orc [⟨54, iTotal.R⟩, ⟨55, slClone.R⟩])) (orc_ok (by simp only [List.mem_cons, List.not_mem_nil, or_false, forall_eq_or_imp, forall_eq]; exact ⟨iTotal.ok, slClone.ok⟩)) Try.func53 (by kernel_rfl) (by kernel_rfl) (n := 19) (ts := []) (hd := hd0) (dr := Dr.std) (cut := (some 1)) (by kernel_rfl) (by kernel_rfl) (by kernel_rfl) run
end clo_nil

namespace clo_store
def R : List AVal → Heap → Option (Bool × AVal × Heap)
  | [.own 0 0 m 0 1, .ptr 1 0 0, .ptr 2 0 0, .ptr 4 0 0], [⟨.typ (.ints .i64 xs), 0⟩, ⟨.cells [.int .i64 u, .int .i64 r, .ro (.ints .i64 ws) mw 1, .ro (.ints .i64 cs) mc 1], 0⟩, ⟨.cells [.own 3 0 k 0 1], 0⟩, ⟨.typ (.ints .i64 bs), 0⟩, ⟨.cells [.int .i64 l], 0⟩] => some (decide (mw = ws.length ∧ mc = cs.length ∧ mw ≤ 4611686018427387904 ∧ mc ≤ 4611686018427387904 ∧ m = xs.length ∧ 0 < m ∧ m ≤ 1000 ∧ k = bs.length ∧ k = m ∧ od.T.sv u r ws cs xs < l) && load.sp u r ws cs xs, .tup [], [⟨.typ (.ints .i64 xs), 0⟩, ⟨.cells [.int .i64 u, .int .i64 r, .ro (.ints .i64 ws) mw 1, .ro (.ints .i64 cs) mc 1], 0⟩, ⟨.cells [.own 5 0 m 0 1], 0⟩, ⟨.typ (.ints .i64 bs), 0⟩, ⟨.cells [.int .i64 (od.T.sv u r ws cs xs)], 0⟩, ⟨.typ (.ints .i64 xs), 0⟩])
  | _, _ => none
theorem go (u r : Int) (ws cs : List Int) (xs bs : List Int) (m k : Nat) (l : Int) :
  runFn Try.prog (orc [⟨54, iTotal.R⟩, ⟨55, slClone.R⟩]) hd0 Dr.std (some 1) 0 (bodyOf Try.f53) 19 [] [.own 0 0 m 0 1, .ptr 1 0 0, .ptr 2 0 0, .ptr 4 0 0] [⟨.typ (.ints .i64 xs), 0⟩, ⟨.cells [.int .i64 u, .int .i64 r, .ro (.ints .i64 ws) ws.length 1, .ro (.ints .i64 cs) cs.length 1], 0⟩, ⟨.cells [.own 3 0 k 0 1], 0⟩, ⟨.typ (.ints .i64 bs), 0⟩, ⟨.cells [.int .i64 l], 0⟩]
  = (bif true && (true && (true && (true && (true && true)))) then bif true && true && (true && true && (true && true && (true && true && true))) then bif decide (ws.length ≤ ws.length ∧ ws.length ≤ (4611686018427387904 : Nat) ∧ cs.length ≤ cs.length ∧ cs.length ≤ (4611686018427387904 : Nat) ∧ m ≤ xs.length ∧ m ≤ (4611686018427387904 : Nat)) && load.sp u r (List.take ws.length ws) (List.take cs.length cs) (List.take m xs) && (true && (true && (true && (true && true))) && (false && true) || true && true) then bif true && true then bif true && true then bif decide (sumOf.sp (pays.sv u r (List.take ws.length ws) (List.take cs.length cs) (List.take m xs)) < l) then bif decide ((0 : Nat) < m ∧ m ≤ xs.length ∧ m ≤ (1048576 : Nat)) && (false && true || true && (true && true)) then bif true && (true && (true && true)) then bif true && (true && (true && true)) then some (AVal.tup [], [{ c := BC.typ (Cont.ints IntKind.i64 xs), ver := (0 : Nat) }, { c := BC.cells [AVal.int IntKind.i64 u, AVal.int IntKind.i64 r, AVal.ro (Cont.ints IntKind.i64 ws) ws.length (1 : Nat), AVal.ro (Cont.ints IntKind.i64 cs) cs.length (1 : Nat)], ver := (0 : Nat) }, { c := BC.cells [AVal.own ((1 : Nat) + (1 : Nat) + (1 : Nat) + (1 : Nat) + (1 : Nat) + (0 : Nat)) (0 : Nat) m (0 : Nat) (1 : Nat)], ver := (0 : Nat) }, { c := BC.typ (Cont.ints IntKind.i64 bs), ver := (0 : Nat) }, { c := BC.cells [AVal.int IntKind.i64 (sumOf.sp (pays.sv u r (List.take ws.length ws) (List.take cs.length cs) (List.take m xs)))], ver := (0 : Nat) }, { c := BC.typ (Cont.ints IntKind.i64 (List.take m xs)), ver := (0 : Nat) }]) else none else none else none else some (AVal.tup [], [{ c := BC.typ (Cont.ints IntKind.i64 xs), ver := (0 : Nat) }, { c := BC.cells [AVal.int IntKind.i64 u, AVal.int IntKind.i64 r, AVal.ro (Cont.ints IntKind.i64 ws) ws.length (1 : Nat), AVal.ro (Cont.ints IntKind.i64 cs) cs.length (1 : Nat)], ver := (0 : Nat) }, { c := BC.cells [AVal.own (3 : Nat) (0 : Nat) k (0 : Nat) (1 : Nat)], ver := (0 : Nat) }, { c := BC.typ (Cont.ints IntKind.i64 bs), ver := (0 : Nat) }, { c := BC.cells [AVal.int IntKind.i64 l], ver := (0 : Nat) }]) else none else none else none else none else none) := by kernel_rfl
theorem run : ∀ args H v new, R args H = some (true, v, new) → ∃ fuel, runFn Try.prog (orc [⟨54, iTotal.R⟩, ⟨55, slClone.R⟩]) hd0 Dr.std (some 1) fuel (bodyOf Try.f53) 19 [] args H = some (v, new) := by
  intro args H v new h
  unfold R at h
  split at h
  · rename_i m xs u r ws mw cs mc k bs l
    simp only [Option.some.injEq, Prod.mk.injEq, Bool.and_eq_true, decide_eq_true_eq, Bool.not_eq_true'] at h
    obtain ⟨⟨⟨rfl, rfl, h3, h4, rfl, h6, h7, h8, h9, hlt⟩, hv⟩, rfl, rfl⟩ := h
    refine ⟨0, ?_⟩
    have q1 : xs.length ≤ 4611686018427387904 := by omega
    have q2 : xs.length ≤ 1048576 := by omega
    have hT : sumOf.sp (pays.sv u r ws cs xs) = od.T.sv u r ws cs xs := rfl
    rw [go]
    simp -implicitDefEqProofs only [h3, h4, h6, q1, q2, hv, hT, hlt, List.take_length, Nat.le_refl, and_self, eq_self, decide_true, decide_false, Bool.and_self, Bool.or_self, Bool.and_true, Bool.true_and, Bool.and_false, Bool.false_and, Bool.or_true, Bool.true_or, Bool.or_false, Bool.false_or, Bool.not_true, Bool.not_false, cond_true, cond_false]
  · cases h
theorem ok : EntWOk Try.prog ⟨53, R⟩ :=
  entw_ok mixed (A := (orc [⟨54, iTotal.R⟩, ⟨55, slClone.R⟩])) (orc_ok (by simp only [List.mem_cons, List.not_mem_nil, or_false, forall_eq_or_imp, forall_eq]; exact ⟨iTotal.ok, slClone.ok⟩)) Try.func53 (by kernel_rfl) (by kernel_rfl) (n := 19) (ts := []) (hd := hd0) (dr := Dr.std) (cut := (some 1)) (by kernel_rfl) (by kernel_rfl) (by kernel_rfl) run
end clo_store

namespace clo_keep
def R : List AVal → Heap → Option (Bool × AVal × Heap)
  | [.own 0 0 m 0 1, .ptr 1 0 0, .ptr 2 0 0, .ptr 4 0 0], [⟨.typ (.ints .i64 xs), 0⟩, ⟨.cells [.int .i64 u, .int .i64 r, .ro (.ints .i64 ws) mw 1, .ro (.ints .i64 cs) mc 1], 0⟩, ⟨.cells [.own 3 0 k 0 1], 0⟩, ⟨.typ (.ints .i64 bs), 0⟩, ⟨.cells [.int .i64 l], 0⟩] => some (decide (mw = ws.length ∧ mc = cs.length ∧ mw ≤ 4611686018427387904 ∧ mc ≤ 4611686018427387904 ∧ m = xs.length ∧ 0 < m ∧ m ≤ 1000 ∧ k = bs.length ∧ k = m ∧ ¬ od.T.sv u r ws cs xs < l) && load.sp u r ws cs xs, .tup [], [⟨.typ (.ints .i64 xs), 0⟩, ⟨.cells [.int .i64 u, .int .i64 r, .ro (.ints .i64 ws) mw 1, .ro (.ints .i64 cs) mc 1], 0⟩, ⟨.cells [.own 3 0 k 0 1], 0⟩, ⟨.typ (.ints .i64 bs), 0⟩, ⟨.cells [.int .i64 l], 0⟩])
  | _, _ => none
theorem go (u r : Int) (ws cs : List Int) (xs bs : List Int) (m k : Nat) (l : Int) :
  runFn Try.prog (orc [⟨54, iTotal.R⟩]) hd0 Dr.std (some 0) 0 (bodyOf Try.f53) 19 [] [.own 0 0 m 0 1, .ptr 1 0 0, .ptr 2 0 0, .ptr 4 0 0] [⟨.typ (.ints .i64 xs), 0⟩, ⟨.cells [.int .i64 u, .int .i64 r, .ro (.ints .i64 ws) ws.length 1, .ro (.ints .i64 cs) cs.length 1], 0⟩, ⟨.cells [.own 3 0 k 0 1], 0⟩, ⟨.typ (.ints .i64 bs), 0⟩, ⟨.cells [.int .i64 l], 0⟩]
  = (bif true && (true && (true && (true && (true && true)))) then bif true && true && (true && true && (true && true && (true && true && true))) then bif decide (ws.length ≤ ws.length ∧ ws.length ≤ (4611686018427387904 : Nat) ∧ cs.length ≤ cs.length ∧ cs.length ≤ (4611686018427387904 : Nat) ∧ m ≤ xs.length ∧ m ≤ (4611686018427387904 : Nat)) && load.sp u r (List.take ws.length ws) (List.take cs.length cs) (List.take m xs) && (true && (true && (true && (true && true))) && (false && true) || true && true) then bif true && true then bif true && true then bif decide (sumOf.sp (pays.sv u r (List.take ws.length ws) (List.take cs.length cs) (List.take m xs)) < l) then none else some (AVal.tup [], [{ c := BC.typ (Cont.ints IntKind.i64 xs), ver := (0 : Nat) }, { c := BC.cells [AVal.int IntKind.i64 u, AVal.int IntKind.i64 r, AVal.ro (Cont.ints IntKind.i64 ws) ws.length (1 : Nat), AVal.ro (Cont.ints IntKind.i64 cs) cs.length (1 : Nat)], ver := (0 : Nat) }, { c := BC.cells [AVal.own (3 : Nat) (0 : Nat) k (0 : Nat) (1 : Nat)], ver := (0 : Nat) }, { c := BC.typ (Cont.ints IntKind.i64 bs), ver := (0 : Nat) }, { c := BC.cells [AVal.int IntKind.i64 l], ver := (0 : Nat) }]) else none else none else none else none else none) := by kernel_rfl
theorem run : ∀ args H v new, R args H = some (true, v, new) → ∃ fuel, runFn Try.prog (orc [⟨54, iTotal.R⟩]) hd0 Dr.std (some 0) fuel (bodyOf Try.f53) 19 [] args H = some (v, new) := by
  intro args H v new h
  unfold R at h
  split at h
  · rename_i m xs u r ws mw cs mc k bs l
    simp only [Option.some.injEq, Prod.mk.injEq, Bool.and_eq_true, decide_eq_true_eq, Bool.not_eq_true'] at h
    obtain ⟨⟨⟨rfl, rfl, h3, h4, rfl, h6, h7, h8, h9, hlt⟩, hv⟩, rfl, rfl⟩ := h
    refine ⟨0, ?_⟩
    have q1 : xs.length ≤ 4611686018427387904 := by omega
    have q2 : xs.length ≤ 1048576 := by omega
    have hT : sumOf.sp (pays.sv u r ws cs xs) = od.T.sv u r ws cs xs := rfl
    rw [go]
    simp -implicitDefEqProofs only [h3, h4, h6, q1, q2, hv, hT, hlt, List.take_length, Nat.le_refl, and_self, eq_self, decide_true, decide_false, Bool.and_self, Bool.or_self, Bool.and_true, Bool.true_and, Bool.and_false, Bool.false_and, Bool.or_true, Bool.true_or, Bool.or_false, Bool.false_or, Bool.not_true, Bool.not_false, cond_true, cond_false]
  · cases h
theorem ok : EntWOk Try.prog ⟨53, R⟩ :=
  entw_ok mixed (A := (orc [⟨54, iTotal.R⟩])) (orc_ok (by simp only [List.mem_cons, List.not_mem_nil, or_false, forall_eq_or_imp, forall_eq]; exact iTotal.ok)) Try.func53 (by kernel_rfl) (by kernel_rfl) (n := 19) (ts := []) (hd := hd0) (dr := Dr.std) (cut := (some 0)) (by kernel_rfl) (by kernel_rfl) (by kernel_rfl) run
end clo_keep

namespace cloBest
def R : List AVal → Heap → Option (Bool × AVal × Heap)
  | [.own 0 0 m 0 1, .ptr 1 0 0, .ptr 2 0 0, .ptr 4 0 0], [⟨.typ (.ints .i64 xs), 0⟩, ⟨.cells [.int .i64 u, .int .i64 r, .ro (.ints .i64 ws) mw 1, .ro (.ints .i64 cs) mc 1], 0⟩, ⟨.cells [.own 3 0 k 0 1], 0⟩, ⟨.typ (.ints .i64 bs), 0⟩, ⟨.cells [.int .i64 l], 0⟩] => some (decide (mw = ws.length ∧ mc = cs.length ∧ mw ≤ 4611686018427387904 ∧ mc ≤ 4611686018427387904 ∧ m = xs.length ∧ 0 < m ∧ m ≤ 1000 ∧ k = bs.length ∧ k = m) && load.sp u r ws cs xs, .tup [], [⟨.typ (.ints .i64 xs), 0⟩, ⟨.cells [.int .i64 u, .int .i64 r, .ro (.ints .i64 ws) mw 1, .ro (.ints .i64 cs) mc 1], 0⟩, ⟨.cells [.own 3 0 m 1 1], 0⟩, ⟨.typ (.ints .i64 (od.up (od.T.sv u r ws cs) xs bs l).1), 1⟩, ⟨.cells [.int .i64 (od.up (od.T.sv u r ws cs) xs bs l).2], 0⟩])
  | _, _ => none
def Rs := reWR [0, 1, 2, 5, 4] (fun l ver => bif eqN l 5 then 1 else ver) clo_store.R
def Rk := reWR [0, 1, 2, 3, 4] (fun l ver => bif eqN l 3 then 1 else ver) clo_keep.R
theorem ok : EntWOk Try.prog ⟨53, R⟩ := by
  refine EntWOk.cases (R1 := Rs) (R2 := Rk) (clo_store.ok.reW _ _) (clo_keep.ok.reW _ _) fun args H v H' h => ?_
  unfold R at h
  split at h
  · rename_i m xs u r ws mw cs mc k bs l
    simp only [Option.some.injEq, Prod.mk.injEq, Bool.and_eq_true, decide_eq_true_eq] at h
    obtain ⟨⟨⟨rfl, rfl, h3, h4, rfl, h6, h7, rfl, h9⟩, hv⟩, rfl, rfl⟩ := h
    by_cases hlt : od.T.sv u r ws cs xs < l
    · left
      have hs : clo_store.R [.own 0 0 xs.length 0 1, .ptr 1 0 0, .ptr 2 0 0, .ptr 4 0 0] [⟨.typ (.ints .i64 xs), 0⟩, ⟨.cells [.int .i64 u, .int .i64 r, .ro (.ints .i64 ws) ws.length 1, .ro (.ints .i64 cs) cs.length 1], 0⟩, ⟨.cells [.own 3 0 bs.length 0 1], 0⟩, ⟨.typ (.ints .i64 bs), 0⟩, ⟨.cells [.int .i64 l], 0⟩] = some (true, .tup [], [⟨.typ (.ints .i64 xs), 0⟩, ⟨.cells [.int .i64 u, .int .i64 r, .ro (.ints .i64 ws) ws.length 1, .ro (.ints .i64 cs) cs.length 1], 0⟩, ⟨.cells [.own 5 0 xs.length 0 1], 0⟩, ⟨.typ (.ints .i64 bs), 0⟩, ⟨.cells [.int .i64 (od.T.sv u r ws cs xs)], 0⟩, ⟨.typ (.ints .i64 xs), 0⟩]) := by
        simp only [clo_store.R, h3, h4, h6, h7, h9, hlt, hv, and_self, decide_true, Bool.and_self]
      unfold Rs reWR
      rw [hs]
      have e : od.up (od.T.sv u r ws cs) xs bs l = (xs, od.T.sv u r ws cs xs) := by simp only [od.up, hlt, decide_true, cond_true]
      rw [e, h9]
      rfl
    · right
      have hs : clo_keep.R [.own 0 0 xs.length 0 1, .ptr 1 0 0, .ptr 2 0 0, .ptr 4 0 0] [⟨.typ (.ints .i64 xs), 0⟩, ⟨.cells [.int .i64 u, .int .i64 r, .ro (.ints .i64 ws) ws.length 1, .ro (.ints .i64 cs) cs.length 1], 0⟩, ⟨.cells [.own 3 0 bs.length 0 1], 0⟩, ⟨.typ (.ints .i64 bs), 0⟩, ⟨.cells [.int .i64 l], 0⟩] = some (true, .tup [], [⟨.typ (.ints .i64 xs), 0⟩, ⟨.cells [.int .i64 u, .int .i64 r, .ro (.ints .i64 ws) ws.length 1, .ro (.ints .i64 cs) cs.length 1], 0⟩, ⟨.cells [.own 3 0 bs.length 0 1], 0⟩, ⟨.typ (.ints .i64 bs), 0⟩, ⟨.cells [.int .i64 l], 0⟩]) := by
        simp only [clo_keep.R, h3, h4, h6, h7, h9, hlt, hv, not_false_eq_true, and_self, decide_true, Bool.and_self]
      unfold Rk reWR
      rw [hs]
      have e : od.up (od.T.sv u r ws cs) xs bs l = (bs, l) := by simp only [od.up, hlt, decide_false, cond_false]
      rw [e, h9]
      rfl
  · cases h
end cloBest
namespace leastClo
def R := orW clo_nil.R cloBest.R
theorem ok : EntWOk Try.prog ⟨53, R⟩ := clo_nil.ok.orW cloBest.ok
end leastClo

end Go.Proofs.Ytgeglpommdckgaa.Ab
