/-
  Functions: what crowds load.
-/
import Derived.Test.YtcndnfkkofacbaaFnR
import Derived.Test.YtcndnfkkofacbaaFnD
namespace Go.Proofs.Ytcndnfkkofacbaa.Ab
open Go
set_option linter.unusedVariables false
set_option linter.unusedSimpArgs false
set_option maxRecDepth 100000

namespace markCrowd
def R : List AVal → Heap → Option (Bool × AVal × Heap)
  | [.agg [.int .i64 u, .int .i64 r, .own 0 0 mw 0 1, .own 1 0 mc 0 1], .int .i64 k], [⟨.typ (.ints .i64 ws), 0⟩, ⟨.typ (.ints .i64 cs), 0⟩] => some (decide (mw = ws.length ∧ mw ≤ 1048576 ∧ mc = cs.length ∧ mc ≤ 1048576 ∧ 0 ≤ k ∧ k ≤ 100000000), .int .i64 (k + mw + mc), [⟨.typ (.ints .i64 (marks.sv k mw)), 0⟩, ⟨.typ (.ints .i64 (marks.sv (k + mw) mc)), 0⟩])
  | _, _ => none
theorem go (u r : Int) (ws cs : List Int) (mw mc : Nat) (k : Int) :
  runFn Try.prog (orcW [⟨25, markInt64S.R⟩] []) hd0 Dr.std (some 0) 0 (bodyOf Try.f36) 14 [4] [.agg [.int .i64 u, .int .i64 r, .own 0 0 mw 0 1, .own 1 0 mc 0 1], .int .i64 k] [⟨.typ (.ints .i64 ws), 0⟩, ⟨.typ (.ints .i64 cs), 0⟩]
  = (bif true && (true && true) then bif true && true then bif decide (mw = ws.length ∧ mw ≤ (4611686018427387904 : Nat) ∧ (0 : Int) ≤ k ∧ k ≤ (1000000000 : Int)) && (true && (true && true)) then bif true && true then bif decide (mc = cs.length ∧ mc ≤ (4611686018427387904 : Nat) ∧ (0 : Int) ≤ k + (↑mw : Int) ∧ k + (↑mw : Int) ≤ (1000000000 : Int)) && (true && (true && true)) then some (AVal.int IntKind.i64 (k + (↑mw : Int) + (↑mc : Int)), [{ c := BC.typ (Cont.ints IntKind.i64 (marks.sv k mw)), ver := (0 : Nat) }, { c := BC.typ (Cont.ints IntKind.i64 (marks.sv (k + (↑mw : Int)) mc)), ver := (0 : Nat) }]) else none else none else none else none else none) := by kernel_rfl
theorem run : ∀ args H v new, R args H = some (true, v, new) → ∃ fuel, runFn Try.prog (orcW [⟨25, markInt64S.R⟩] []) hd0 Dr.std (some 0) fuel (bodyOf Try.f36) 14 [4] args H = some (v, new) := by
  intro args H v new h
  unfold R at h
  split at h
  · rename_i u r mw mc k ws cs
    simp only [Option.some.injEq, Prod.mk.injEq, decide_eq_true_eq] at h
    obtain ⟨⟨h1, h2, h3, h4, h5, h6⟩, rfl, rfl⟩ := h
    refine ⟨0, ?_⟩
    rw [go]
    have k1 : mw ≤ 4611686018427387904 := by omega
    have k2 : mc ≤ 4611686018427387904 := by omega
    have k3 : k ≤ 1000000000 := by omega
    have k4 : 0 ≤ k + (mw : Int) := by omega
    have k5 : k + (mw : Int) ≤ 1000000000 := by omega
    simp only [← h1, ← h3, k1, k2, k3, k4, k5, h5, and_self, decide_true, Bool.and_self, Bool.or_self, Bool.and_true, Bool.true_and, cond_true]
  · cases h
theorem ok : EntWOk Try.prog ⟨36, R⟩ :=
  entw_ok mixed (A := (orcW [⟨25, markInt64S.R⟩] [])) (orcW_ok (by simp only [List.mem_cons, List.not_mem_nil, or_false, forall_eq_or_imp, forall_eq]; exact markInt64S.ok) (by simp)) Try.func36 (by kernel_rfl) (by kernel_rfl) (n := 14) (ts := [4]) (hd := hd0) (dr := Dr.std) (cut := (some 0)) (by kernel_rfl) (by kernel_rfl) (by kernel_rfl) run
end markCrowd

namespace sLoadsOf_t
def R : List AVal → Option (Bool × AVal × List Blk)
  | [.agg [.int .i64 u, .int .i64 r, .ro (.ints .i64 ws) mw 1, .ro (.ints .i64 cs) mc 1], .ro (.ints .i64 xs) l 1] => some (decide (mw ≤ ws.length ∧ mw ≤ 4611686018427387904 ∧ mc ≤ cs.length ∧ mc ≤ 4611686018427387904 ∧ l ≤ xs.length ∧ l ≤ 4611686018427387904) && load.sp u r (ws.take mw) (cs.take mc) (xs.take l), .tup [.own 0 0 (load.sv r (ws.take mw) (xs.take l)).length 0 1, .bool true], [⟨.typ (.ints .i64 (load.sv r (ws.take mw) (xs.take l))), 0⟩])
  | _ => none
theorem go (u r : Int) (ws cs : List Int) (mw mc : Nat) (xs : List Int) (l : Nat) :
  runFn Try.prog (orc [⟨85, l06Can.R⟩, ⟨86, l06Loads.R⟩]) hd0 Dr.std none 0 (bodyOf Try.f34) 11 [4, 5] [.agg [.int .i64 u, .int .i64 r, .ro (.ints .i64 ws) mw 1, .ro (.ints .i64 cs) mc 1], .ro (.ints .i64 xs) l 1] []
  = (bif decide (mw ≤ ws.length ∧ mw ≤ (4611686018427387904 : Nat) ∧ mc ≤ cs.length ∧ mc ≤ (4611686018427387904 : Nat) ∧ l ≤ xs.length ∧ l ≤ (4611686018427387904 : Nat)) && (false && (true && true) || true && true) then bif !load.sp u r (List.take mw ws) (List.take mc cs) (List.take l xs) then some (AVal.tup [AVal.nils, AVal.bool false], [{ c := BC.cells [AVal.int IntKind.i64 u, AVal.int IntKind.i64 r, AVal.ro (Cont.ints IntKind.i64 ws) mw (1 : Nat), AVal.ro (Cont.ints IntKind.i64 cs) mc (1 : Nat)], ver := (0 : Nat) }]) else bif decide (mw ≤ ws.length ∧ mw ≤ (4611686018427387904 : Nat) ∧ mc ≤ cs.length ∧ mc ≤ (4611686018427387904 : Nat) ∧ l ≤ xs.length ∧ l ≤ (4611686018427387904 : Nat)) && load.sp u r (List.take mw ws) (List.take mc cs) (List.take l xs) && (false && (true && true) || true && (true && true)) then some (AVal.tup [AVal.own (1 : Nat) (0 : Nat) (load.sv r (List.take mw ws) (List.take l xs)).length (0 : Nat) (1 : Nat), AVal.bool true], [{ c := BC.cells [AVal.int IntKind.i64 u, AVal.int IntKind.i64 r, AVal.ro (Cont.ints IntKind.i64 ws) mw (1 : Nat), AVal.ro (Cont.ints IntKind.i64 cs) mc (1 : Nat)], ver := (0 : Nat) }, { c := BC.typ (Cont.ints IntKind.i64 (load.sv r (List.take mw ws) (List.take l xs))), ver := (0 : Nat) }]) else none else none) := by kernel_rfl
theorem run : ∀ args v new, R args = some (true, v, new) → ∃ fuel, regc [1] (runFn Try.prog (orc [⟨85, l06Can.R⟩, ⟨86, l06Loads.R⟩]) hd0 Dr.std none fuel (bodyOf Try.f34) 11 [4, 5] args []) = some (v, new) := by
  intro args v new h
  unfold R at h
  split at h
  · rename_i u r ws mw cs mc xs l
    simp only [Option.some.injEq, Prod.mk.injEq, Bool.and_eq_true, decide_eq_true_eq, Bool.not_eq_true'] at h
    obtain ⟨⟨⟨h1, h2, h3, h4, h5, h6⟩, hv⟩, rfl, rfl⟩ := h
    refine ⟨0, ?_⟩
    rw [go]
    simp only [h1, h2, h3, h4, h5, h6, hv, and_self, decide_true, Bool.and_self, Bool.or_self, Bool.and_true, Bool.true_and, Bool.or_true, cond_true, cond_false, Bool.not_true, Bool.not_false]
    try rfl
  · cases h
theorem ok : EntOk Try.prog ⟨34, R⟩ :=
  ent_okAG (ks := [1]) mixed (A := (orc [⟨85, l06Can.R⟩, ⟨86, l06Loads.R⟩])) (orc_ok (by simp only [List.mem_cons, List.not_mem_nil, or_false, forall_eq_or_imp, forall_eq]; exact ⟨l06Can.ok, l06Loads.ok⟩)) Try.func34 (by kernel_rfl) (by kernel_rfl) (n := 11) (ts := [4, 5]) (hd := hd0) (dr := Dr.std) (cut := none) (by kernel_rfl) (by kernel_rfl) (by kernel_rfl) run
end sLoadsOf_t

namespace sLoadsOf_f
def R : List AVal → Option (Bool × AVal × List Blk)
  | [.agg [.int .i64 u, .int .i64 r, .ro (.ints .i64 ws) mw 1, .ro (.ints .i64 cs) mc 1], .ro (.ints .i64 xs) l 1] => some (decide (mw ≤ ws.length ∧ mw ≤ 4611686018427387904 ∧ mc ≤ cs.length ∧ mc ≤ 4611686018427387904 ∧ l ≤ xs.length ∧ l ≤ 4611686018427387904) && !load.sp u r (ws.take mw) (cs.take mc) (xs.take l), .tup [.nils, .bool false], [])
  | _ => none
theorem go (u r : Int) (ws cs : List Int) (mw mc : Nat) (xs : List Int) (l : Nat) :
  runFn Try.prog (orc [⟨85, l06Can.R⟩]) hd0 Dr.std (some 0) 0 (bodyOf Try.f34) 11 [4, 5] [.agg [.int .i64 u, .int .i64 r, .ro (.ints .i64 ws) mw 1, .ro (.ints .i64 cs) mc 1], .ro (.ints .i64 xs) l 1] []
  = (bif decide (mw ≤ ws.length ∧ mw ≤ (4611686018427387904 : Nat) ∧ mc ≤ cs.length ∧ mc ≤ (4611686018427387904 : Nat) ∧ l ≤ xs.length ∧ l ≤ (4611686018427387904 : Nat)) && (false && (true && true) || true && true) then bif !load.sp u r (List.take mw ws) (List.take mc cs) (List.take l xs) then some (AVal.tup [AVal.nils, AVal.bool false], []) else none else none) := by kernel_rfl
theorem run : ∀ args v new, R args = some (true, v, new) → ∃ fuel, runFn Try.prog (orc [⟨85, l06Can.R⟩]) hd0 Dr.std (some 0) fuel (bodyOf Try.f34) 11 [4, 5] args [] = some (v, new) := by
  intro args v new h
  unfold R at h
  split at h
  · rename_i u r ws mw cs mc xs l
    simp only [Option.some.injEq, Prod.mk.injEq, Bool.and_eq_true, decide_eq_true_eq, Bool.not_eq_true'] at h
    obtain ⟨⟨⟨h1, h2, h3, h4, h5, h6⟩, hv⟩, rfl, rfl⟩ := h
    refine ⟨0, ?_⟩
    rw [go]
    simp only [h1, h2, h3, h4, h5, h6, hv, and_self, decide_true, Bool.and_self, Bool.or_self, Bool.and_true, Bool.true_and, Bool.or_true, cond_true, cond_false, Bool.not_true, Bool.not_false]
    try rfl
  · cases h
theorem ok : EntOk Try.prog ⟨34, R⟩ :=
  ent_okA mixed (A := (orc [⟨85, l06Can.R⟩])) (orc_ok (by simp only [List.mem_cons, List.not_mem_nil, or_false, forall_eq_or_imp, forall_eq]; exact l06Can.ok)) Try.func34 (by kernel_rfl) (by kernel_rfl) (n := 11) (ts := [4, 5]) (hd := hd0) (dr := Dr.std) (cut := (some 0)) (by kernel_rfl) (by kernel_rfl) (by kernel_rfl) run
end sLoadsOf_f

namespace sLoadsOf
def Rt := sLoadsOf_t.R
def Rf := sLoadsOf_f.R
theorem okt : EntOk Try.prog ⟨34, Rt⟩ := sLoadsOf_t.ok
theorem okf : EntOk Try.prog ⟨34, Rf⟩ := sLoadsOf_f.ok
end sLoadsOf

namespace iLoadsOf_t
def R : List AVal → Option (Bool × AVal × List Blk)
  | [.agg [.int .i64 u, .int .i64 r, .ro (.ints .i64 ws) mw 1, .ro (.ints .i64 cs) mc 1], .ro (.ints .i64 xs) l 1] => some (decide (mw ≤ ws.length ∧ mw ≤ 4611686018427387904 ∧ mc ≤ cs.length ∧ mc ≤ 4611686018427387904 ∧ l ≤ xs.length ∧ l ≤ 4611686018427387904) && load.sp u r (ws.take mw) (cs.take mc) (xs.take l), .tup [.own 0 0 (load.sv r (ws.take mw) (xs.take l)).length 0 1, .bool true], [⟨.typ (.ints .i64 (load.sv r (ws.take mw) (xs.take l))), 0⟩])
  | _ => none
theorem go (u r : Int) (ws cs : List Int) (mw mc : Nat) (xs : List Int) (l : Nat) :
  runFn Try.prog (orc [⟨88, chosen.R⟩, ⟨89, iLoads.R⟩]) hd0 Dr.std none 0 (bodyOf Try.f35) 13 [4, 5] [.agg [.int .i64 u, .int .i64 r, .ro (.ints .i64 ws) mw 1, .ro (.ints .i64 cs) mc 1], .ro (.ints .i64 xs) l 1] []
  = (bif true && true && (true && true && (true && true && (true && true && true))) then bif decide (mw ≤ ws.length ∧ mw ≤ (4611686018427387904 : Nat) ∧ mc ≤ cs.length ∧ mc ≤ (4611686018427387904 : Nat) ∧ l ≤ xs.length ∧ l ≤ (4611686018427387904 : Nat)) && (true && (true && (true && (true && true))) && (true && true) || true && true) then bif !load.sp u r (List.take mw ws) (List.take mc cs) (List.take l xs) then some (AVal.tup [AVal.nils, AVal.bool false], [{ c := BC.cells [AVal.int IntKind.i64 u, AVal.int IntKind.i64 r, AVal.ro (Cont.ints IntKind.i64 ws) mw (1 : Nat), AVal.ro (Cont.ints IntKind.i64 cs) mc (1 : Nat)], ver := (0 : Nat) }]) else bif true && true && (true && true && (true && true && (true && true && true))) then bif decide (mw ≤ ws.length ∧ mw ≤ (4611686018427387904 : Nat) ∧ mc ≤ cs.length ∧ mc ≤ (4611686018427387904 : Nat) ∧ l ≤ xs.length ∧ l ≤ (4611686018427387904 : Nat)) && load.sp u r (List.take mw ws) (List.take mc cs) (List.take l xs) && (true && (true && (true && (true && true))) && (true && true) || true && (true && true)) then some (AVal.tup [AVal.own (1 : Nat) (0 : Nat) (load.sv r (List.take mw ws) (List.take l xs)).length (0 : Nat) (1 : Nat), AVal.bool true], [{ c := BC.cells [AVal.int IntKind.i64 u, AVal.int IntKind.i64 r, AVal.ro (Cont.ints IntKind.i64 ws) mw (1 : Nat), AVal.ro (Cont.ints IntKind.i64 cs) mc (1 : Nat)], ver := (0 : Nat) }, { c := BC.typ (Cont.ints IntKind.i64 (load.sv r (List.take mw ws) (List.take l xs))), ver := (0 : Nat) }]) else none else none else none else none) := by kernel_rfl
theorem run : ∀ args v new, R args = some (true, v, new) → ∃ fuel, regc [1] (runFn Try.prog (orc [⟨88, chosen.R⟩, ⟨89, iLoads.R⟩]) hd0 Dr.std none fuel (bodyOf Try.f35) 13 [4, 5] args []) = some (v, new) := by
  intro args v new h
  unfold R at h
  split at h
  · rename_i u r ws mw cs mc xs l
    simp only [Option.some.injEq, Prod.mk.injEq, Bool.and_eq_true, decide_eq_true_eq, Bool.not_eq_true'] at h
    obtain ⟨⟨⟨h1, h2, h3, h4, h5, h6⟩, hv⟩, rfl, rfl⟩ := h
    refine ⟨0, ?_⟩
    rw [go]
    simp only [h1, h2, h3, h4, h5, h6, hv, and_self, decide_true, Bool.and_self, Bool.or_self, Bool.and_true, Bool.true_and, Bool.or_true, cond_true, cond_false, Bool.not_true, Bool.not_false]
    try rfl
  · cases h
theorem ok : EntOk Try.prog ⟨35, R⟩ :=
  ent_okAG (ks := [1]) mixed (A := (orc [⟨88, chosen.R⟩, ⟨89, iLoads.R⟩])) (orc_ok (by simp only [List.mem_cons, List.not_mem_nil, or_false, forall_eq_or_imp, forall_eq]; exact ⟨chosen.ok, iLoads.ok⟩)) Try.func35 (by kernel_rfl) (by kernel_rfl) (n := 13) (ts := [4, 5]) (hd := hd0) (dr := Dr.std) (cut := none) (by kernel_rfl) (by kernel_rfl) (by kernel_rfl) run
end iLoadsOf_t

namespace iLoadsOf_f
def R : List AVal → Option (Bool × AVal × List Blk)
  | [.agg [.int .i64 u, .int .i64 r, .ro (.ints .i64 ws) mw 1, .ro (.ints .i64 cs) mc 1], .ro (.ints .i64 xs) l 1] => some (decide (mw ≤ ws.length ∧ mw ≤ 4611686018427387904 ∧ mc ≤ cs.length ∧ mc ≤ 4611686018427387904 ∧ l ≤ xs.length ∧ l ≤ 4611686018427387904) && !load.sp u r (ws.take mw) (cs.take mc) (xs.take l), .tup [.nils, .bool false], [])
  | _ => none
theorem go (u r : Int) (ws cs : List Int) (mw mc : Nat) (xs : List Int) (l : Nat) :
  runFn Try.prog (orc [⟨88, chosen.R⟩]) hd0 Dr.std (some 0) 0 (bodyOf Try.f35) 13 [4, 5] [.agg [.int .i64 u, .int .i64 r, .ro (.ints .i64 ws) mw 1, .ro (.ints .i64 cs) mc 1], .ro (.ints .i64 xs) l 1] []
  = (bif true && true && (true && true && (true && true && (true && true && true))) then bif decide (mw ≤ ws.length ∧ mw ≤ (4611686018427387904 : Nat) ∧ mc ≤ cs.length ∧ mc ≤ (4611686018427387904 : Nat) ∧ l ≤ xs.length ∧ l ≤ (4611686018427387904 : Nat)) && (true && (true && (true && (true && true))) && (true && true) || true && true) then bif !load.sp u r (List.take mw ws) (List.take mc cs) (List.take l xs) then some (AVal.tup [AVal.nils, AVal.bool false], []) else bif true && true && (true && true && (true && true && (true && true && true))) then none else none else none else none) := by kernel_rfl
theorem run : ∀ args v new, R args = some (true, v, new) → ∃ fuel, runFn Try.prog (orc [⟨88, chosen.R⟩]) hd0 Dr.std (some 0) fuel (bodyOf Try.f35) 13 [4, 5] args [] = some (v, new) := by
  intro args v new h
  unfold R at h
  split at h
  · rename_i u r ws mw cs mc xs l
    simp only [Option.some.injEq, Prod.mk.injEq, Bool.and_eq_true, decide_eq_true_eq, Bool.not_eq_true'] at h
    obtain ⟨⟨⟨h1, h2, h3, h4, h5, h6⟩, hv⟩, rfl, rfl⟩ := h
    refine ⟨0, ?_⟩
    rw [go]
    simp only [h1, h2, h3, h4, h5, h6, hv, and_self, decide_true, Bool.and_self, Bool.or_self, Bool.and_true, Bool.true_and, Bool.or_true, cond_true, cond_false, Bool.not_true, Bool.not_false]
    try rfl
  · cases h
theorem ok : EntOk Try.prog ⟨35, R⟩ :=
  ent_okA mixed (A := (orc [⟨88, chosen.R⟩])) (orc_ok (by simp only [List.mem_cons, List.not_mem_nil, or_false, forall_eq_or_imp, forall_eq]; exact chosen.ok)) Try.func35 (by kernel_rfl) (by kernel_rfl) (n := 13) (ts := [4, 5]) (hd := hd0) (dr := Dr.std) (cut := (some 0)) (by kernel_rfl) (by kernel_rfl) (by kernel_rfl) run
end iLoadsOf_f

namespace iLoadsOf
def Rt := iLoadsOf_t.R
def Rf := iLoadsOf_f.R
theorem okt : EntOk Try.prog ⟨35, Rt⟩ := iLoadsOf_t.ok
theorem okf : EntOk Try.prog ⟨35, Rf⟩ := iLoadsOf_f.ok
end iLoadsOf

namespace FnExactLoadsOft
def R : List AVal → Option (Bool × AVal × List Blk)
  | [.agg [.int .i64 u, .int .i64 r, .ro (.ints .i64 ws) mw 1, .ro (.ints .i64 cs) mc 1], .ro (.ints .i64 xs) l 1] => some (decide (mw ≤ ws.length ∧ mc ≤ cs.length ∧ mw ≤ 9223372036854775807 ∧ mc ≤ 9223372036854775807 ∧ l ≤ xs.length) && (decide ((1048576 : Int) - (mw : Int) < 0 ∨ (1048576 : Int) - (mw : Int) - (mc : Int) < 0 ∨ (1048576 : Int) < (l : Int)) || (load.sp u r (ws.take mw) (cs.take mc) (xs.take l))), .bool true, [])
  | _ => none
theorem go (u r : Int) (ws cs : List Int) (mw mc : Nat) (xs : List Int) (l : Nat) :
  runFn Try.prog (orcW [⟨36, markCrowd.R⟩, ⟨25, markInt64S.R⟩] [⟨29, szCrowd.R⟩, ⟨31, toCrowd.R⟩, ⟨33, eqCrowd.R⟩, ⟨22, toInt64S.R⟩, ⟨34, sLoadsOf.Rt⟩, ⟨35, iLoadsOf.Rt⟩, ⟨24, eqInt64N.R⟩, ⟨26, heldInt64S.R⟩]) hd0 Dr.std (some 0) 0 (bodyOf Try.f6) 117 [4] [.agg [.int .i64 u, .int .i64 r, .ro (.ints .i64 ws) mw 1, .ro (.ints .i64 cs) mc 1], .ro (.ints .i64 xs) l 1] []
  = (bif decide ((1048576 : Int) < (↑l : Int)) then some (AVal.bool true, []) else bif true && true && (true && true && (true && true && (true && true && true))) then bif decide (mw ≤ (9223372036854775807 : Nat) ∧ mc ≤ (9223372036854775807 : Nat) ∧ (0 : Int) ≤ (1048576 : Int) ∧ (1048576 : Int) ≤ (9223372036854775807 : Int)) && (true && (true && (true && (true && true))) && true || true && true) then bif decide ((bif decide ((1048576 : Int) - (↑mw : Int) < (0 : Int)) then (-1 : Int) else bif decide ((1048576 : Int) - (↑mw : Int) - (↑mc : Int) < (0 : Int)) then (-1 : Int) else (1048576 : Int) - (↑mw : Int) - (↑mc : Int)) < (0 : Int)) then some (AVal.bool true, []) else bif true && true && (true && true && (true && true && (true && true && true))) then bif decide (mw ≤ ws.length ∧ mw ≤ (1048576 : Nat) ∧ mc ≤ cs.length ∧ mc ≤ (1048576 : Nat)) && (true && (true && (true && (true && true))) && true || true && (true && (true && (true && true))) && (true && (true && true))) then bif decide (l ≤ xs.length ∧ l ≤ (1048576 : Nat)) && (true && true || true && (true && true)) then bif decide (mw ≤ (List.take mw ws).length ∧ mw ≤ (4611686018427387904 : Nat) ∧ mc ≤ (List.take mc cs).length ∧ mc ≤ (4611686018427387904 : Nat) ∧ l ≤ (List.take l xs).length ∧ l ≤ (4611686018427387904 : Nat)) && load.sp u r (List.take mw (List.take mw ws)) (List.take mc (List.take mc cs)) (List.take l (List.take l xs)) && (true && (true && (false && (false && true))) && (false && true) || true && true && (true && true)) then bif true && true && (true && true && (true && true && (true && true && true))) then bif decide (mw ≤ ws.length ∧ mw ≤ (1048576 : Nat) ∧ mc ≤ cs.length ∧ mc ≤ (1048576 : Nat)) && (true && (true && (true && (true && true))) && true || true && (true && (true && (true && true))) && (true && (true && true))) then bif true && (true && (true && (true && (true && (true && true))))) then bif decide (l ≤ xs.length ∧ l ≤ (1048576 : Nat)) && (true && true || true && (true && true)) then bif true && true && (true && true && (true && true && (true && true && true))) then bif decide (mw ≤ (List.take mw ws).length ∧ mw ≤ (4611686018427387904 : Nat) ∧ mc ≤ (List.take mc cs).length ∧ mc ≤ (4611686018427387904 : Nat) ∧ l ≤ (List.take l xs).length ∧ l ≤ (4611686018427387904 : Nat)) && load.sp u r (List.take mw (List.take mw ws)) (List.take mc (List.take mc cs)) (List.take l (List.take l xs)) && (true && (true && (false && (false && true))) && (false && true) || true && true && (true && true)) then bif decide ((load.sv r (List.take mw (List.take mw ws)) (List.take l (List.take l xs))).length ≤ (load.sv r (List.take mw (List.take mw ws)) (List.take l (List.take l xs))).length ∧ (load.sv r (List.take mw (List.take mw ws)) (List.take l (List.take l xs))).length ≤ (load.sv r (List.take mw (List.take mw ws)) (List.take l (List.take l xs))).length ∧ (load.sv r (List.take mw (List.take mw ws)) (List.take l (List.take l xs))).length ≤ (4611686018427387904 : Nat)) && (false && (false && true) || true && true) then bif !decide (List.take (load.sv r (List.take mw (List.take mw ws)) (List.take l (List.take l xs))).length (load.sv r (List.take mw (List.take mw ws)) (List.take l (List.take l xs))) = List.take (load.sv r (List.take mw (List.take mw ws)) (List.take l (List.take l xs))).length (load.sv r (List.take mw (List.take mw ws)) (List.take l (List.take l xs)))) then some (AVal.bool false, []) else bif true && true && (true && true && (true && true && (true && true && true))) then bif true && true && (true && true && (true && true && (true && true && true))) then bif decide (mw ≤ ws.length ∧ mw ≤ (1048576 : Nat) ∧ mc ≤ cs.length ∧ mc ≤ (1048576 : Nat)) && (true && (true && (true && (true && true))) && true || true && (true && (true && (true && true))) && (true && (true && true))) then bif decide (mw ≤ (List.take mw ws).length ∧ mw ≤ (List.take mw ws).length ∧ mw ≤ (4611686018427387904 : Nat) ∧ mc ≤ (List.take mc cs).length ∧ mc ≤ (List.take mc cs).length ∧ mc ≤ (4611686018427387904 : Nat)) && (true && (true && (false && (false && true))) && (true && (true && (false && (false && true))) && true) || true && true) then bif !(decide (u = u) && (decide (r = r) && (decide (List.take mw (List.take mw ws) = List.take mw (List.take mw ws)) && decide (List.take mc (List.take mc cs) = List.take mc (List.take mc cs))))) then some (AVal.bool false, []) else bif decide (l ≤ xs.length ∧ l ≤ (1048576 : Nat)) && (true && true || true && (true && true)) then bif decide (l ≤ (List.take l xs).length ∧ l ≤ (List.take l xs).length ∧ l ≤ (4611686018427387904 : Nat)) && (false && (false && true) || true && true) then bif !decide (List.take l (List.take l xs) = List.take l (List.take l xs)) then some (AVal.bool false, []) else bif true && true && (true && true && (true && true && (true && true && true))) then bif decide (mw = (List.take mw ws).length ∧ mw ≤ (1048576 : Nat) ∧ mc = (List.take mc cs).length ∧ mc ≤ (1048576 : Nat) ∧ (0 : Int) ≤ (1 : Int) ∧ (1 : Int) ≤ (100000000 : Int)) && (true && (true && true) && (true && (true && true))) then bif decide (l = (List.take l xs).length ∧ l ≤ (4611686018427387904 : Nat) ∧ (0 : Int) ≤ (1 : Int) + (↑mw : Int) + (↑mc : Int) ∧ (1 : Int) + (↑mw : Int) + (↑mc : Int) ≤ (1000000000 : Int)) && (true && true && (true && true)) then bif decide ((1 : Int) + (↑mw : Int) + (↑mc : Int) + (↑l : Int) < (0 : Int)) then some (AVal.bool false, []) else bif decide ((load.sv r (List.take mw (List.take mw ws)) (List.take l (List.take l xs))).length ≤ (load.sv r (List.take mw (List.take mw ws)) (List.take l (List.take l xs))).length ∧ (load.sv r (List.take mw (List.take mw ws)) (List.take l (List.take l xs))).length ≤ (load.sv r (List.take mw (List.take mw ws)) (List.take l (List.take l xs))).length ∧ (load.sv r (List.take mw (List.take mw ws)) (List.take l (List.take l xs))).length ≤ (4611686018427387904 : Nat)) && (false && (false && true) || true && true) then bif !decide (List.take (load.sv r (List.take mw (List.take mw ws)) (List.take l (List.take l xs))).length (load.sv r (List.take mw (List.take mw ws)) (List.take l (List.take l xs))) = List.take (load.sv r (List.take mw (List.take mw ws)) (List.take l (List.take l xs))).length (load.sv r (List.take mw (List.take mw ws)) (List.take l (List.take l xs)))) then some (AVal.bool false, []) else bif decide ((load.sv r (List.take mw (List.take mw ws)) (List.take l (List.take l xs))).length = (load.sv r (List.take mw (List.take mw ws)) (List.take l (List.take l xs))).length ∧ (load.sv r (List.take mw (List.take mw ws)) (List.take l (List.take l xs))).length ≤ (4611686018427387904 : Nat) ∧ (0 : Int) ≤ (1 : Int) ∧ (1 : Int) ≤ (1000000000 : Int)) && (true && true && (true && true)) then bif decide ((load.sv r (List.take mw (List.take mw ws)) (List.take l (List.take l xs))).length ≤ (marks.sv (1 : Int) (load.sv r (List.take mw (List.take mw ws)) (List.take l (List.take l xs))).length).length ∧ (load.sv r (List.take mw (List.take mw ws)) (List.take l (List.take l xs))).length ≤ (4611686018427387904 : Nat) ∧ (0 : Int) ≤ (1 : Int) ∧ (1 : Int) ≤ (1000000000 : Int)) && (false && true || true && true) then bif decide ((bif decide (List.take (load.sv r (List.take mw (List.take mw ws)) (List.take l (List.take l xs))).length (marks.sv (1 : Int) (load.sv r (List.take mw (List.take mw ws)) (List.take l (List.take l xs))).length) = marks.sv (1 : Int) (load.sv r (List.take mw (List.take mw ws)) (List.take l (List.take l xs))).length) then (1 : Int) + (↑(load.sv r (List.take mw (List.take mw ws)) (List.take l (List.take l xs))).length : Int) else (-1 : Int)) < (0 : Int)) then some (AVal.bool false, []) else bif (bif decide (List.take (load.sv r (List.take mw (List.take mw ws)) (List.take l (List.take l xs))).length (marks.sv (1 : Int) (load.sv r (List.take mw (List.take mw ws)) (List.take l (List.take l xs))).length) = marks.sv (1 : Int) (load.sv r (List.take mw (List.take mw ws)) (List.take l (List.take l xs))).length) then (1 : Int) + (↑(load.sv r (List.take mw (List.take mw ws)) (List.take l (List.take l xs))).length : Int) else (-1 : Int)) != (1 : Int) + (↑(load.sv r (List.take mw (List.take mw ws)) (List.take l (List.take l xs))).length : Int) then some (AVal.bool false, []) else bif true && true && (true && true && (true && true && (true && true && true))) then bif decide (mw ≤ ws.length ∧ mw ≤ (1048576 : Nat) ∧ mc ≤ cs.length ∧ mc ≤ (1048576 : Nat)) && (true && (true && (true && (true && true))) && true || true && (true && (true && (true && true))) && (true && (true && true))) then bif decide (l ≤ xs.length ∧ l ≤ (1048576 : Nat)) && (true && true || true && (true && true)) then bif decide (mw ≤ (List.take mw ws).length ∧ mw ≤ (4611686018427387904 : Nat) ∧ mc ≤ (List.take mc cs).length ∧ mc ≤ (4611686018427387904 : Nat) ∧ l ≤ (List.take l xs).length ∧ l ≤ (4611686018427387904 : Nat)) && load.sp u r (List.take mw (List.take mw ws)) (List.take mc (List.take mc cs)) (List.take l (List.take l xs)) && (true && (true && (false && (false && true))) && (false && true) || true && true && (true && true)) then bif decide ((load.sv r (List.take mw (List.take mw ws)) (List.take l (List.take l xs))).length ≤ (load.sv r (List.take mw (List.take mw ws)) (List.take l (List.take l xs))).length ∧ (load.sv r (List.take mw (List.take mw ws)) (List.take l (List.take l xs))).length ≤ (load.sv r (List.take mw (List.take mw ws)) (List.take l (List.take l xs))).length ∧ (load.sv r (List.take mw (List.take mw ws)) (List.take l (List.take l xs))).length ≤ (4611686018427387904 : Nat)) && (false && (false && true) || true && true) then bif !decide (List.take (load.sv r (List.take mw (List.take mw ws)) (List.take l (List.take l xs))).length (load.sv r (List.take mw (List.take mw ws)) (List.take l (List.take l xs))) = List.take (load.sv r (List.take mw (List.take mw ws)) (List.take l (List.take l xs))).length (load.sv r (List.take mw (List.take mw ws)) (List.take l (List.take l xs)))) then some (AVal.bool false, []) else bif decide ((load.sv r (List.take mw (List.take mw ws)) (List.take l (List.take l xs))).length ≤ (marks.sv (1 : Int) (load.sv r (List.take mw (List.take mw ws)) (List.take l (List.take l xs))).length).length ∧ (load.sv r (List.take mw (List.take mw ws)) (List.take l (List.take l xs))).length ≤ (4611686018427387904 : Nat) ∧ (0 : Int) ≤ (1 : Int) ∧ (1 : Int) ≤ (1000000000 : Int)) && (false && true || true && true) then bif decide ((bif decide (List.take (load.sv r (List.take mw (List.take mw ws)) (List.take l (List.take l xs))).length (marks.sv (1 : Int) (load.sv r (List.take mw (List.take mw ws)) (List.take l (List.take l xs))).length) = marks.sv (1 : Int) (load.sv r (List.take mw (List.take mw ws)) (List.take l (List.take l xs))).length) then (1 : Int) + (↑(load.sv r (List.take mw (List.take mw ws)) (List.take l (List.take l xs))).length : Int) else (-1 : Int)) < (0 : Int)) then some (AVal.bool false, []) else bif (bif decide (List.take (load.sv r (List.take mw (List.take mw ws)) (List.take l (List.take l xs))).length (marks.sv (1 : Int) (load.sv r (List.take mw (List.take mw ws)) (List.take l (List.take l xs))).length) = marks.sv (1 : Int) (load.sv r (List.take mw (List.take mw ws)) (List.take l (List.take l xs))).length) then (1 : Int) + (↑(load.sv r (List.take mw (List.take mw ws)) (List.take l (List.take l xs))).length : Int) else (-1 : Int)) != (1 : Int) + (↑(load.sv r (List.take mw (List.take mw ws)) (List.take l (List.take l xs))).length : Int) then some (AVal.bool false, []) else some (AVal.bool true, []) else none else none else none else none else none else none else none else none else none else none else none else none else none else none else none else none else none else none else none else none else none else none else none else none else none else none else none else none else none else none else none) := by kernel_rfl
theorem run : ∀ args v new, R args = some (true, v, new) → ∃ fuel, runFn Try.prog (orcW [⟨36, markCrowd.R⟩, ⟨25, markInt64S.R⟩] [⟨29, szCrowd.R⟩, ⟨31, toCrowd.R⟩, ⟨33, eqCrowd.R⟩, ⟨22, toInt64S.R⟩, ⟨34, sLoadsOf.Rt⟩, ⟨35, iLoadsOf.Rt⟩, ⟨24, eqInt64N.R⟩, ⟨26, heldInt64S.R⟩]) hd0 Dr.std (some 0) fuel (bodyOf Try.f6) 117 [4] args [] = some (v, new) := by
  intro args v new h
  unfold R at h
  split at h
  · rename_i u r ws mw cs mc xs l
    simp only [Option.some.injEq, Prod.mk.injEq, Bool.or_eq_true, Bool.and_eq_true, decide_eq_true_eq, Bool.not_eq_true'] at h
    obtain ⟨⟨⟨h1, h2, h3, h4, h5⟩, hc⟩, rfl, rfl⟩ := h
    refine ⟨0, ?_⟩
    rw [go]
    have z1 : (0 : Int) ≤ 1048576 := by decide
    have z2 : (1048576 : Int) ≤ 9223372036854775807 := by decide
    have z3 : (-1 : Int) < 0 := by decide
    by_cases b0 : (1048576 : Int) < (l : Int)
    · simp only [b0, List.take_take, Nat.min_self, Nat.le_refl, List.take_length, marks_length, take_marks, one_neg, i0_1, i1_b, true_and, and_true, and_self, decide_true, decide_false, Bool.and_self, Bool.or_self, Bool.and_true, Bool.true_and, Bool.and_false, Bool.false_and, Bool.or_true, Bool.true_or, Bool.or_false, Bool.false_or, Bool.not_true, Bool.not_false, cond_true, cond_false, bne_self_eq_false, beq_self_eq_true]
    by_cases a1 : (1048576 : Int) - (mw : Int) < 0
    · simp only [a1, b0, h3, h4, z1, z2, z3, List.take_take, Nat.min_self, Nat.le_refl, List.take_length, marks_length, take_marks, one_neg, i0_1, i1_b, true_and, and_true, and_self, decide_true, decide_false, Bool.and_self, Bool.or_self, Bool.and_true, Bool.true_and, Bool.and_false, Bool.false_and, Bool.or_true, Bool.true_or, Bool.or_false, Bool.false_or, Bool.not_true, Bool.not_false, cond_true, cond_false, bne_self_eq_false, beq_self_eq_true]
    by_cases a2 : (1048576 : Int) - (mw : Int) - (mc : Int) < 0
    · simp only [a1, a2, b0, h3, h4, z1, z2, z3, List.take_take, Nat.min_self, Nat.le_refl, List.take_length, marks_length, take_marks, one_neg, i0_1, i1_b, true_and, and_true, and_self, decide_true, decide_false, Bool.and_self, Bool.or_self, Bool.and_true, Bool.true_and, Bool.and_false, Bool.false_and, Bool.or_true, Bool.true_or, Bool.or_false, Bool.false_or, Bool.not_true, Bool.not_false, cond_true, cond_false, bne_self_eq_false, beq_self_eq_true]
    rcases hc with hc | hc
    · exact absurd hc (by omega)
    have b1 : mw ≤ 1048576 := by omega
    have b2 : mc ≤ 1048576 := by omega
    have b5 : mw ≤ 4611686018427387904 := by omega
    have b6 : mc ≤ 4611686018427387904 := by omega
    have e1 : (ws.take mw).length = mw := by simp; omega
    have e2 : (cs.take mc).length = mc := by simp; omega
    have b7 : l ≤ 1048576 := by omega
    have b8 : l ≤ 4611686018427387904 := by omega
    have e3 : (xs.take l).length = l := by simp; omega
    have k1 : (0 : Int) ≤ 1 + (mw : Int) + (mc : Int) := by omega
    have k2 : 1 + (mw : Int) + (mc : Int) ≤ 1000000000 := by omega
    have k3 : ¬ (1 + (mw : Int) + (mc : Int) < 0) := by omega
    have k0 : (1 : Int) ≤ 100000000 := by decide
    have k4 : ¬ (1 + (mw : Int) + (mc : Int) + (l : Int) < 0) := by omega
    have o0 : (load.sv r (ws.take mw) (xs.take l)).length ≤ 4611686018427387904 := by rw [load.sv_length]; have := (load.valid hc).2.1; omega
    simp only [b0, h3, h4, z1, z2, z3, a1, a2, b1, b2, b5, b6, e1, e2, h1, h2, b7, b8, e3, h5, k0, k1, k2, k3, hc, k4, o0, List.take_take, Nat.min_self, Nat.le_refl, List.take_length, marks_length, take_marks, one_neg, i0_1, i1_b, true_and, and_true, and_self, decide_true, decide_false, Bool.and_self, Bool.or_self, Bool.and_true, Bool.true_and, Bool.and_false, Bool.false_and, Bool.or_true, Bool.true_or, Bool.or_false, Bool.false_or, Bool.not_true, Bool.not_false, cond_true, cond_false, bne_self_eq_false, beq_self_eq_true]
  · cases h
theorem ok : EntOk Try.prog ⟨6, R⟩ :=
  ent_okA mixed (A := (orcW [⟨36, markCrowd.R⟩, ⟨25, markInt64S.R⟩] [⟨29, szCrowd.R⟩, ⟨31, toCrowd.R⟩, ⟨33, eqCrowd.R⟩, ⟨22, toInt64S.R⟩, ⟨34, sLoadsOf.Rt⟩, ⟨35, iLoadsOf.Rt⟩, ⟨24, eqInt64N.R⟩, ⟨26, heldInt64S.R⟩])) (orcW_ok (by simp only [List.mem_cons, List.not_mem_nil, or_false, forall_eq_or_imp, forall_eq]; exact ⟨markCrowd.ok, markInt64S.ok⟩) (by simp only [List.mem_cons, List.not_mem_nil, or_false, forall_eq_or_imp, forall_eq]; exact ⟨szCrowd.ok, toCrowd.ok, eqCrowd.ok, toInt64S.ok, sLoadsOf.okt, iLoadsOf.okt, eqInt64N.ok, heldInt64S.ok⟩)) Try.func6 (by kernel_rfl) (by kernel_rfl) (n := 117) (ts := [4]) (hd := hd0) (dr := Dr.std) (cut := (some 0)) (by kernel_rfl) (by kernel_rfl) (by kernel_rfl) run
end FnExactLoadsOft

namespace FnExactLoadsOff
def R : List AVal → Option (Bool × AVal × List Blk)
  | [.agg [.int .i64 u, .int .i64 r, .ro (.ints .i64 ws) mw 1, .ro (.ints .i64 cs) mc 1], .ro (.ints .i64 xs) l 1] => some (decide (mw ≤ ws.length ∧ mc ≤ cs.length ∧ mw ≤ 9223372036854775807 ∧ mc ≤ 9223372036854775807 ∧ l ≤ xs.length) && (decide ((1048576 : Int) - (mw : Int) < 0 ∨ (1048576 : Int) - (mw : Int) - (mc : Int) < 0 ∨ (1048576 : Int) < (l : Int)) || !(load.sp u r (ws.take mw) (cs.take mc) (xs.take l))), .bool true, [])
  | _ => none
theorem go (u r : Int) (ws cs : List Int) (mw mc : Nat) (xs : List Int) (l : Nat) :
  runFn Try.prog (orcW [⟨36, markCrowd.R⟩, ⟨25, markInt64S.R⟩] [⟨29, szCrowd.R⟩, ⟨31, toCrowd.R⟩, ⟨33, eqCrowd.R⟩, ⟨22, toInt64S.R⟩, ⟨34, sLoadsOf.Rf⟩, ⟨35, iLoadsOf.Rf⟩, ⟨24, eqInt64N.R⟩, ⟨26, heldInt64S.R⟩]) hd0 Dr.std (some 0) 0 (bodyOf Try.f6) 117 [4] [.agg [.int .i64 u, .int .i64 r, .ro (.ints .i64 ws) mw 1, .ro (.ints .i64 cs) mc 1], .ro (.ints .i64 xs) l 1] []
  = (bif decide ((1048576 : Int) < (↑l : Int)) then some (AVal.bool true, []) else bif true && true && (true && true && (true && true && (true && true && true))) then bif decide (mw ≤ (9223372036854775807 : Nat) ∧ mc ≤ (9223372036854775807 : Nat) ∧ (0 : Int) ≤ (1048576 : Int) ∧ (1048576 : Int) ≤ (9223372036854775807 : Int)) && (true && (true && (true && (true && true))) && true || true && true) then bif decide ((bif decide ((1048576 : Int) - (↑mw : Int) < (0 : Int)) then (-1 : Int) else bif decide ((1048576 : Int) - (↑mw : Int) - (↑mc : Int) < (0 : Int)) then (-1 : Int) else (1048576 : Int) - (↑mw : Int) - (↑mc : Int)) < (0 : Int)) then some (AVal.bool true, []) else bif true && true && (true && true && (true && true && (true && true && true))) then bif decide (mw ≤ ws.length ∧ mw ≤ (1048576 : Nat) ∧ mc ≤ cs.length ∧ mc ≤ (1048576 : Nat)) && (true && (true && (true && (true && true))) && true || true && (true && (true && (true && true))) && (true && (true && true))) then bif decide (l ≤ xs.length ∧ l ≤ (1048576 : Nat)) && (true && true || true && (true && true)) then bif decide (mw ≤ (List.take mw ws).length ∧ mw ≤ (4611686018427387904 : Nat) ∧ mc ≤ (List.take mc cs).length ∧ mc ≤ (4611686018427387904 : Nat) ∧ l ≤ (List.take l xs).length ∧ l ≤ (4611686018427387904 : Nat)) && !load.sp u r (List.take mw (List.take mw ws)) (List.take mc (List.take mc cs)) (List.take l (List.take l xs)) && (true && (true && (false && (false && true))) && (false && true) || true && true) then bif true && true && (true && true && (true && true && (true && true && true))) then bif decide (mw ≤ ws.length ∧ mw ≤ (1048576 : Nat) ∧ mc ≤ cs.length ∧ mc ≤ (1048576 : Nat)) && (true && (true && (true && (true && true))) && true || true && (true && (true && (true && true))) && (true && (true && true))) then bif true && (true && (true && (true && (true && (true && true))))) then bif decide (l ≤ xs.length ∧ l ≤ (1048576 : Nat)) && (true && true || true && (true && true)) then bif true && true && (true && true && (true && true && (true && true && true))) then bif decide (mw ≤ (List.take mw ws).length ∧ mw ≤ (4611686018427387904 : Nat) ∧ mc ≤ (List.take mc cs).length ∧ mc ≤ (4611686018427387904 : Nat) ∧ l ≤ (List.take l xs).length ∧ l ≤ (4611686018427387904 : Nat)) && !load.sp u r (List.take mw (List.take mw ws)) (List.take mc (List.take mc cs)) (List.take l (List.take l xs)) && (true && (true && (false && (false && true))) && (false && true) || true && true) then bif true && true && (true && true && (true && true && (true && true && true))) then bif true && true && (true && true && (true && true && (true && true && true))) then bif decide (mw ≤ ws.length ∧ mw ≤ (1048576 : Nat) ∧ mc ≤ cs.length ∧ mc ≤ (1048576 : Nat)) && (true && (true && (true && (true && true))) && true || true && (true && (true && (true && true))) && (true && (true && true))) then bif decide (mw ≤ (List.take mw ws).length ∧ mw ≤ (List.take mw ws).length ∧ mw ≤ (4611686018427387904 : Nat) ∧ mc ≤ (List.take mc cs).length ∧ mc ≤ (List.take mc cs).length ∧ mc ≤ (4611686018427387904 : Nat)) && (true && (true && (false && (false && true))) && (true && (true && (false && (false && true))) && true) || true && true) then bif !(decide (u = u) && (decide (r = r) && (decide (List.take mw (List.take mw ws) = List.take mw (List.take mw ws)) && decide (List.take mc (List.take mc cs) = List.take mc (List.take mc cs))))) then some (AVal.bool false, []) else bif decide (l ≤ xs.length ∧ l ≤ (1048576 : Nat)) && (true && true || true && (true && true)) then bif decide (l ≤ (List.take l xs).length ∧ l ≤ (List.take l xs).length ∧ l ≤ (4611686018427387904 : Nat)) && (false && (false && true) || true && true) then bif !decide (List.take l (List.take l xs) = List.take l (List.take l xs)) then some (AVal.bool false, []) else bif true && true && (true && true && (true && true && (true && true && true))) then bif decide (mw = (List.take mw ws).length ∧ mw ≤ (1048576 : Nat) ∧ mc = (List.take mc cs).length ∧ mc ≤ (1048576 : Nat) ∧ (0 : Int) ≤ (1 : Int) ∧ (1 : Int) ≤ (100000000 : Int)) && (true && (true && true) && (true && (true && true))) then bif decide (l = (List.take l xs).length ∧ l ≤ (4611686018427387904 : Nat) ∧ (0 : Int) ≤ (1 : Int) + (↑mw : Int) + (↑mc : Int) ∧ (1 : Int) + (↑mw : Int) + (↑mc : Int) ≤ (1000000000 : Int)) && (true && true && (true && true)) then bif decide ((1 : Int) + (↑mw : Int) + (↑mc : Int) + (↑l : Int) < (0 : Int)) then some (AVal.bool false, []) else bif true && (true && true) then bif true && true && (true && true && (true && true && (true && true && true))) then bif decide (mw ≤ ws.length ∧ mw ≤ (1048576 : Nat) ∧ mc ≤ cs.length ∧ mc ≤ (1048576 : Nat)) && (true && (true && (true && (true && true))) && true || true && (true && (true && (true && true))) && (true && (true && true))) then bif decide (l ≤ xs.length ∧ l ≤ (1048576 : Nat)) && (true && true || true && (true && true)) then bif decide (mw ≤ (List.take mw ws).length ∧ mw ≤ (4611686018427387904 : Nat) ∧ mc ≤ (List.take mc cs).length ∧ mc ≤ (4611686018427387904 : Nat) ∧ l ≤ (List.take l xs).length ∧ l ≤ (4611686018427387904 : Nat)) && !load.sp u r (List.take mw (List.take mw ws)) (List.take mc (List.take mc cs)) (List.take l (List.take l xs)) && (true && (true && (false && (false && true))) && (false && true) || true && true) then some (AVal.bool true, []) else none else none else none else none else none else none else none else none else none else none else none else none else none else none else none else none else none else none else none else none else none else none else none else none else none else none) := by kernel_rfl
theorem run : ∀ args v new, R args = some (true, v, new) → ∃ fuel, runFn Try.prog (orcW [⟨36, markCrowd.R⟩, ⟨25, markInt64S.R⟩] [⟨29, szCrowd.R⟩, ⟨31, toCrowd.R⟩, ⟨33, eqCrowd.R⟩, ⟨22, toInt64S.R⟩, ⟨34, sLoadsOf.Rf⟩, ⟨35, iLoadsOf.Rf⟩, ⟨24, eqInt64N.R⟩, ⟨26, heldInt64S.R⟩]) hd0 Dr.std (some 0) fuel (bodyOf Try.f6) 117 [4] args [] = some (v, new) := by
  intro args v new h
  unfold R at h
  split at h
  · rename_i u r ws mw cs mc xs l
    simp only [Option.some.injEq, Prod.mk.injEq, Bool.or_eq_true, Bool.and_eq_true, decide_eq_true_eq, Bool.not_eq_true'] at h
    obtain ⟨⟨⟨h1, h2, h3, h4, h5⟩, hc⟩, rfl, rfl⟩ := h
    refine ⟨0, ?_⟩
    rw [go]
    have z1 : (0 : Int) ≤ 1048576 := by decide
    have z2 : (1048576 : Int) ≤ 9223372036854775807 := by decide
    have z3 : (-1 : Int) < 0 := by decide
    by_cases b0 : (1048576 : Int) < (l : Int)
    · simp only [b0, List.take_take, Nat.min_self, Nat.le_refl, List.take_length, marks_length, take_marks, one_neg, i0_1, i1_b, true_and, and_true, and_self, decide_true, decide_false, Bool.and_self, Bool.or_self, Bool.and_true, Bool.true_and, Bool.and_false, Bool.false_and, Bool.or_true, Bool.true_or, Bool.or_false, Bool.false_or, Bool.not_true, Bool.not_false, cond_true, cond_false, bne_self_eq_false, beq_self_eq_true]
    by_cases a1 : (1048576 : Int) - (mw : Int) < 0
    · simp only [a1, b0, h3, h4, z1, z2, z3, List.take_take, Nat.min_self, Nat.le_refl, List.take_length, marks_length, take_marks, one_neg, i0_1, i1_b, true_and, and_true, and_self, decide_true, decide_false, Bool.and_self, Bool.or_self, Bool.and_true, Bool.true_and, Bool.and_false, Bool.false_and, Bool.or_true, Bool.true_or, Bool.or_false, Bool.false_or, Bool.not_true, Bool.not_false, cond_true, cond_false, bne_self_eq_false, beq_self_eq_true]
    by_cases a2 : (1048576 : Int) - (mw : Int) - (mc : Int) < 0
    · simp only [a1, a2, b0, h3, h4, z1, z2, z3, List.take_take, Nat.min_self, Nat.le_refl, List.take_length, marks_length, take_marks, one_neg, i0_1, i1_b, true_and, and_true, and_self, decide_true, decide_false, Bool.and_self, Bool.or_self, Bool.and_true, Bool.true_and, Bool.and_false, Bool.false_and, Bool.or_true, Bool.true_or, Bool.or_false, Bool.false_or, Bool.not_true, Bool.not_false, cond_true, cond_false, bne_self_eq_false, beq_self_eq_true]
    rcases hc with hc | hc
    · exact absurd hc (by omega)
    have b1 : mw ≤ 1048576 := by omega
    have b2 : mc ≤ 1048576 := by omega
    have b5 : mw ≤ 4611686018427387904 := by omega
    have b6 : mc ≤ 4611686018427387904 := by omega
    have e1 : (ws.take mw).length = mw := by simp; omega
    have e2 : (cs.take mc).length = mc := by simp; omega
    have b7 : l ≤ 1048576 := by omega
    have b8 : l ≤ 4611686018427387904 := by omega
    have e3 : (xs.take l).length = l := by simp; omega
    have k1 : (0 : Int) ≤ 1 + (mw : Int) + (mc : Int) := by omega
    have k2 : 1 + (mw : Int) + (mc : Int) ≤ 1000000000 := by omega
    have k3 : ¬ (1 + (mw : Int) + (mc : Int) < 0) := by omega
    have k0 : (1 : Int) ≤ 100000000 := by decide
    have k4 : ¬ (1 + (mw : Int) + (mc : Int) + (l : Int) < 0) := by omega
    simp only [b0, h3, h4, z1, z2, z3, a1, a2, b1, b2, b5, b6, e1, e2, h1, h2, b7, b8, e3, h5, k0, k1, k2, k3, hc, k4, List.take_take, Nat.min_self, Nat.le_refl, List.take_length, marks_length, take_marks, one_neg, i0_1, i1_b, true_and, and_true, and_self, decide_true, decide_false, Bool.and_self, Bool.or_self, Bool.and_true, Bool.true_and, Bool.and_false, Bool.false_and, Bool.or_true, Bool.true_or, Bool.or_false, Bool.false_or, Bool.not_true, Bool.not_false, cond_true, cond_false, bne_self_eq_false, beq_self_eq_true]
  · cases h
theorem ok : EntOk Try.prog ⟨6, R⟩ :=
  ent_okA mixed (A := (orcW [⟨36, markCrowd.R⟩, ⟨25, markInt64S.R⟩] [⟨29, szCrowd.R⟩, ⟨31, toCrowd.R⟩, ⟨33, eqCrowd.R⟩, ⟨22, toInt64S.R⟩, ⟨34, sLoadsOf.Rf⟩, ⟨35, iLoadsOf.Rf⟩, ⟨24, eqInt64N.R⟩, ⟨26, heldInt64S.R⟩])) (orcW_ok (by simp only [List.mem_cons, List.not_mem_nil, or_false, forall_eq_or_imp, forall_eq]; exact ⟨markCrowd.ok, markInt64S.ok⟩) (by simp only [List.mem_cons, List.not_mem_nil, or_false, forall_eq_or_imp, forall_eq]; exact ⟨szCrowd.ok, toCrowd.ok, eqCrowd.ok, toInt64S.ok, sLoadsOf.okf, iLoadsOf.okf, eqInt64N.ok, heldInt64S.ok⟩)) Try.func6 (by kernel_rfl) (by kernel_rfl) (n := 117) (ts := [4]) (hd := hd0) (dr := Dr.std) (cut := (some 0)) (by kernel_rfl) (by kernel_rfl) (by kernel_rfl) run
end FnExactLoadsOff

namespace FnExactLoadsOf
def R : List AVal → Option (Bool × AVal × List Blk)
  | [.agg [.int .i64 u, .int .i64 r, .ro (.ints .i64 ws) mw 1, .ro (.ints .i64 cs) mc 1], .ro (.ints .i64 xs) l 1] => some (decide (mw ≤ ws.length ∧ mc ≤ cs.length ∧ mw ≤ 9223372036854775807 ∧ mc ≤ 9223372036854775807 ∧ l ≤ xs.length), .bool true, [])
  | _ => none
theorem ok : EntOk Try.prog ⟨6, R⟩ := by
  refine EntOk.cases FnExactLoadsOft.ok FnExactLoadsOff.ok fun args v new h => ?_
  unfold R at h
  split at h
  · rename_i u r ws mw cs mc xs l
    simp only [Option.some.injEq, Prod.mk.injEq, decide_eq_true_eq] at h
    obtain ⟨h, rfl, rfl⟩ := h
    simp only [FnExactLoadsOft.R, FnExactLoadsOff.R, Option.some.injEq, Prod.mk.injEq, Bool.or_eq_true, Bool.and_eq_true, decide_eq_true_eq, Bool.not_eq_true', and_true]
    cases hc : (load.sp u r (ws.take mw) (cs.take mc) (xs.take l) : Bool)
    · exact .inr ⟨h, .inr rfl⟩
    · exact .inl ⟨h, .inr rfl⟩
  · cases h
end FnExactLoadsOf

end Go.Proofs.Ytcndnfkkofacbaa.Ab
