/-
  Functions: crowds with tolls, the reference.
-/
import Derived.Test.YtgeglpommdckgaaFnYB
import Derived.Test.YtgeglpommdckgaaFnE
import Derived.Test.YtgeglpommdckgaaFnI
namespace Go.Proofs.Ytgeglpommdckgaa.Ab
open Go
set_option linter.unusedVariables false
set_option linter.unusedSimpArgs false
set_option maxRecDepth 100000

namespace eqCrowdNil
def R : List AVal → Option (Bool × AVal × List Blk)
  | [.agg [.int .i64 u, .int .i64 r, .nils, .nils], .agg [.int .i64 u', .int .i64 r', .nils, .nils]] => some (decide (u = u' ∧ r = r'), .bool true, [])
  | _ => none
theorem go (u r u' r' : Int) :
  runFn Try.prog (orc [⟨19, eqNil.R⟩]) hd0 Dr.std (some 0) 0 (bodyOf Try.f13) 27 [4] [.agg [.int .i64 u, .int .i64 r, .nils, .nils], .agg [.int .i64 u', .int .i64 r', .nils, .nils]] []
  = (bif true && true then bif true && true then bif u != u' then some (AVal.bool false, []) else bif true && true then bif true && true then bif r != r' then some (AVal.bool false, []) else bif true && true then bif true && true then bif true && (true && true || true && true) then bif true && true then bif true && true then bif true && (true && true || true && true) then some (AVal.bool true, []) else none else none else none else none else none else none else none else none else none else none) := by kernel_rfl
theorem run : ∀ args v new, R args = some (true, v, new) → ∃ fuel, runFn Try.prog (orc [⟨19, eqNil.R⟩]) hd0 Dr.std (some 0) fuel (bodyOf Try.f13) 27 [4] args [] = some (v, new) := by
  intro args v new h
  unfold R at h
  split at h
  · rename_i u r u' r'
    simp only [Option.some.injEq, Prod.mk.injEq, decide_eq_true_eq] at h
    obtain ⟨⟨rfl, rfl⟩, rfl, rfl⟩ := h
    refine ⟨0, ?_⟩
    rw [go]
    simp only [bne_self_eq_false, and_self, decide_true, decide_false, Bool.and_self, Bool.or_self, Bool.and_true, Bool.or_true, Bool.true_and, Bool.false_and, cond_true, cond_false]
  · cases h
theorem ok : EntOk Try.prog ⟨13, R⟩ :=
  ent_okA mixed (A := (orc [⟨19, eqNil.R⟩])) (orc_ok (by simp only [List.mem_cons, List.not_mem_nil, or_false, forall_eq_or_imp, forall_eq]; exact eqNil.ok)) Try.func13 (by kernel_rfl) (by kernel_rfl) (n := 27) (ts := [4]) (hd := hd0) (dr := Dr.std) (cut := (some 0)) (by kernel_rfl) (by kernel_rfl) (by kernel_rfl) run
end eqCrowdNil

namespace eqCrowdN
def R := orR eqCrowd.R eqCrowdNil.R
theorem ok : EntOk Try.prog ⟨13, R⟩ := EntOk.orR eqCrowd.ok eqCrowdNil.ok
end eqCrowdN

namespace markCrowd
def R : List AVal → Heap → Option (Bool × AVal × Heap)
  | [.agg [.int .i64 u, .int .i64 r, .own 0 0 mw 0 1, .own 1 0 mc 0 1], .int .i64 k], [⟨.typ (.ints .i64 ws), 0⟩, ⟨.typ (.ints .i64 cs), 0⟩] => some (decide (mw = ws.length ∧ mw ≤ 1048576 ∧ mc = cs.length ∧ mc ≤ 1048576 ∧ 0 ≤ k ∧ k ≤ 100000000), .int .i64 (k + mw + mc), [⟨.typ (.ints .i64 (marks.sv k mw)), 0⟩, ⟨.typ (.ints .i64 (marks.sv (k + mw) mc)), 0⟩])
  | _, _ => none
theorem go (u r : Int) (ws cs : List Int) (mw mc : Nat) (k : Int) :
  runFn Try.prog (orcW [⟨20, markInt64S.R⟩] []) hd0 Dr.std (some 0) 0 (bodyOf Try.f14) 14 [4] [.agg [.int .i64 u, .int .i64 r, .own 0 0 mw 0 1, .own 1 0 mc 0 1], .int .i64 k] [⟨.typ (.ints .i64 ws), 0⟩, ⟨.typ (.ints .i64 cs), 0⟩]
  = (bif true && (true && true) then bif true && true then bif decide (mw = ws.length ∧ mw ≤ (4611686018427387904 : Nat) ∧ (0 : Int) ≤ k ∧ k ≤ (1000000000 : Int)) && (true && (true && true)) then bif true && true then bif decide (mc = cs.length ∧ mc ≤ (4611686018427387904 : Nat) ∧ (0 : Int) ≤ k + (↑mw : Int) ∧ k + (↑mw : Int) ≤ (1000000000 : Int)) && (true && (true && true)) then some (AVal.int IntKind.i64 (k + (↑mw : Int) + (↑mc : Int)), [{ c := BC.typ (Cont.ints IntKind.i64 (marks.sv k mw)), ver := (0 : Nat) }, { c := BC.typ (Cont.ints IntKind.i64 (marks.sv (k + (↑mw : Int)) mc)), ver := (0 : Nat) }]) else none else none else none else none else none) := by kernel_rfl
theorem run : ∀ args H v new, R args H = some (true, v, new) → ∃ fuel, runFn Try.prog (orcW [⟨20, markInt64S.R⟩] []) hd0 Dr.std (some 0) fuel (bodyOf Try.f14) 14 [4] args H = some (v, new) := by
  intro args H v new h
  unfold R at h
  split at h
  · rename_i u r mw mc k ws cs
    simp only [Option.some.injEq, Prod.mk.injEq, decide_eq_true_eq] at h
    obtain ⟨⟨h1, h2, h3, h4, h5, h6⟩, rfl, rfl⟩ := h
    refine ⟨0, ?_⟩
    rw [go]
    have k1 : mw ≤ 4611686018427387904 := by omega
    have k2 : mc ≤ 4611686018427387904 := by omega
    have k3 : k ≤ 1000000000 := by omega
    have k4 : 0 ≤ k + (mw : Int) := by omega
    have k5 : k + (mw : Int) ≤ 1000000000 := by omega
    simp only [← h1, ← h3, k1, k2, k3, k4, k5, h5, and_self, decide_true, Bool.and_self, Bool.or_self, Bool.and_true, Bool.true_and, cond_true]
  · cases h
theorem ok : EntWOk Try.prog ⟨14, R⟩ :=
  entw_ok mixed (A := (orcW [⟨20, markInt64S.R⟩] [])) (orcW_ok (by simp only [List.mem_cons, List.not_mem_nil, or_false, forall_eq_or_imp, forall_eq]; exact markInt64S.ok) (by simp)) Try.func14 (by kernel_rfl) (by kernel_rfl) (n := 14) (ts := [4]) (hd := hd0) (dr := Dr.std) (cut := (some 0)) (by kernel_rfl) (by kernel_rfl) (by kernel_rfl) run
end markCrowd

namespace markCrowdNil
def R : List AVal → Heap → Option (Bool × AVal × Heap)
  | [.agg [.int .i64 u, .int .i64 r, .nils, .nils], .int .i64 k], [] => some (true, .int .i64 k, [])
  | _, _ => none
theorem go (u r k : Int) :
  runFn Try.prog (orcW [⟨20, markInt64S.R⟩] []) hd0 Dr.std (some 0) 0 (bodyOf Try.f14) 14 [4] [.agg [.int .i64 u, .int .i64 r, .nils, .nils], .int .i64 k] []
  = (bif true && true then bif true && (true && true) then bif true && true then bif true && (true && true) then some (AVal.int IntKind.i64 k, []) else none else none else none else none) := by kernel_rfl
theorem run : ∀ args H v new, R args H = some (true, v, new) → ∃ fuel, runFn Try.prog (orcW [⟨20, markInt64S.R⟩] []) hd0 Dr.std (some 0) fuel (bodyOf Try.f14) 14 [4] args H = some (v, new) := by
  intro args H v new h
  unfold R at h
  split at h
  · rename_i u r k
    simp only [Option.some.injEq, Prod.mk.injEq] at h
    obtain ⟨_, rfl, rfl⟩ := h
    refine ⟨0, ?_⟩
    rw [go]
    try rfl
  · cases h
theorem ok : EntWOk Try.prog ⟨14, R⟩ :=
  entw_ok mixed (A := (orcW [⟨20, markInt64S.R⟩] [])) (orcW_ok (by simp only [List.mem_cons, List.not_mem_nil, or_false, forall_eq_or_imp, forall_eq]; exact markInt64S.ok) (by simp)) Try.func14 (by kernel_rfl) (by kernel_rfl) (n := 14) (ts := [4]) (hd := hd0) (dr := Dr.std) (cut := (some 0)) (by kernel_rfl) (by kernel_rfl) (by kernel_rfl) run
end markCrowdNil

namespace markCrowdN
def R := orW markCrowd.R markCrowdNil.R
theorem ok : EntWOk Try.prog ⟨14, R⟩ := EntWOk.orW markCrowd.ok markCrowdNil.ok
end markCrowdN

namespace heldCrowd
def R : List AVal → Option (Bool × AVal × List Blk)
  | [.agg [.int .i64 u, .int .i64 r, .ro (.ints .i64 ws) mw 1, .ro (.ints .i64 cs) mc 1], .int .i64 k] => some (decide (mw ≤ ws.length ∧ mw ≤ 1048576 ∧ mc ≤ cs.length ∧ mc ≤ 1048576 ∧ 0 ≤ k ∧ k ≤ 100000000) && (decide (ws.take mw = marks.sv k mw) && decide (cs.take mc = marks.sv (k + mw) mc)), .int .i64 (k + mw + mc), [])
  | _ => none
theorem go (u r : Int) (ws cs : List Int) (mw mc : Nat) (k : Int) :
  runFn Try.prog (orc [⟨23, heldInt64S.R⟩]) hd0 Dr.std (some 0) 0 (bodyOf Try.f15) 18 [4] [.agg [.int .i64 u, .int .i64 r, .ro (.ints .i64 ws) mw 1, .ro (.ints .i64 cs) mc 1], .int .i64 k] []
  = (bif true && true then bif decide (mw ≤ ws.length ∧ mw ≤ (4611686018427387904 : Nat) ∧ (0 : Int) ≤ k ∧ k ≤ (1000000000 : Int)) && (true && (true && true) || true && true) then bif decide ((bif decide (List.take mw ws = marks.sv k mw) then k + (↑mw : Int) else (-1 : Int)) < (0 : Int)) then some (AVal.int IntKind.i64 (-1 : Int), []) else bif true && true then bif decide (mc ≤ cs.length ∧ mc ≤ (4611686018427387904 : Nat) ∧ ((0 : Int) ≤ bif decide (List.take mw ws = marks.sv k mw) then k + (↑mw : Int) else (-1 : Int)) ∧ (bif decide (List.take mw ws = marks.sv k mw) then k + (↑mw : Int) else (-1 : Int)) ≤ (1000000000 : Int)) && (true && (true && true) || true && true) then bif decide ((bif decide (List.take mc cs = marks.sv (bif decide (List.take mw ws = marks.sv k mw) then k + (↑mw : Int) else (-1 : Int)) mc) then (bif decide (List.take mw ws = marks.sv k mw) then k + (↑mw : Int) else (-1 : Int)) + (↑mc : Int) else (-1 : Int)) < (0 : Int)) then some (AVal.int IntKind.i64 (-1 : Int), []) else some (AVal.int IntKind.i64 (bif decide (List.take mc cs = marks.sv (bif decide (List.take mw ws = marks.sv k mw) then k + (↑mw : Int) else (-1 : Int)) mc) then (bif decide (List.take mw ws = marks.sv k mw) then k + (↑mw : Int) else (-1 : Int)) + (↑mc : Int) else (-1 : Int)), []) else none else none else none else none) := by kernel_rfl
theorem run : ∀ args v new, R args = some (true, v, new) → ∃ fuel, runFn Try.prog (orc [⟨23, heldInt64S.R⟩]) hd0 Dr.std (some 0) fuel (bodyOf Try.f15) 18 [4] args [] = some (v, new) := by
  intro args v new h
  unfold R at h
  split at h
  · rename_i u r ws mw cs mc k
    simp only [Option.some.injEq, Prod.mk.injEq, Bool.and_eq_true, decide_eq_true_eq] at h
    obtain ⟨⟨⟨h1, h2, h3, h4, h5, h6⟩, h7, h8⟩, rfl, rfl⟩ := h
    refine ⟨0, ?_⟩
    rw [go]
    have k1 : mw ≤ 4611686018427387904 := by omega
    have k2 : mc ≤ 4611686018427387904 := by omega
    have k3 : k ≤ 1000000000 := by omega
    have k4 : 0 ≤ k + (mw : Int) := by omega
    have k5 : k + (mw : Int) ≤ 1000000000 := by omega
    have k6 : ¬ (k + (mw : Int) < 0) := by omega
    have k7 : ¬ (k + (mw : Int) + (mc : Int) < 0) := by omega
    have d1 : decide (ws.take mw = marks.sv k mw) = true := decide_eq_true h7
    have d2 : decide (cs.take mc = marks.sv (k + (mw : Int)) mc) = true := decide_eq_true h8
    simp only [d1, d2, h1, h3, h5, k1, k2, k3, k4, k5, k6, k7, and_self, decide_true, decide_false, Bool.and_self, Bool.or_self, Bool.and_true, Bool.or_true, Bool.true_and, Bool.false_and, cond_true, cond_false]
  · cases h
theorem ok : EntOk Try.prog ⟨15, R⟩ :=
  ent_okA mixed (A := (orc [⟨23, heldInt64S.R⟩])) (orc_ok (by simp only [List.mem_cons, List.not_mem_nil, or_false, forall_eq_or_imp, forall_eq]; exact heldInt64S.ok)) Try.func15 (by kernel_rfl) (by kernel_rfl) (n := 18) (ts := [4]) (hd := hd0) (dr := Dr.std) (cut := (some 0)) (by kernel_rfl) (by kernel_rfl) (by kernel_rfl) run
end heldCrowd

namespace heldCrowdNil
def R : List AVal → Option (Bool × AVal × List Blk)
  | [.agg [.int .i64 u, .int .i64 r, .nils, .nils], .int .i64 k] => some (decide (0 ≤ k), .int .i64 k, [])
  | _ => none
theorem go (u r k : Int) :
  runFn Try.prog (orc [⟨23, heldInt64S.R⟩]) hd0 Dr.std (some 0) 0 (bodyOf Try.f15) 18 [4] [.agg [.int .i64 u, .int .i64 r, .nils, .nils], .int .i64 k] []
  = (bif true && true then bif true && (true && (true && true) || true && true) then bif decide (k < (0 : Int)) then some (AVal.int IntKind.i64 (-1 : Int), []) else bif true && true then bif true && (true && (true && true) || true && true) then bif decide (k < (0 : Int)) then some (AVal.int IntKind.i64 (-1 : Int), []) else some (AVal.int IntKind.i64 k, []) else none else none else none else none) := by kernel_rfl
theorem run : ∀ args v new, R args = some (true, v, new) → ∃ fuel, runFn Try.prog (orc [⟨23, heldInt64S.R⟩]) hd0 Dr.std (some 0) fuel (bodyOf Try.f15) 18 [4] args [] = some (v, new) := by
  intro args v new h
  unfold R at h
  split at h
  · rename_i u r k
    simp only [Option.some.injEq, Prod.mk.injEq, decide_eq_true_eq] at h
    obtain ⟨h1, rfl, rfl⟩ := h
    refine ⟨0, ?_⟩
    rw [go]
    have k6 : ¬ (k < 0) := by omega
    simp only [k6, and_self, decide_true, decide_false, Bool.and_self, Bool.or_self, Bool.and_true, Bool.or_true, Bool.true_and, Bool.false_and, cond_true, cond_false]
  · cases h
theorem ok : EntOk Try.prog ⟨15, R⟩ :=
  ent_okA mixed (A := (orc [⟨23, heldInt64S.R⟩])) (orc_ok (by simp only [List.mem_cons, List.not_mem_nil, or_false, forall_eq_or_imp, forall_eq]; exact heldInt64S.ok)) Try.func15 (by kernel_rfl) (by kernel_rfl) (n := 18) (ts := [4]) (hd := hd0) (dr := Dr.std) (cut := (some 0)) (by kernel_rfl) (by kernel_rfl) (by kernel_rfl) run
end heldCrowdNil

namespace heldCrowdN
def R := orR heldCrowd.R heldCrowdNil.R
theorem ok : EntOk Try.prog ⟨15, R⟩ := EntOk.orR heldCrowd.ok heldCrowdNil.ok
end heldCrowdN

namespace l06Own
def dr : Nat → Dr := fun i => bif eqN i 1 then ⟨some [998, 0, 1, 2, 3, 4, 5, 6, 7, 9, 10, 11, 12, 8, 13, 14, 15, 16], false⟩ else ⟨none, false⟩
def R : List AVal → Option (Bool × AVal × List Blk)
  | [.rom [.int .i64 u, .int .i64 r, .ro (.ints .i64 ws) mw 1, .ro (.ints .i64 cs) mc 1] 0] => some (decide (mw = ws.length ∧ mc = cs.length ∧ mw ≤ 1048576 ∧ mc ≤ 1048576), .agg [.int .i64 u, .int .i64 r, .own 0 0 mw 0 1, .own 1 0 mc 0 1], [⟨.typ (.ints .i64 ws), 0⟩, ⟨.typ (.ints .i64 cs), 0⟩])
  | _ => none
theorem go (u r : Int) (ws cs : List Int) :
  regc [1, 3] (runFn Try.prog (orc []) hd0 dr none 0 (bodyOf Try.f39) 27 [.cell 2 26] [.rom [.int .i64 u, .int .i64 r, .ro (.ints .i64 ws) ws.length 1, .ro (.ints .i64 cs) cs.length 1] 0] [])
  = (match bif (1 : Nat) == (1 : Nat) && (1 : Nat) == (1 : Nat) && (true && (true && true) && (true && (decide ((0 : Nat) + (List.take ws.length ws).length ≤ (4611686018427387904 : Nat)) && decide (((0 : Nat) + (List.take ws.length ws).length) * (8 : Nat) ≤ (140737488355328 : Nat))))) then bif true && (true && (true && (true && (true && (true && true))))) then bif (1 : Nat) == (1 : Nat) && (1 : Nat) == (1 : Nat) && (true && (true && true) && (true && (decide ((0 : Nat) + (List.take cs.length cs).length ≤ (4611686018427387904 : Nat)) && decide (((0 : Nat) + (List.take cs.length cs).length) * (8 : Nat) ≤ (140737488355328 : Nat))))) then bif true && (true && (true && true)) then bif true && true && (true && true && (true && true && (true && true && true))) then bif true && (true && (true && (true && (true && (true && true))))) then bif true && true && (true && true && (true && true && (true && true && true))) && true then some (AVal.agg [AVal.int IntKind.i64 u, AVal.int IntKind.i64 r, AVal.own (1 : Nat) (0 : Nat) ((0 : Nat) + (List.take ws.length ws).length) (0 : Nat) (1 : Nat), AVal.own ((1 : Nat) + (1 : Nat) + (1 : Nat)) (0 : Nat) ((0 : Nat) + (List.take cs.length cs).length) (0 : Nat) (1 : Nat)], [{ c := BC.cells [AVal.int IntKind.i64 u, AVal.int IntKind.i64 r, AVal.own (1 : Nat) (0 : Nat) ((0 : Nat) + (List.take ws.length ws).length) (0 : Nat) (1 : Nat), AVal.own ((1 : Nat) + (1 : Nat) + (1 : Nat)) (0 : Nat) ((0 : Nat) + (List.take cs.length cs).length) (0 : Nat) (1 : Nat)], ver := (0 : Nat) }, { c := BC.typ (Cont.ints IntKind.i64 (List.take (0 : Nat) (List.replicate (0 : Nat) (0 : Int)) ++ List.take ws.length ws)), ver := (0 : Nat) }, { c := BC.cells [AVal.int IntKind.i64 u, AVal.int IntKind.i64 r, AVal.own (1 : Nat) (0 : Nat) ((0 : Nat) + (List.take ws.length ws).length) (0 : Nat) (1 : Nat), AVal.own ((1 : Nat) + (1 : Nat) + (1 : Nat)) (0 : Nat) ((0 : Nat) + (List.take cs.length cs).length) (0 : Nat) (1 : Nat)], ver := (0 : Nat) }, { c := BC.typ (Cont.ints IntKind.i64 (List.take (0 : Nat) (List.replicate (0 : Nat) (0 : Int)) ++ List.take cs.length cs)), ver := (0 : Nat) }]) else none else none else none else none else none else none else none with
| some (v, h) =>
  bif true && (ltN (1 : Nat) (hlen h) && (ltN (3 : Nat) (hlen h) && true)) then
    some
      (AVal.re [(1 : Nat), (3 : Nat)] h v,
        match nth h (1 : Nat) with
        | some b => { c := BC.re [(1 : Nat), (3 : Nat)] h b.c, ver := b.ver } :: reB [(1 : Nat), (3 : Nat)] h [(3 : Nat)]
        | none => { c := BC.cells [], ver := (0 : Nat) } :: reB [(1 : Nat), (3 : Nat)] h [(3 : Nat)])
  else none
| none => none) := by kernel_rfl
theorem run : ∀ args v new, R args = some (true, v, new) → ∃ fuel, regc [1, 3] (runFn Try.prog (orc []) hd0 dr none fuel (bodyOf Try.f39) 27 [.cell 2 26] args []) = some (v, new) := by
  intro args v new h
  unfold R at h
  split at h
  · rename_i u r ws mw cs mc
    simp only [Option.some.injEq, Prod.mk.injEq, decide_eq_true_eq] at h
    obtain ⟨⟨rfl, rfl, h3, h4⟩, rfl, rfl⟩ := h
    refine ⟨0, ?_⟩
    rw [go]
    have k1 : ws.length ≤ 4611686018427387904 := by omega
    have k2 : ws.length * 8 ≤ 140737488355328 := by omega
    have k3 : cs.length ≤ 4611686018427387904 := by omega
    have k4 : cs.length * 8 ≤ 140737488355328 := by omega
    simp only [k1, k2, k3, k4, List.take_length, Nat.zero_add, Nat.le_refl, List.replicate_zero, List.take_nil, List.nil_append, beq_self_eq_true, decide_true, decide_false, Bool.and_self, Bool.or_self, Bool.and_true, Bool.true_and, Bool.and_false, Bool.false_and, Bool.or_true, Bool.true_or, Bool.or_false, Bool.false_or, Bool.not_true, Bool.not_false, cond_true, cond_false]
    try rfl
  · cases h
theorem ok : EntOk Try.prog ⟨39, R⟩ :=
  ent_okAG (ks := [1, 3]) mixed (A := (orc [])) (orc_ok (by simp)) Try.func39 (by kernel_rfl) (by kernel_rfl) (n := 27) (ts := [.cell 2 26]) (hd := hd0) (dr := dr) (cut := none) (by kernel_rfl) (by kernel_rfl) (by kernel_rfl) run
end l06Own

namespace l06CostA
def R : List AVal → Option (Bool × AVal × List Blk)
  | [.rom [.int .i64 u, .int .i64 r, .ro (.ints .i64 ws) mw 1, .ro (.ints .i64 cs) mc 1] 0, .int .i64 j, .int .i64 k] => some (decide (mc ≤ cs.length ∧ 0 ≤ j * u ∧ j * u ≤ 64 ∧ 0 ≤ k ∧ k ≤ 64 ∧ j * u + k - 1 < (mc : Int)), .int .i64 (bif k == 0 then 0 else pot.cost.sv u cs j k), [])
  | _ => none
theorem go (u r : Int) (ws cs : List Int) (mw mc : Nat) (j k : Int) :
  runFn Try.prog (orc []) hd0 Dr.std none 0 (bodyOf Try.f40) 24 [6] [.rom [.int .i64 u, .int .i64 r, .ro (.ints .i64 ws) mw 1, .ro (.ints .i64 cs) mc 1] 0, .int .i64 j, .int .i64 k] []
  = (bif k == (0 : Int) then some (AVal.int IntKind.i64 (0 : Int), []) else bif true && (decide ((0 : Int) ≤ IntKind.i64.wrap (IntKind.i64.wrap (IntKind.i64.wrap (j * u) + k) - (1 : Int))) && decide (IntKind.i64.wrap (IntKind.i64.wrap (IntKind.i64.wrap (j * u) + k) - (1 : Int)) < (↑mc : Int))) then bif decide ((IntKind.i64.wrap (IntKind.i64.wrap (IntKind.i64.wrap (j * u) + k) - (1 : Int))).toNat < cs.length) then some (AVal.int IntKind.i64 (gz cs (IntKind.i64.wrap (IntKind.i64.wrap (IntKind.i64.wrap (j * u) + k) - (1 : Int))).toNat), []) else none else none) := by kernel_rfl
theorem run : ∀ args v new, R args = some (true, v, new) → ∃ fuel, runFn Try.prog (orc []) hd0 Dr.std none fuel (bodyOf Try.f40) 24 [6] args [] = some (v, new) := by
  intro args v new h
  unfold R at h
  split at h
  · rename_i u r ws mw cs mc j k
    simp only [Option.some.injEq, Prod.mk.injEq, decide_eq_true_eq] at h
    obtain ⟨⟨h1, h2, h3, h4, h5, h6⟩, rfl, rfl⟩ := h
    refine ⟨0, ?_⟩
    rw [go]
    by_cases k0 : k = 0
    · subst k0
      simp only [beq_self_eq_true, cond_true]
    · have k0 : (k == 0) = false := by simp; omega
      have w1 : IntKind.i64.wrap (j * u) = j * u := IntWalk.i64_in _ (by omega)
      have w2 : IntKind.i64.wrap (j * u + k) = j * u + k := IntWalk.i64_in _ (by omega)
      have w3 : IntKind.i64.wrap (j * u + k - 1) = j * u + k - 1 := IntWalk.i64_in _ (by omega)
      have k1 : ¬ k = 0 := by simpa using k0
      obtain ⟨q, hq⟩ : ∃ q : Nat, j * u + k - 1 = q := ⟨(j * u + k - 1).toNat, by omega⟩
      have c1 : (0 : Int) ≤ (q : Int) := Int.natCast_nonneg _
      have c2 : (q : Int) < (mc : Int) := by omega
      have c3 : q < cs.length := by omega
      have w4 : IntKind.i64.wrap (q : Int) = (q : Int) := IntWalk.i64_in _ (by omega)
      simp only [w1, w2, w3, w4, k0, hq, c1, c2, c3, Int.toNat_natCast, decide_true, Bool.and_self, Bool.or_self, Bool.and_true, Bool.true_and, cond_true, cond_false, pot.cost.sv]
  · cases h
theorem ok : EntOk Try.prog ⟨40, R⟩ :=
  ent_okA mixed (A := (orc [])) (orc_ok (by simp)) Try.func40 (by kernel_rfl) (by kernel_rfl) (n := 24) (ts := [6]) (hd := hd0) (dr := Dr.std) (cut := none) (by kernel_rfl) (by kernel_rfl) (by kernel_rfl) run
end l06CostA

namespace l06Give_t
def R : List AVal → Heap → Option (Bool × AVal × Heap)
  | [.agg [.int .i64 u, .int .i64 r, .own 0 0 mw 0 1, .own 1 0 mc 0 1]], [⟨.typ (.ints .i64 ws), 0⟩, ⟨.typ (.ints .i64 cs), 0⟩] => some (decide (mw = ws.length ∧ mc = cs.length ∧ mw ≤ 4611686018427387904 ∧ mc ≤ 4611686018427387904) && crowd.sp u r ws cs, .tup [.agg [.int .i64 u, .int .i64 r, .own 0 0 mw 0 1, .own 1 0 mc 0 1], .bool true], [⟨.typ (.ints .i64 ws), 0⟩, ⟨.typ (.ints .i64 cs), 0⟩])
  | _, _ => none
theorem go (u r : Int) (ws cs : List Int) :
  runFn Try.prog (orc [⟨38, l06Is.R⟩]) hd0 Dr.std (some 0) 0 (bodyOf Try.f41) 8 [.cell 2 26, .tmp 3] [.agg [.int .i64 u, .int .i64 r, .own 0 0 ws.length 0 1, .own 1 0 cs.length 0 1]] [⟨.typ (.ints .i64 ws), 0⟩, ⟨.typ (.ints .i64 cs), 0⟩]
  = (bif true && (true && true) then bif decide (ws.length ≤ ws.length ∧ ws.length ≤ (4611686018427387904 : Nat) ∧ cs.length ≤ cs.length ∧ cs.length ≤ (4611686018427387904 : Nat)) && (false && true || true && true) then bif !crowd.sp u r (List.take ws.length ws) (List.take cs.length cs) then some (AVal.tup [AVal.agg [AVal.int IntKind.i64 (0 : Int), AVal.int IntKind.i64 (0 : Int), AVal.nils, AVal.nils], AVal.bool false], [{ c := BC.typ (Cont.ints IntKind.i64 ws), ver := (0 : Nat) }, { c := BC.typ (Cont.ints IntKind.i64 cs), ver := (0 : Nat) }]) else bif true && true && (true && true && (true && true && (true && true && true))) then bif true && (true && (true && (true && (true && (true && true))))) then bif true && true && (true && true && (true && true && (true && true && true))) && true then some (AVal.tup [AVal.agg [AVal.int IntKind.i64 u, AVal.int IntKind.i64 r, AVal.own (0 : Nat) (0 : Nat) ws.length (0 : Nat) (1 : Nat), AVal.own (1 : Nat) (0 : Nat) cs.length (0 : Nat) (1 : Nat)], AVal.bool true], [{ c := BC.typ (Cont.ints IntKind.i64 ws), ver := (0 : Nat) }, { c := BC.typ (Cont.ints IntKind.i64 cs), ver := (0 : Nat) }]) else none else none else none else none else none) := by kernel_rfl
theorem run : ∀ args H v new, R args H = some (true, v, new) → ∃ fuel, runFn Try.prog (orc [⟨38, l06Is.R⟩]) hd0 Dr.std (some 0) fuel (bodyOf Try.f41) 8 [.cell 2 26, .tmp 3] args H = some (v, new) := by
  intro args H v new h
  unfold R at h
  split at h
  · rename_i u r mw mc ws cs
    simp only [Option.some.injEq, Prod.mk.injEq, Bool.and_eq_true, decide_eq_true_eq, Bool.not_eq_true'] at h
    obtain ⟨⟨⟨rfl, rfl, h3, h4⟩, hv⟩, rfl, rfl⟩ := h
    refine ⟨0, ?_⟩
    rw [go]
    simp only [h3, h4, hv, List.take_length, Nat.le_refl, and_self, decide_true, decide_false, Bool.and_self, Bool.or_self, Bool.and_true, Bool.true_and, Bool.and_false, Bool.false_and, Bool.or_true, Bool.true_or, Bool.or_false, Bool.false_or, Bool.not_true, Bool.not_false, cond_true, cond_false]
    try rfl
  · cases h
theorem ok : EntWOk Try.prog ⟨41, R⟩ :=
  entw_ok mixed (A := (orc [⟨38, l06Is.R⟩])) (orc_ok (by simp only [List.mem_cons, List.not_mem_nil, or_false, forall_eq_or_imp, forall_eq]; exact l06Is.ok)) Try.func41 (by kernel_rfl) (by kernel_rfl) (n := 8) (ts := [.cell 2 26, .tmp 3]) (hd := hd0) (dr := Dr.std) (cut := (some 0)) (by kernel_rfl) (by kernel_rfl) (by kernel_rfl) run
end l06Give_t

namespace l06Give_f
def R : List AVal → Heap → Option (Bool × AVal × Heap)
  | [.agg [.int .i64 u, .int .i64 r, .own 0 0 mw 0 1, .own 1 0 mc 0 1]], [⟨.typ (.ints .i64 ws), 0⟩, ⟨.typ (.ints .i64 cs), 0⟩] => some (decide (mw = ws.length ∧ mc = cs.length ∧ mw ≤ 4611686018427387904 ∧ mc ≤ 4611686018427387904) && !crowd.sp u r ws cs, .tup [.agg [.int .i64 0, .int .i64 0, .nils, .nils], .bool false], [⟨.typ (.ints .i64 ws), 0⟩, ⟨.typ (.ints .i64 cs), 0⟩])
  | _, _ => none
theorem go (u r : Int) (ws cs : List Int) :
  runFn Try.prog (orc [⟨38, l06Is.R⟩]) hd0 Dr.std (some 0) 0 (bodyOf Try.f41) 8 [.cell 2 26, .tmp 3] [.agg [.int .i64 u, .int .i64 r, .own 0 0 ws.length 0 1, .own 1 0 cs.length 0 1]] [⟨.typ (.ints .i64 ws), 0⟩, ⟨.typ (.ints .i64 cs), 0⟩]
  = (bif true && (true && true) then bif decide (ws.length ≤ ws.length ∧ ws.length ≤ (4611686018427387904 : Nat) ∧ cs.length ≤ cs.length ∧ cs.length ≤ (4611686018427387904 : Nat)) && (false && true || true && true) then bif !crowd.sp u r (List.take ws.length ws) (List.take cs.length cs) then some (AVal.tup [AVal.agg [AVal.int IntKind.i64 (0 : Int), AVal.int IntKind.i64 (0 : Int), AVal.nils, AVal.nils], AVal.bool false], [{ c := BC.typ (Cont.ints IntKind.i64 ws), ver := (0 : Nat) }, { c := BC.typ (Cont.ints IntKind.i64 cs), ver := (0 : Nat) }]) else bif true && true && (true && true && (true && true && (true && true && true))) then bif true && (true && (true && (true && (true && (true && true))))) then bif true && true && (true && true && (true && true && (true && true && true))) && true then some (AVal.tup [AVal.agg [AVal.int IntKind.i64 u, AVal.int IntKind.i64 r, AVal.own (0 : Nat) (0 : Nat) ws.length (0 : Nat) (1 : Nat), AVal.own (1 : Nat) (0 : Nat) cs.length (0 : Nat) (1 : Nat)], AVal.bool true], [{ c := BC.typ (Cont.ints IntKind.i64 ws), ver := (0 : Nat) }, { c := BC.typ (Cont.ints IntKind.i64 cs), ver := (0 : Nat) }]) else none else none else none else none else none) := by kernel_rfl
theorem run : ∀ args H v new, R args H = some (true, v, new) → ∃ fuel, runFn Try.prog (orc [⟨38, l06Is.R⟩]) hd0 Dr.std (some 0) fuel (bodyOf Try.f41) 8 [.cell 2 26, .tmp 3] args H = some (v, new) := by
  intro args H v new h
  unfold R at h
  split at h
  · rename_i u r mw mc ws cs
    simp only [Option.some.injEq, Prod.mk.injEq, Bool.and_eq_true, decide_eq_true_eq, Bool.not_eq_true'] at h
    obtain ⟨⟨⟨rfl, rfl, h3, h4⟩, hv⟩, rfl, rfl⟩ := h
    refine ⟨0, ?_⟩
    rw [go]
    simp only [h3, h4, hv, List.take_length, Nat.le_refl, and_self, decide_true, decide_false, Bool.and_self, Bool.or_self, Bool.and_true, Bool.true_and, Bool.and_false, Bool.false_and, Bool.or_true, Bool.true_or, Bool.or_false, Bool.false_or, Bool.not_true, Bool.not_false, cond_true, cond_false]
    try rfl
  · cases h
theorem ok : EntWOk Try.prog ⟨41, R⟩ :=
  entw_ok mixed (A := (orc [⟨38, l06Is.R⟩])) (orc_ok (by simp only [List.mem_cons, List.not_mem_nil, or_false, forall_eq_or_imp, forall_eq]; exact l06Is.ok)) Try.func41 (by kernel_rfl) (by kernel_rfl) (n := 8) (ts := [.cell 2 26, .tmp 3]) (hd := hd0) (dr := Dr.std) (cut := (some 0)) (by kernel_rfl) (by kernel_rfl) (by kernel_rfl) run
end l06Give_f

namespace tl
theorem over {α : Type} {xs ys : List α} {n : Nat} {x : α} (hn : xs.length = n) (h : n < ys.length) : (xs ++ ys.drop n).set n x = (xs ++ [x]) ++ ys.drop (n + 1) := by
  subst hn
  rw [List.set_append_right _ _ (Nat.le_refl _), Nat.sub_self, List.drop_eq_getElem_cons h, List.set_cons_zero]
  simp
end tl
namespace sTolls_t
def dr : Nat → Dr := fun i => bif eqN i 10 then ⟨some [0, 1, 2, 3, 4, 5, 6, 7, 8, 9, 10, 11, 14, 15, 16, 17, 18, 12, 13, 19, 20, 21, 22, 23], false⟩ else ⟨none, false⟩
def hd : Nat → Head := fun i => bif eqN i 2 then ⟨[1, 2, 4, 5, 6], some 5⟩ else ⟨[1, 2, 4, 5], some 5⟩
noncomputable def L1 (f n : Nat) (s : State) := loopAt Try.prog (orcW [⟨41, l06Give_t.R⟩] [⟨38, l06Is.R⟩, ⟨39, l06Own.R⟩, ⟨40, l06CostA.R⟩]) hd dr 0 f (bodyOf Try.f10) 0 [true, true, true, false, true] (retK Try.prog [.cell 2 26, .tmp 3] 0 none) n s
noncomputable def L2 (f n n2 : Nat) (s : State) := loopAt Try.prog (orcW [⟨41, l06Give_t.R⟩] [⟨38, l06Is.R⟩, ⟨39, l06Own.R⟩, ⟨40, l06CostA.R⟩]) hd dr 0 f (bodyAt (bodyOf Try.f10) [true, true, true, false, true]) (curAt (bodyOf Try.f10) 0 [true, true, true, false, true]) [true, false, true] (iterK (normE 0 (hd (curAt (bodyOf Try.f10) 0 [true, true, true, false, true]))) (L1 f n) (contAt Try.prog (orcW [⟨41, l06Give_t.R⟩] [⟨38, l06Is.R⟩, ⟨39, l06Own.R⟩, ⟨40, l06CostA.R⟩]) hd dr 0 f (bodyOf Try.f10) 0 [true, true, true, false, true] (retK Try.prog [.cell 2 26, .tmp 3] 0 none))) n2 s
theorem start (u r : Int) (ws cs : List Int) (f : Nat) :
  runFn Try.prog (orcW [⟨41, l06Give_t.R⟩] [⟨38, l06Is.R⟩, ⟨39, l06Own.R⟩, ⟨40, l06CostA.R⟩]) hd dr none f (bodyOf Try.f10) 50 [.cell 2 26, .tmp 3] [.agg [.int .i64 u, .int .i64 r, .ro (.ints .i64 ws) ws.length 1, .ro (.ints .i64 cs) cs.length 1]] []
  = (bif decide (ws.length ≤ ws.length ∧ ws.length ≤ (4611686018427387904 : Nat) ∧ cs.length ≤ cs.length ∧ cs.length ≤ (4611686018427387904 : Nat)) && (false || true && true) then bif !crowd.sp u r (List.take ws.length ws) (List.take cs.length cs) then some (AVal.tup [AVal.agg [AVal.int IntKind.i64 (0 : Int), AVal.int IntKind.i64 (0 : Int), AVal.nils, AVal.nils], AVal.bool false], [{ c := BC.cells [AVal.int IntKind.i64 u, AVal.int IntKind.i64 r, AVal.ro (Cont.ints IntKind.i64 ws) ws.length (1 : Nat), AVal.ro (Cont.ints IntKind.i64 cs) cs.length (1 : Nat)], ver := (0 : Nat) }, { c := BC.cells [AVal.int IntKind.i64 (0 : Int), AVal.int IntKind.i64 (0 : Int), AVal.nils, AVal.nils], ver := (0 : Nat) }]) else bif decide (ws.length = ws.length ∧ cs.length = cs.length ∧ ws.length ≤ (1048576 : Nat) ∧ cs.length ≤ (1048576 : Nat)) && (false || true && (true && (true && (true && true))) && (true && (true && true))) then bif true && (true && (true && (true && (true && (true && true))))) then L1 f f (mkS (50 : Nat) [((1 : Nat), AVal.ptr (0 : Nat) (0 : Nat) (0 : Nat)), ((2 : Nat), AVal.ptr (1 : Nat) (0 : Nat) (0 : Nat)), ((4 : Nat), AVal.ptr ((1 : Nat) + (1 : Nat) + (1 : Nat) + (1 : Nat)) (0 : Nat) (0 : Nat)), ((5 : Nat), AVal.int IntKind.i64 (0 : Int))] [{ c := BC.cells [AVal.int IntKind.i64 u, AVal.int IntKind.i64 r, AVal.ro (Cont.ints IntKind.i64 ws) ws.length (1 : Nat), AVal.ro (Cont.ints IntKind.i64 cs) cs.length (1 : Nat)], ver := (0 : Nat) }, { c := BC.cells [AVal.int IntKind.i64 (0 : Int), AVal.int IntKind.i64 (0 : Int), AVal.nils, AVal.nils], ver := (0 : Nat) }, { c := BC.typ (Cont.ints IntKind.i64 ws), ver := (0 : Nat) }, { c := BC.typ (Cont.ints IntKind.i64 cs), ver := (0 : Nat) }, { c := BC.cells [AVal.int IntKind.i64 u, AVal.int IntKind.i64 r, AVal.own (2 : Nat) (0 : Nat) ws.length (0 : Nat) (1 : Nat), AVal.own (3 : Nat) (0 : Nat) cs.length (0 : Nat) (1 : Nat)], ver := (0 : Nat) }]) else none else none else none) := by kernel_rfl
theorem round1 (u r : Nat) (ws cs : List Int) (az : List Int) (wl cl j : Nat) (f n : Nat) :
  L1 f (n + 1) (mkS 50 [(1, .ptr 0 0 0), (2, .ptr 1 0 0), (4, .ptr 4 0 0), (5, .int .i64 j)] [⟨.cells [.int .i64 u, .int .i64 r, .ro (.ints .i64 ws) ws.length 1, .ro (.ints .i64 cs) cs.length 1], 0⟩, ⟨.cells [.int .i64 0, .int .i64 0, .nils, .nils], 0⟩, ⟨.typ (.ints .i64 ws), 0⟩, ⟨.typ (.ints .i64 az), 0⟩, ⟨.cells [.int .i64 u, .int .i64 r, .own 2 0 wl 0 1, .own 3 0 cl 0 1], 0⟩])
  = (bif true && true then bif decide ((↑j : Int) < (↑r : Int)) then L2 f n f (mkS (50 : Nat) [((1 : Nat), AVal.ptr (0 : Nat) (0 : Nat) (0 : Nat)), ((2 : Nat), AVal.ptr (1 : Nat) (0 : Nat) (0 : Nat)), ((4 : Nat), AVal.ptr (4 : Nat) (0 : Nat) (0 : Nat)), ((5 : Nat), AVal.int IntKind.i64 (↑j : Int)), ((6 : Nat), AVal.int IntKind.i64 (1 : Int))] [{ c := BC.cells [AVal.int IntKind.i64 (↑u : Int), AVal.int IntKind.i64 (↑r : Int), AVal.ro (Cont.ints IntKind.i64 ws) ws.length (1 : Nat), AVal.ro (Cont.ints IntKind.i64 cs) cs.length (1 : Nat)], ver := (0 : Nat) }, { c := BC.cells [AVal.int IntKind.i64 (0 : Int), AVal.int IntKind.i64 (0 : Int), AVal.nils, AVal.nils], ver := (0 : Nat) }, { c := BC.typ (Cont.ints IntKind.i64 ws), ver := (0 : Nat) }, { c := BC.typ (Cont.ints IntKind.i64 az), ver := (0 : Nat) }, { c := BC.cells [AVal.int IntKind.i64 (↑u : Int), AVal.int IntKind.i64 (↑r : Int), AVal.own (2 : Nat) (0 : Nat) wl (0 : Nat) (1 : Nat), AVal.own (3 : Nat) (0 : Nat) cl (0 : Nat) (1 : Nat)], ver := (0 : Nat) }]) else bif true && true && (true && true && (true && true && (true && true && true))) then bif decide (wl = ws.length ∧ cl = az.length ∧ wl ≤ (4611686018427387904 : Nat) ∧ cl ≤ (4611686018427387904 : Nat)) && crowd.sp (↑u : Int) (↑r : Int) ws az && (true && (true && (true && true))) then bif true && (true && (true && (true && (true && (true && true))))) then bif true && true && (true && true && (true && true && (true && true && true))) && true then some (AVal.tup [AVal.agg [AVal.int IntKind.i64 (↑u : Int), AVal.int IntKind.i64 (↑r : Int), AVal.own (2 : Nat) (0 : Nat) wl (0 : Nat) (1 : Nat), AVal.own (3 : Nat) (0 : Nat) cl (0 : Nat) (1 : Nat)], AVal.bool true], [{ c := BC.cells [AVal.int IntKind.i64 (↑u : Int), AVal.int IntKind.i64 (↑r : Int), AVal.ro (Cont.ints IntKind.i64 ws) ws.length (1 : Nat), AVal.ro (Cont.ints IntKind.i64 cs) cs.length (1 : Nat)], ver := (0 : Nat) }, { c := BC.cells [AVal.int IntKind.i64 (↑u : Int), AVal.int IntKind.i64 (↑r : Int), AVal.own (2 : Nat) (0 : Nat) wl (0 : Nat) (1 : Nat), AVal.own (3 : Nat) (0 : Nat) cl (0 : Nat) (1 : Nat)], ver := (0 : Nat) }, { c := BC.typ (Cont.ints IntKind.i64 ws), ver := (0 : Nat) }, { c := BC.typ (Cont.ints IntKind.i64 az), ver := (0 : Nat) }, { c := BC.cells [AVal.int IntKind.i64 (↑u : Int), AVal.int IntKind.i64 (↑r : Int), AVal.own (2 : Nat) (0 : Nat) wl (0 : Nat) (1 : Nat), AVal.own (3 : Nat) (0 : Nat) cl (0 : Nat) (1 : Nat)], ver := (0 : Nat) }]) else none else none else none else none else none) := by kernel_rfl
theorem round2 (u r : Nat) (ws cs : List Int) (az : List Int) (wl cl j k : Nat) (f n n2 : Nat) :
  L2 f n (n2 + 1) (mkS 50 [(1, .ptr 0 0 0), (2, .ptr 1 0 0), (4, .ptr 4 0 0), (5, .int .i64 j), (6, .int .i64 k)] [⟨.cells [.int .i64 u, .int .i64 r, .ro (.ints .i64 ws) ws.length 1, .ro (.ints .i64 cs) cs.length 1], 0⟩, ⟨.cells [.int .i64 0, .int .i64 0, .nils, .nils], 0⟩, ⟨.typ (.ints .i64 ws), 0⟩, ⟨.typ (.ints .i64 az), 0⟩, ⟨.cells [.int .i64 u, .int .i64 r, .own 2 0 wl 0 1, .own 3 0 cl 0 1], 0⟩])
  = (bif true && true then bif decide ((↑k : Int) ≤ (↑u : Int)) then bif true && true then bif true && true then bif decide (cs.length ≤ cs.length ∧ (0 : Int) ≤ (↑j : Int) * (↑u : Int) ∧ (↑j : Int) * (↑u : Int) ≤ (64 : Int) ∧ (0 : Int) ≤ (↑k : Int) ∧ (↑k : Int) ≤ (64 : Int) ∧ (↑j : Int) * (↑u : Int) + (↑k : Int) - (1 : Int) < (↑cs.length : Int)) && (false && (true && (true && true)) || true && true) then bif decide (cs.length ≤ cs.length ∧ (0 : Int) ≤ (↑j : Int) * (↑u : Int) ∧ (↑j : Int) * (↑u : Int) ≤ (64 : Int) ∧ (0 : Int) ≤ IntKind.i64.wrap ((↑k : Int) - (1 : Int)) ∧ IntKind.i64.wrap ((↑k : Int) - (1 : Int)) ≤ (64 : Int) ∧ (↑j : Int) * (↑u : Int) + IntKind.i64.wrap ((↑k : Int) - (1 : Int)) - (1 : Int) < (↑cs.length : Int)) && (false && (true && (true && true)) || true && true) then bif true && (decide ((0 : Int) ≤ IntKind.i64.wrap (IntKind.i64.wrap (IntKind.i64.wrap ((↑j : Int) * (↑u : Int)) + (↑k : Int)) - (1 : Int))) && decide (IntKind.i64.wrap (IntKind.i64.wrap (IntKind.i64.wrap ((↑j : Int) * (↑u : Int)) + (↑k : Int)) - (1 : Int)) < (↑cl : Int))) then bif true && (true && (decide ((IntKind.i64.wrap (IntKind.i64.wrap (IntKind.i64.wrap ((↑j : Int) * (↑u : Int)) + (↑k : Int)) - (1 : Int))).toNat < az.length) && true)) then L2 f n n2 (mkS (50 : Nat) [((1 : Nat), AVal.ptr (0 : Nat) (0 : Nat) (0 : Nat)), ((2 : Nat), AVal.ptr (1 : Nat) (0 : Nat) (0 : Nat)), ((4 : Nat), AVal.ptr (4 : Nat) (0 : Nat) (0 : Nat)), ((5 : Nat), AVal.int IntKind.i64 (↑j : Int)), ((6 : Nat), AVal.int IntKind.i64 (IntKind.i64.wrap ((↑k : Int) + (1 : Int))))] [{ c := BC.cells [AVal.int IntKind.i64 (↑u : Int), AVal.int IntKind.i64 (↑r : Int), AVal.ro (Cont.ints IntKind.i64 ws) ws.length (1 : Nat), AVal.ro (Cont.ints IntKind.i64 cs) cs.length (1 : Nat)], ver := (0 : Nat) }, { c := BC.cells [AVal.int IntKind.i64 (0 : Int), AVal.int IntKind.i64 (0 : Int), AVal.nils, AVal.nils], ver := (0 : Nat) }, { c := BC.typ (Cont.ints IntKind.i64 ws), ver := (0 : Nat) }, { c := BC.typ (Cont.ints IntKind.i64 (az.set (IntKind.i64.wrap (IntKind.i64.wrap (IntKind.i64.wrap ((↑j : Int) * (↑u : Int)) + (↑k : Int)) - (1 : Int))).toNat (IntKind.i64.wrap (IntKind.i64.wrap ((↑k : Int) * bif (↑k : Int) == (0 : Int) then (0 : Int) else pot.cost.sv (↑u : Int) cs (↑j : Int) (↑k : Int)) - IntKind.i64.wrap (IntKind.i64.wrap ((↑k : Int) - (1 : Int)) * bif IntKind.i64.wrap ((↑k : Int) - (1 : Int)) == (0 : Int) then (0 : Int) else pot.cost.sv (↑u : Int) cs (↑j : Int) (IntKind.i64.wrap ((↑k : Int) - (1 : Int)))))))), ver := (0 : Nat) }, { c := BC.cells [AVal.int IntKind.i64 (↑u : Int), AVal.int IntKind.i64 (↑r : Int), AVal.own (2 : Nat) (0 : Nat) wl (0 : Nat) (1 : Nat), AVal.own (3 : Nat) (0 : Nat) cl (0 : Nat) (1 : Nat)], ver := (0 : Nat) }]) else none else none else none else none else none else none else L1 f n (mkS (50 : Nat) [((1 : Nat), AVal.ptr (0 : Nat) (0 : Nat) (0 : Nat)), ((2 : Nat), AVal.ptr (1 : Nat) (0 : Nat) (0 : Nat)), ((4 : Nat), AVal.ptr (4 : Nat) (0 : Nat) (0 : Nat)), ((5 : Nat), AVal.int IntKind.i64 (IntKind.i64.wrap ((↑j : Int) + (1 : Int))))] [{ c := BC.cells [AVal.int IntKind.i64 (↑u : Int), AVal.int IntKind.i64 (↑r : Int), AVal.ro (Cont.ints IntKind.i64 ws) ws.length (1 : Nat), AVal.ro (Cont.ints IntKind.i64 cs) cs.length (1 : Nat)], ver := (0 : Nat) }, { c := BC.cells [AVal.int IntKind.i64 (0 : Int), AVal.int IntKind.i64 (0 : Int), AVal.nils, AVal.nils], ver := (0 : Nat) }, { c := BC.typ (Cont.ints IntKind.i64 ws), ver := (0 : Nat) }, { c := BC.typ (Cont.ints IntKind.i64 az), ver := (0 : Nat) }, { c := BC.cells [AVal.int IntKind.i64 (↑u : Int), AVal.int IntKind.i64 (↑r : Int), AVal.own (2 : Nat) (0 : Nat) wl (0 : Nat) (1 : Nat), AVal.own (3 : Nat) (0 : Nat) cl (0 : Nat) (1 : Nat)], ver := (0 : Nat) }]) else none) := by kernel_rfl
theorem inner (u r : Nat) (ws cs : List Int) (f n j : Nat) (hv : crowd.sp u r ws cs = true) (hu : 1 ≤ u ∧ u ≤ 8) (hr : 1 ≤ r ∧ r ≤ 8) (hl : cs.length = r * u) (vc : ∀ x ∈ cs, -100000 ≤ x ∧ x ≤ 100000) (hj : j < r) : ∀ (d k n2 : Nat), k + d = u → d < n2 →
    L2 f n n2 (mkS 50 [(1, .ptr 0 0 0), (2, .ptr 1 0 0), (4, .ptr 4 0 0), (5, .int .i64 ((j : Nat) : Int)), (6, .int .i64 (((k + 1) : Nat) : Int))] [⟨.cells [.int .i64 u, .int .i64 r, .ro (.ints .i64 ws) ws.length 1, .ro (.ints .i64 cs) cs.length 1], 0⟩, ⟨.cells [.int .i64 0, .int .i64 0, .nils, .nils], 0⟩, ⟨.typ (.ints .i64 ws), 0⟩, ⟨.typ (.ints .i64 (ct.pre (tl.f u cs) u j k ++ cs.drop (j * u + k))), 0⟩, ⟨.cells [.int .i64 u, .int .i64 r, .own 2 0 ws.length 0 1, .own 3 0 cs.length 0 1], 0⟩]) = L1 f n (mkS 50 [(1, .ptr 0 0 0), (2, .ptr 1 0 0), (4, .ptr 4 0 0), (5, .int .i64 (((j + 1) : Nat) : Int))] [⟨.cells [.int .i64 u, .int .i64 r, .ro (.ints .i64 ws) ws.length 1, .ro (.ints .i64 cs) cs.length 1], 0⟩, ⟨.cells [.int .i64 0, .int .i64 0, .nils, .nils], 0⟩, ⟨.typ (.ints .i64 ws), 0⟩, ⟨.typ (.ints .i64 (ct.pre (tl.f u cs) u (j + 1) 0 ++ cs.drop ((j + 1) * u + 0))), 0⟩, ⟨.cells [.int .i64 u, .int .i64 r, .own 2 0 ws.length 0 1, .own 3 0 cs.length 0 1], 0⟩]) := by
  have h64 : r * u ≤ 8 * 8 := Nat.mul_le_mul hr.2 hu.2
  intro d
  induction d with
  | zero =>
    intro k n2 hk hn
    obtain ⟨n2, rfl⟩ : ∃ k, n2 = k + 1 := ⟨n2 - 1, by omega⟩
    obtain rfl : k = u := by omega
    rw [round2]
    have wj : IntKind.i64.wrap ((j : Int) + 1) = ((j + 1 : Nat) : Int) := wrap_nat j (by omega)
    have e : j * k + k = (j + 1) * k + 0 := by rw [Nat.add_mul, Nat.one_mul]; rfl
    have c : ¬ (((k + 1 : Nat) : Int) ≤ (k : Int)) := by omega
    simp -implicitDefEqProofs only [c, wj, ct.pre_next, e, decide_true, decide_false, Bool.and_self, Bool.or_self, Bool.and_true, Bool.true_and, Bool.and_false, Bool.false_and, Bool.or_true, Bool.true_or, Bool.or_false, Bool.false_or, Bool.not_true, Bool.not_false, cond_true, cond_false]
  | succ d ih =>
    intro k n2 hk' hn
    obtain ⟨n2, rfl⟩ : ∃ k, n2 = k + 1 := ⟨n2 - 1, by omega⟩
    have hk : k < u := by omega
    have hlt := ct.ix_lt (R := r) (C := u) hj hk
    have hih := ih (k + 1) n2 (by omega) (by omega)
    have c : ((k + 1 : Nat) : Int) ≤ (u : Int) := by omega
    have hjk : ((j * u : Nat) : Int) = (j : Int) * (u : Int) := Int.natCast_mul _ _
    have bnd : ∀ m : Int, -100000 ≤ pot.cost.sv (u : Int) cs j m ∧ pot.cost.sv (u : Int) cs j m ≤ 100000 := fun m => by
      unfold pot.cost.sv
      by_cases hh : ((j : Int) * (u : Int) + m - 1).toNat < cs.length
      · rw [gz_eq hh]; exact vc _ (List.getElem_mem _)
      · have : gz cs ((j : Int) * (u : Int) + m - 1).toNat = 0 := by unfold gz; rw [List.getD_eq_getElem?_getD, List.getElem?_eq_none (by omega)]; rfl
        omega
    have b1 := bnd ((k + 1 : Nat) : Int)
    have b2 := bnd (k : Int)
    have j0 : (0 : Int) ≤ (j : Int) * (u : Int) := by omega
    have j1 : (j : Int) * (u : Int) ≤ 64 := by omega
    have w0 : IntKind.i64.wrap ((j : Int) * (u : Int)) = ((j * u : Nat) : Int) := by rw [IntWalk.i64_in _ (by omega)]; omega
    have w1 : IntKind.i64.wrap (((j * u : Nat) : Int) + ((k + 1 : Nat) : Int)) = ((j * u + k + 1 : Nat) : Int) := by rw [IntWalk.i64_in _ (by omega)]; omega
    have w2 : IntKind.i64.wrap (((j * u + k + 1 : Nat) : Int) - 1) = ((j * u + k : Nat) : Int) := by rw [IntWalk.i64_in _ (by omega)]; omega
    have w3 : IntKind.i64.wrap (((k + 1 : Nat) : Int) - 1) = (k : Int) := by rw [IntWalk.i64_in _ (by omega)]; omega
    have w4 : IntKind.i64.wrap (((k + 1 : Nat) : Int) + 1) = ((k + 1 + 1 : Nat) : Int) := wrap_nat (k + 1) (by omega)
    have q0 : (0 : Int) ≤ ((j * u + k : Nat) : Int) := Int.natCast_nonneg _
    have q1 : ((j * u + k : Nat) : Int) < (cs.length : Int) := by omega
    have q2 : j * u + k < (ct.pre (tl.f (u : Int) cs) u j k ++ cs.drop (j * u + k)).length := by rw [List.length_append, ct.pre_length, List.length_drop]; omega
    have q3 : (0 : Int) ≤ ((k + 1 : Nat) : Int) := by omega
    have q4 : ((k + 1 : Nat) : Int) ≤ 64 := by omega
    have q5 : (0 : Int) ≤ (k : Int) := by omega
    have q6 : (k : Int) ≤ 64 := by omega
    have q7 : (j : Int) * (u : Int) + ((k + 1 : Nat) : Int) - 1 < (cs.length : Int) := by omega
    have q8 : (j : Int) * (u : Int) + (k : Int) - 1 < (cs.length : Int) := by omega
    have z1 : (((k + 1 : Nat) : Int) == 0) = false := by simp; omega
    have key : IntKind.i64.wrap (IntKind.i64.wrap (((k + 1 : Nat) : Int) * (bif ((k + 1 : Nat) : Int) == 0 then 0 else pot.cost.sv (u : Int) cs j ((k + 1 : Nat) : Int))) - IntKind.i64.wrap ((k : Int) * (bif (k : Int) == 0 then 0 else pot.cost.sv (u : Int) cs j (k : Int)))) = tl.f (u : Int) cs j k := by
      have m1 : ((k + 1 : Nat) : Int) * pot.cost.sv (u : Int) cs j ((k + 1 : Nat) : Int) ≤ 8 * 100000 ∧ -(8 * 100000) ≤ ((k + 1 : Nat) : Int) * pot.cost.sv (u : Int) cs j ((k + 1 : Nat) : Int) := by
        generalize pot.cost.sv (u : Int) cs j ((k + 1 : Nat) : Int) = z at b1
        have h8 : ((k + 1 : Nat) : Int) ≤ 8 := by omega
        generalize ((k + 1 : Nat) : Int) = m at h8 q3
        have c1 : m * z ≤ m * 100000 := Int.mul_le_mul_of_nonneg_left b1.2 (by omega)
        have c2 : m * (-100000) ≤ m * z := Int.mul_le_mul_of_nonneg_left b1.1 (by omega)
        omega
      have m2 : (k : Int) * pot.cost.sv (u : Int) cs j (k : Int) ≤ 8 * 100000 ∧ -(8 * 100000) ≤ (k : Int) * pot.cost.sv (u : Int) cs j (k : Int) := by
        generalize pot.cost.sv (u : Int) cs j (k : Int) = z at b2
        have h8 : (k : Int) ≤ 8 := by omega
        generalize (k : Int) = m at h8 q5
        have c1 : m * z ≤ m * 100000 := Int.mul_le_mul_of_nonneg_left b2.2 (by omega)
        have c2 : m * (-100000) ≤ m * z := Int.mul_le_mul_of_nonneg_left b2.1 (by omega)
        omega
      have e1 : ((k + 1 : Nat) : Int) - 1 = (k : Int) := by omega
      have e3 : (k : Int) * (bif (k : Int) == 0 then 0 else pot.cost.sv (u : Int) cs j (k : Int)) = (k : Int) * pot.cost.sv (u : Int) cs j (k : Int) := by
        by_cases hz : (k : Int) = 0
        · rw [hz]; simp
        · have : ((k : Int) == 0) = false := by simpa using hz
          rw [this, cond_false]
      unfold tl.f tl.sv
      rw [e1, e3, z1, cond_false]
      rw [IntWalk.i64_in (((k + 1 : Nat) : Int) * pot.cost.sv (u : Int) cs j ((k + 1 : Nat) : Int)) (by omega), IntWalk.i64_in ((k : Int) * pot.cost.sv (u : Int) cs j (k : Int)) (by omega), IntWalk.i64_in _ (by omega)]
    have ov : (ct.pre (tl.f (u : Int) cs) u j k ++ cs.drop (j * u + k)).set (j * u + k) (tl.f (u : Int) cs j k) = ct.pre (tl.f (u : Int) cs) u j (k + 1) ++ cs.drop (j * u + (k + 1)) := by
      rw [tl.over (ct.pre_length _ _ _ _) (by omega), ct.pre_succ]; rfl
    rw [round2]
    simp -implicitDefEqProofs only [c, w0, w1, w2, w3, w4, j0, j1, q0, q1, q2, q3, q4, q5, q6, q7, q8, key, ov, Nat.le_refl, Int.toNat_natCast, and_self, eq_self, decide_true, decide_false, Bool.and_self, Bool.or_self, Bool.and_true, Bool.true_and, Bool.and_false, Bool.false_and, Bool.or_true, Bool.true_or, Bool.or_false, Bool.false_or, Bool.not_true, Bool.not_false, cond_true, cond_false]
    exact hih
theorem outer (u r : Nat) (ws cs : List Int) (f : Nat) (hv : crowd.sp u r ws cs = true) (hu : 1 ≤ u ∧ u ≤ 8) (hr : 1 ≤ r ∧ r ≤ 8) (hl : cs.length = r * u) (vc : ∀ x ∈ cs, -100000 ≤ x ∧ x ≤ 100000) (hw4 : ws.length ≤ 4611686018427387904) (ht : crowd.sp u r ws (ct.tab (tl.f u cs) u r) = true) (hf : u < f) : ∀ (d j n : Nat), j + d = r → d < n →
    L1 f n (mkS 50 [(1, .ptr 0 0 0), (2, .ptr 1 0 0), (4, .ptr 4 0 0), (5, .int .i64 ((j : Nat) : Int))] [⟨.cells [.int .i64 u, .int .i64 r, .ro (.ints .i64 ws) ws.length 1, .ro (.ints .i64 cs) cs.length 1], 0⟩, ⟨.cells [.int .i64 0, .int .i64 0, .nils, .nils], 0⟩, ⟨.typ (.ints .i64 ws), 0⟩, ⟨.typ (.ints .i64 (ct.pre (tl.f u cs) u j 0 ++ cs.drop (j * u + 0))), 0⟩, ⟨.cells [.int .i64 u, .int .i64 r, .own 2 0 ws.length 0 1, .own 3 0 cs.length 0 1], 0⟩]) = some (.tup [.agg [.int .i64 u, .int .i64 r, .own 2 0 ws.length 0 1, .own 3 0 cs.length 0 1], .bool true], [⟨.cells [.int .i64 u, .int .i64 r, .ro (.ints .i64 ws) ws.length 1, .ro (.ints .i64 cs) cs.length 1], 0⟩, ⟨.cells [.int .i64 u, .int .i64 r, .own 2 0 ws.length 0 1, .own 3 0 cs.length 0 1], 0⟩, ⟨.typ (.ints .i64 ws), 0⟩, ⟨.typ (.ints .i64 (ct.tab (tl.f u cs) u r)), 0⟩, ⟨.cells [.int .i64 u, .int .i64 r, .own 2 0 ws.length 0 1, .own 3 0 cs.length 0 1], 0⟩]) := by
  intro d
  induction d with
  | zero =>
    intro j n hj hn
    obtain ⟨n, rfl⟩ : ∃ k, n = k + 1 := ⟨n - 1, by omega⟩
    obtain rfl : j = r := by omega
    have hlen := ct.pre_length (tl.f (u : Int) cs) u j 0
    have ea : ct.pre (tl.f (u : Int) cs) u j 0 ++ cs.drop (j * u + 0) = ct.tab (tl.f (u : Int) cs) u j := by
      rw [Nat.add_zero, ← hl, List.drop_length, List.append_nil]; rfl
    have el : cs.length = (ct.tab (tl.f (u : Int) cs) u j).length := by unfold ct.tab; rw [hlen]; omega
    have q5 : cs.length ≤ 4611686018427387904 := by
      have h8 : j * u ≤ 8 * 8 := Nat.mul_le_mul hr.2 hu.2
      omega
    rw [ea]
    clear ea hlen
    generalize ct.tab (tl.f (u : Int) cs) u j = tb at ht el ⊢
    rw [round1]
    simp -implicitDefEqProofs only [Int.lt_irrefl, hw4, q5, ← el, ht, List.take_length, Nat.le_refl, and_self, eq_self, decide_true, decide_false, Bool.and_self, Bool.or_self, Bool.and_true, Bool.true_and, Bool.and_false, Bool.false_and, Bool.or_true, Bool.true_or, Bool.or_false, Bool.false_or, Bool.not_true, Bool.not_false, cond_true, cond_false]
    try rfl
  | succ d ih =>
    intro j n hj' hn
    obtain ⟨n, rfl⟩ : ∃ k, n = k + 1 := ⟨n - 1, by omega⟩
    have hj : j < r := by omega
    have hj5 : (j : Int) < (r : Int) := by omega
    rw [round1]
    simp -implicitDefEqProofs only [hj5, decide_true, decide_false, Bool.and_self, Bool.or_self, Bool.and_true, Bool.true_and, Bool.and_false, Bool.false_and, Bool.or_true, Bool.true_or, Bool.or_false, Bool.false_or, Bool.not_true, Bool.not_false, cond_true, cond_false]
    have hin := inner u r ws cs f n j hv hu hr hl vc hj u 0 f (by omega) hf
    have hout := ih (j + 1) n (by omega) (by omega)
    exact hin.trans hout
end sTolls_t

namespace sTolls_f
def dr : Nat → Dr := fun i => bif eqN i 10 then ⟨some [0, 1, 2, 3, 4, 5, 6, 7, 8, 9, 10, 11, 14, 15, 16, 17, 18, 12, 13, 19, 20, 21, 22, 23], false⟩ else ⟨none, false⟩
def hd : Nat → Head := fun i => bif eqN i 2 then ⟨[1, 2, 4, 5, 6], some 5⟩ else ⟨[1, 2, 4, 5], some 5⟩
noncomputable def L1 (f n : Nat) (s : State) := loopAt Try.prog (orcW [⟨41, l06Give_f.R⟩] [⟨38, l06Is.R⟩, ⟨39, l06Own.R⟩, ⟨40, l06CostA.R⟩]) hd dr 0 f (bodyOf Try.f10) 0 [true, true, true, false, true] (retK Try.prog [.cell 2 26, .tmp 3] 0 (some 0)) n s
noncomputable def L2 (f n n2 : Nat) (s : State) := loopAt Try.prog (orcW [⟨41, l06Give_f.R⟩] [⟨38, l06Is.R⟩, ⟨39, l06Own.R⟩, ⟨40, l06CostA.R⟩]) hd dr 0 f (bodyAt (bodyOf Try.f10) [true, true, true, false, true]) (curAt (bodyOf Try.f10) 0 [true, true, true, false, true]) [true, false, true] (iterK (normE 0 (hd (curAt (bodyOf Try.f10) 0 [true, true, true, false, true]))) (L1 f n) (contAt Try.prog (orcW [⟨41, l06Give_f.R⟩] [⟨38, l06Is.R⟩, ⟨39, l06Own.R⟩, ⟨40, l06CostA.R⟩]) hd dr 0 f (bodyOf Try.f10) 0 [true, true, true, false, true] (retK Try.prog [.cell 2 26, .tmp 3] 0 (some 0)))) n2 s
theorem start (u r : Int) (ws cs : List Int) (f : Nat) :
  runFn Try.prog (orcW [⟨41, l06Give_f.R⟩] [⟨38, l06Is.R⟩, ⟨39, l06Own.R⟩, ⟨40, l06CostA.R⟩]) hd dr (some 0) f (bodyOf Try.f10) 50 [.cell 2 26, .tmp 3] [.agg [.int .i64 u, .int .i64 r, .ro (.ints .i64 ws) ws.length 1, .ro (.ints .i64 cs) cs.length 1]] []
  = (bif decide (ws.length ≤ ws.length ∧ ws.length ≤ (4611686018427387904 : Nat) ∧ cs.length ≤ cs.length ∧ cs.length ≤ (4611686018427387904 : Nat)) && (false || true && true) then bif !crowd.sp u r (List.take ws.length ws) (List.take cs.length cs) then some (AVal.tup [AVal.agg [AVal.int IntKind.i64 (0 : Int), AVal.int IntKind.i64 (0 : Int), AVal.nils, AVal.nils], AVal.bool false], []) else bif decide (ws.length = ws.length ∧ cs.length = cs.length ∧ ws.length ≤ (1048576 : Nat) ∧ cs.length ≤ (1048576 : Nat)) && (false || true && (true && (true && (true && true))) && (true && (true && true))) then bif true && (true && (true && (true && (true && (true && true))))) then L1 f f (mkS (50 : Nat) [((1 : Nat), AVal.ptr (0 : Nat) (0 : Nat) (0 : Nat)), ((2 : Nat), AVal.ptr (1 : Nat) (0 : Nat) (0 : Nat)), ((4 : Nat), AVal.ptr ((1 : Nat) + (1 : Nat) + (1 : Nat) + (1 : Nat)) (0 : Nat) (0 : Nat)), ((5 : Nat), AVal.int IntKind.i64 (0 : Int))] [{ c := BC.cells [AVal.int IntKind.i64 u, AVal.int IntKind.i64 r, AVal.ro (Cont.ints IntKind.i64 ws) ws.length (1 : Nat), AVal.ro (Cont.ints IntKind.i64 cs) cs.length (1 : Nat)], ver := (0 : Nat) }, { c := BC.cells [AVal.int IntKind.i64 (0 : Int), AVal.int IntKind.i64 (0 : Int), AVal.nils, AVal.nils], ver := (0 : Nat) }, { c := BC.typ (Cont.ints IntKind.i64 ws), ver := (0 : Nat) }, { c := BC.typ (Cont.ints IntKind.i64 cs), ver := (0 : Nat) }, { c := BC.cells [AVal.int IntKind.i64 u, AVal.int IntKind.i64 r, AVal.own (2 : Nat) (0 : Nat) ws.length (0 : Nat) (1 : Nat), AVal.own (3 : Nat) (0 : Nat) cs.length (0 : Nat) (1 : Nat)], ver := (0 : Nat) }]) else none else none else none) := by kernel_rfl
theorem round1 (u r : Nat) (ws cs : List Int) (az : List Int) (wl cl j : Nat) (f n : Nat) :
  L1 f (n + 1) (mkS 50 [(1, .ptr 0 0 0), (2, .ptr 1 0 0), (4, .ptr 4 0 0), (5, .int .i64 j)] [⟨.cells [.int .i64 u, .int .i64 r, .ro (.ints .i64 ws) ws.length 1, .ro (.ints .i64 cs) cs.length 1], 0⟩, ⟨.cells [.int .i64 0, .int .i64 0, .nils, .nils], 0⟩, ⟨.typ (.ints .i64 ws), 0⟩, ⟨.typ (.ints .i64 az), 0⟩, ⟨.cells [.int .i64 u, .int .i64 r, .own 2 0 wl 0 1, .own 3 0 cl 0 1], 0⟩])
  = (bif true && true then bif decide ((↑j : Int) < (↑r : Int)) then L2 f n f (mkS (50 : Nat) [((1 : Nat), AVal.ptr (0 : Nat) (0 : Nat) (0 : Nat)), ((2 : Nat), AVal.ptr (1 : Nat) (0 : Nat) (0 : Nat)), ((4 : Nat), AVal.ptr (4 : Nat) (0 : Nat) (0 : Nat)), ((5 : Nat), AVal.int IntKind.i64 (↑j : Int)), ((6 : Nat), AVal.int IntKind.i64 (1 : Int))] [{ c := BC.cells [AVal.int IntKind.i64 (↑u : Int), AVal.int IntKind.i64 (↑r : Int), AVal.ro (Cont.ints IntKind.i64 ws) ws.length (1 : Nat), AVal.ro (Cont.ints IntKind.i64 cs) cs.length (1 : Nat)], ver := (0 : Nat) }, { c := BC.cells [AVal.int IntKind.i64 (0 : Int), AVal.int IntKind.i64 (0 : Int), AVal.nils, AVal.nils], ver := (0 : Nat) }, { c := BC.typ (Cont.ints IntKind.i64 ws), ver := (0 : Nat) }, { c := BC.typ (Cont.ints IntKind.i64 az), ver := (0 : Nat) }, { c := BC.cells [AVal.int IntKind.i64 (↑u : Int), AVal.int IntKind.i64 (↑r : Int), AVal.own (2 : Nat) (0 : Nat) wl (0 : Nat) (1 : Nat), AVal.own (3 : Nat) (0 : Nat) cl (0 : Nat) (1 : Nat)], ver := (0 : Nat) }]) else bif true && true && (true && true && (true && true && (true && true && true))) then bif decide (wl = ws.length ∧ cl = az.length ∧ wl ≤ (4611686018427387904 : Nat) ∧ cl ≤ (4611686018427387904 : Nat)) && !crowd.sp (↑u : Int) (↑r : Int) ws az && (true && (true && (true && true))) then some (AVal.tup [AVal.agg [AVal.int IntKind.i64 (0 : Int), AVal.int IntKind.i64 (0 : Int), AVal.nils, AVal.nils], AVal.bool false], []) else none else none else none) := by kernel_rfl
theorem round2 (u r : Nat) (ws cs : List Int) (az : List Int) (wl cl j k : Nat) (f n n2 : Nat) :
  L2 f n (n2 + 1) (mkS 50 [(1, .ptr 0 0 0), (2, .ptr 1 0 0), (4, .ptr 4 0 0), (5, .int .i64 j), (6, .int .i64 k)] [⟨.cells [.int .i64 u, .int .i64 r, .ro (.ints .i64 ws) ws.length 1, .ro (.ints .i64 cs) cs.length 1], 0⟩, ⟨.cells [.int .i64 0, .int .i64 0, .nils, .nils], 0⟩, ⟨.typ (.ints .i64 ws), 0⟩, ⟨.typ (.ints .i64 az), 0⟩, ⟨.cells [.int .i64 u, .int .i64 r, .own 2 0 wl 0 1, .own 3 0 cl 0 1], 0⟩])
  = (bif true && true then bif decide ((↑k : Int) ≤ (↑u : Int)) then bif true && true then bif true && true then bif decide (cs.length ≤ cs.length ∧ (0 : Int) ≤ (↑j : Int) * (↑u : Int) ∧ (↑j : Int) * (↑u : Int) ≤ (64 : Int) ∧ (0 : Int) ≤ (↑k : Int) ∧ (↑k : Int) ≤ (64 : Int) ∧ (↑j : Int) * (↑u : Int) + (↑k : Int) - (1 : Int) < (↑cs.length : Int)) && (false && (true && (true && true)) || true && true) then bif decide (cs.length ≤ cs.length ∧ (0 : Int) ≤ (↑j : Int) * (↑u : Int) ∧ (↑j : Int) * (↑u : Int) ≤ (64 : Int) ∧ (0 : Int) ≤ IntKind.i64.wrap ((↑k : Int) - (1 : Int)) ∧ IntKind.i64.wrap ((↑k : Int) - (1 : Int)) ≤ (64 : Int) ∧ (↑j : Int) * (↑u : Int) + IntKind.i64.wrap ((↑k : Int) - (1 : Int)) - (1 : Int) < (↑cs.length : Int)) && (false && (true && (true && true)) || true && true) then bif true && (decide ((0 : Int) ≤ IntKind.i64.wrap (IntKind.i64.wrap (IntKind.i64.wrap ((↑j : Int) * (↑u : Int)) + (↑k : Int)) - (1 : Int))) && decide (IntKind.i64.wrap (IntKind.i64.wrap (IntKind.i64.wrap ((↑j : Int) * (↑u : Int)) + (↑k : Int)) - (1 : Int)) < (↑cl : Int))) then bif true && (true && (decide ((IntKind.i64.wrap (IntKind.i64.wrap (IntKind.i64.wrap ((↑j : Int) * (↑u : Int)) + (↑k : Int)) - (1 : Int))).toNat < az.length) && true)) then L2 f n n2 (mkS (50 : Nat) [((1 : Nat), AVal.ptr (0 : Nat) (0 : Nat) (0 : Nat)), ((2 : Nat), AVal.ptr (1 : Nat) (0 : Nat) (0 : Nat)), ((4 : Nat), AVal.ptr (4 : Nat) (0 : Nat) (0 : Nat)), ((5 : Nat), AVal.int IntKind.i64 (↑j : Int)), ((6 : Nat), AVal.int IntKind.i64 (IntKind.i64.wrap ((↑k : Int) + (1 : Int))))] [{ c := BC.cells [AVal.int IntKind.i64 (↑u : Int), AVal.int IntKind.i64 (↑r : Int), AVal.ro (Cont.ints IntKind.i64 ws) ws.length (1 : Nat), AVal.ro (Cont.ints IntKind.i64 cs) cs.length (1 : Nat)], ver := (0 : Nat) }, { c := BC.cells [AVal.int IntKind.i64 (0 : Int), AVal.int IntKind.i64 (0 : Int), AVal.nils, AVal.nils], ver := (0 : Nat) }, { c := BC.typ (Cont.ints IntKind.i64 ws), ver := (0 : Nat) }, { c := BC.typ (Cont.ints IntKind.i64 (az.set (IntKind.i64.wrap (IntKind.i64.wrap (IntKind.i64.wrap ((↑j : Int) * (↑u : Int)) + (↑k : Int)) - (1 : Int))).toNat (IntKind.i64.wrap (IntKind.i64.wrap ((↑k : Int) * bif (↑k : Int) == (0 : Int) then (0 : Int) else pot.cost.sv (↑u : Int) cs (↑j : Int) (↑k : Int)) - IntKind.i64.wrap (IntKind.i64.wrap ((↑k : Int) - (1 : Int)) * bif IntKind.i64.wrap ((↑k : Int) - (1 : Int)) == (0 : Int) then (0 : Int) else pot.cost.sv (↑u : Int) cs (↑j : Int) (IntKind.i64.wrap ((↑k : Int) - (1 : Int)))))))), ver := (0 : Nat) }, { c := BC.cells [AVal.int IntKind.i64 (↑u : Int), AVal.int IntKind.i64 (↑r : Int), AVal.own (2 : Nat) (0 : Nat) wl (0 : Nat) (1 : Nat), AVal.own (3 : Nat) (0 : Nat) cl (0 : Nat) (1 : Nat)], ver := (0 : Nat) }]) else none else none else none else none else none else none else L1 f n (mkS (50 : Nat) [((1 : Nat), AVal.ptr (0 : Nat) (0 : Nat) (0 : Nat)), ((2 : Nat), AVal.ptr (1 : Nat) (0 : Nat) (0 : Nat)), ((4 : Nat), AVal.ptr (4 : Nat) (0 : Nat) (0 : Nat)), ((5 : Nat), AVal.int IntKind.i64 (IntKind.i64.wrap ((↑j : Int) + (1 : Int))))] [{ c := BC.cells [AVal.int IntKind.i64 (↑u : Int), AVal.int IntKind.i64 (↑r : Int), AVal.ro (Cont.ints IntKind.i64 ws) ws.length (1 : Nat), AVal.ro (Cont.ints IntKind.i64 cs) cs.length (1 : Nat)], ver := (0 : Nat) }, { c := BC.cells [AVal.int IntKind.i64 (0 : Int), AVal.int IntKind.i64 (0 : Int), AVal.nils, AVal.nils], ver := (0 : Nat) }, { c := BC.typ (Cont.ints IntKind.i64 ws), ver := (0 : Nat) }, { c := BC.typ (Cont.ints IntKind.i64 az), ver := (0 : Nat) }, { c := BC.cells [AVal.int IntKind.i64 (↑u : Int), AVal.int IntKind.i64 (↑r : Int), AVal.own (2 : Nat) (0 : Nat) wl (0 : Nat) (1 : Nat), AVal.own (3 : Nat) (0 : Nat) cl (0 : Nat) (1 : Nat)], ver := (0 : Nat) }]) else none) := by kernel_rfl
theorem inner (u r : Nat) (ws cs : List Int) (f n j : Nat) (hv : crowd.sp u r ws cs = true) (hu : 1 ≤ u ∧ u ≤ 8) (hr : 1 ≤ r ∧ r ≤ 8) (hl : cs.length = r * u) (vc : ∀ x ∈ cs, -100000 ≤ x ∧ x ≤ 100000) (hj : j < r) : ∀ (d k n2 : Nat), k + d = u → d < n2 →
    L2 f n n2 (mkS 50 [(1, .ptr 0 0 0), (2, .ptr 1 0 0), (4, .ptr 4 0 0), (5, .int .i64 ((j : Nat) : Int)), (6, .int .i64 (((k + 1) : Nat) : Int))] [⟨.cells [.int .i64 u, .int .i64 r, .ro (.ints .i64 ws) ws.length 1, .ro (.ints .i64 cs) cs.length 1], 0⟩, ⟨.cells [.int .i64 0, .int .i64 0, .nils, .nils], 0⟩, ⟨.typ (.ints .i64 ws), 0⟩, ⟨.typ (.ints .i64 (ct.pre (tl.f u cs) u j k ++ cs.drop (j * u + k))), 0⟩, ⟨.cells [.int .i64 u, .int .i64 r, .own 2 0 ws.length 0 1, .own 3 0 cs.length 0 1], 0⟩]) = L1 f n (mkS 50 [(1, .ptr 0 0 0), (2, .ptr 1 0 0), (4, .ptr 4 0 0), (5, .int .i64 (((j + 1) : Nat) : Int))] [⟨.cells [.int .i64 u, .int .i64 r, .ro (.ints .i64 ws) ws.length 1, .ro (.ints .i64 cs) cs.length 1], 0⟩, ⟨.cells [.int .i64 0, .int .i64 0, .nils, .nils], 0⟩, ⟨.typ (.ints .i64 ws), 0⟩, ⟨.typ (.ints .i64 (ct.pre (tl.f u cs) u (j + 1) 0 ++ cs.drop ((j + 1) * u + 0))), 0⟩, ⟨.cells [.int .i64 u, .int .i64 r, .own 2 0 ws.length 0 1, .own 3 0 cs.length 0 1], 0⟩]) := by
  have h64 : r * u ≤ 8 * 8 := Nat.mul_le_mul hr.2 hu.2
  intro d
  induction d with
  | zero =>
    intro k n2 hk hn
    obtain ⟨n2, rfl⟩ : ∃ k, n2 = k + 1 := ⟨n2 - 1, by omega⟩
    obtain rfl : k = u := by omega
    rw [round2]
    have wj : IntKind.i64.wrap ((j : Int) + 1) = ((j + 1 : Nat) : Int) := wrap_nat j (by omega)
    have e : j * k + k = (j + 1) * k + 0 := by rw [Nat.add_mul, Nat.one_mul]; rfl
    have c : ¬ (((k + 1 : Nat) : Int) ≤ (k : Int)) := by omega
    simp -implicitDefEqProofs only [c, wj, ct.pre_next, e, decide_true, decide_false, Bool.and_self, Bool.or_self, Bool.and_true, Bool.true_and, Bool.and_false, Bool.false_and, Bool.or_true, Bool.true_or, Bool.or_false, Bool.false_or, Bool.not_true, Bool.not_false, cond_true, cond_false]
  | succ d ih =>
    intro k n2 hk' hn
    obtain ⟨n2, rfl⟩ : ∃ k, n2 = k + 1 := ⟨n2 - 1, by omega⟩
    have hk : k < u := by omega
    have hlt := ct.ix_lt (R := r) (C := u) hj hk
    have hih := ih (k + 1) n2 (by omega) (by omega)
    have c : ((k + 1 : Nat) : Int) ≤ (u : Int) := by omega
    have hjk : ((j * u : Nat) : Int) = (j : Int) * (u : Int) := Int.natCast_mul _ _
    have bnd : ∀ m : Int, -100000 ≤ pot.cost.sv (u : Int) cs j m ∧ pot.cost.sv (u : Int) cs j m ≤ 100000 := fun m => by
      unfold pot.cost.sv
      by_cases hh : ((j : Int) * (u : Int) + m - 1).toNat < cs.length
      · rw [gz_eq hh]; exact vc _ (List.getElem_mem _)
      · have : gz cs ((j : Int) * (u : Int) + m - 1).toNat = 0 := by unfold gz; rw [List.getD_eq_getElem?_getD, List.getElem?_eq_none (by omega)]; rfl
        omega
    have b1 := bnd ((k + 1 : Nat) : Int)
    have b2 := bnd (k : Int)
    have j0 : (0 : Int) ≤ (j : Int) * (u : Int) := by omega
    have j1 : (j : Int) * (u : Int) ≤ 64 := by omega
    have w0 : IntKind.i64.wrap ((j : Int) * (u : Int)) = ((j * u : Nat) : Int) := by rw [IntWalk.i64_in _ (by omega)]; omega
    have w1 : IntKind.i64.wrap (((j * u : Nat) : Int) + ((k + 1 : Nat) : Int)) = ((j * u + k + 1 : Nat) : Int) := by rw [IntWalk.i64_in _ (by omega)]; omega
    have w2 : IntKind.i64.wrap (((j * u + k + 1 : Nat) : Int) - 1) = ((j * u + k : Nat) : Int) := by rw [IntWalk.i64_in _ (by omega)]; omega
    have w3 : IntKind.i64.wrap (((k + 1 : Nat) : Int) - 1) = (k : Int) := by rw [IntWalk.i64_in _ (by omega)]; omega
    have w4 : IntKind.i64.wrap (((k + 1 : Nat) : Int) + 1) = ((k + 1 + 1 : Nat) : Int) := wrap_nat (k + 1) (by omega)
    have q0 : (0 : Int) ≤ ((j * u + k : Nat) : Int) := Int.natCast_nonneg _
    have q1 : ((j * u + k : Nat) : Int) < (cs.length : Int) := by omega
    have q2 : j * u + k < (ct.pre (tl.f (u : Int) cs) u j k ++ cs.drop (j * u + k)).length := by rw [List.length_append, ct.pre_length, List.length_drop]; omega
    have q3 : (0 : Int) ≤ ((k + 1 : Nat) : Int) := by omega
    have q4 : ((k + 1 : Nat) : Int) ≤ 64 := by omega
    have q5 : (0 : Int) ≤ (k : Int) := by omega
    have q6 : (k : Int) ≤ 64 := by omega
    have q7 : (j : Int) * (u : Int) + ((k + 1 : Nat) : Int) - 1 < (cs.length : Int) := by omega
    have q8 : (j : Int) * (u : Int) + (k : Int) - 1 < (cs.length : Int) := by omega
    have z1 : (((k + 1 : Nat) : Int) == 0) = false := by simp; omega
    have key : IntKind.i64.wrap (IntKind.i64.wrap (((k + 1 : Nat) : Int) * (bif ((k + 1 : Nat) : Int) == 0 then 0 else pot.cost.sv (u : Int) cs j ((k + 1 : Nat) : Int))) - IntKind.i64.wrap ((k : Int) * (bif (k : Int) == 0 then 0 else pot.cost.sv (u : Int) cs j (k : Int)))) = tl.f (u : Int) cs j k := by
      have m1 : ((k + 1 : Nat) : Int) * pot.cost.sv (u : Int) cs j ((k + 1 : Nat) : Int) ≤ 8 * 100000 ∧ -(8 * 100000) ≤ ((k + 1 : Nat) : Int) * pot.cost.sv (u : Int) cs j ((k + 1 : Nat) : Int) := by
        generalize pot.cost.sv (u : Int) cs j ((k + 1 : Nat) : Int) = z at b1
        have h8 : ((k + 1 : Nat) : Int) ≤ 8 := by omega
        generalize ((k + 1 : Nat) : Int) = m at h8 q3
        have c1 : m * z ≤ m * 100000 := Int.mul_le_mul_of_nonneg_left b1.2 (by omega)
        have c2 : m * (-100000) ≤ m * z := Int.mul_le_mul_of_nonneg_left b1.1 (by omega)
        omega
      have m2 : (k : Int) * pot.cost.sv (u : Int) cs j (k : Int) ≤ 8 * 100000 ∧ -(8 * 100000) ≤ (k : Int) * pot.cost.sv (u : Int) cs j (k : Int) := by
        generalize pot.cost.sv (u : Int) cs j (k : Int) = z at b2
        have h8 : (k : Int) ≤ 8 := by omega
        generalize (k : Int) = m at h8 q5
        have c1 : m * z ≤ m * 100000 := Int.mul_le_mul_of_nonneg_left b2.2 (by omega)
        have c2 : m * (-100000) ≤ m * z := Int.mul_le_mul_of_nonneg_left b2.1 (by omega)
        omega
      have e1 : ((k + 1 : Nat) : Int) - 1 = (k : Int) := by omega
      have e3 : (k : Int) * (bif (k : Int) == 0 then 0 else pot.cost.sv (u : Int) cs j (k : Int)) = (k : Int) * pot.cost.sv (u : Int) cs j (k : Int) := by
        by_cases hz : (k : Int) = 0
        · rw [hz]; simp
        · have : ((k : Int) == 0) = false := by simpa using hz
          rw [this, cond_false]
      unfold tl.f tl.sv
      rw [e1, e3, z1, cond_false]
      rw [IntWalk.i64_in (((k + 1 : Nat) : Int) * pot.cost.sv (u : Int) cs j ((k + 1 : Nat) : Int)) (by omega), IntWalk.i64_in ((k : Int) * pot.cost.sv (u : Int) cs j (k : Int)) (by omega), IntWalk.i64_in _ (by omega)]
    have ov : (ct.pre (tl.f (u : Int) cs) u j k ++ cs.drop (j * u + k)).set (j * u + k) (tl.f (u : Int) cs j k) = ct.pre (tl.f (u : Int) cs) u j (k + 1) ++ cs.drop (j * u + (k + 1)) := by
      rw [tl.over (ct.pre_length _ _ _ _) (by omega), ct.pre_succ]; rfl
    rw [round2]
    simp -implicitDefEqProofs only [c, w0, w1, w2, w3, w4, j0, j1, q0, q1, q2, q3, q4, q5, q6, q7, q8, key, ov, Nat.le_refl, Int.toNat_natCast, and_self, eq_self, decide_true, decide_false, Bool.and_self, Bool.or_self, Bool.and_true, Bool.true_and, Bool.and_false, Bool.false_and, Bool.or_true, Bool.true_or, Bool.or_false, Bool.false_or, Bool.not_true, Bool.not_false, cond_true, cond_false]
    exact hih
theorem outer (u r : Nat) (ws cs : List Int) (f : Nat) (hv : crowd.sp u r ws cs = true) (hu : 1 ≤ u ∧ u ≤ 8) (hr : 1 ≤ r ∧ r ≤ 8) (hl : cs.length = r * u) (vc : ∀ x ∈ cs, -100000 ≤ x ∧ x ≤ 100000) (hw4 : ws.length ≤ 4611686018427387904) (ht : crowd.sp u r ws (ct.tab (tl.f u cs) u r) = false) (hf : u < f) : ∀ (d j n : Nat), j + d = r → d < n →
    L1 f n (mkS 50 [(1, .ptr 0 0 0), (2, .ptr 1 0 0), (4, .ptr 4 0 0), (5, .int .i64 ((j : Nat) : Int))] [⟨.cells [.int .i64 u, .int .i64 r, .ro (.ints .i64 ws) ws.length 1, .ro (.ints .i64 cs) cs.length 1], 0⟩, ⟨.cells [.int .i64 0, .int .i64 0, .nils, .nils], 0⟩, ⟨.typ (.ints .i64 ws), 0⟩, ⟨.typ (.ints .i64 (ct.pre (tl.f u cs) u j 0 ++ cs.drop (j * u + 0))), 0⟩, ⟨.cells [.int .i64 u, .int .i64 r, .own 2 0 ws.length 0 1, .own 3 0 cs.length 0 1], 0⟩]) = some (.tup [.agg [.int .i64 0, .int .i64 0, .nils, .nils], .bool false], []) := by
  intro d
  induction d with
  | zero =>
    intro j n hj hn
    obtain ⟨n, rfl⟩ : ∃ k, n = k + 1 := ⟨n - 1, by omega⟩
    obtain rfl : j = r := by omega
    have hlen := ct.pre_length (tl.f (u : Int) cs) u j 0
    have ea : ct.pre (tl.f (u : Int) cs) u j 0 ++ cs.drop (j * u + 0) = ct.tab (tl.f (u : Int) cs) u j := by
      rw [Nat.add_zero, ← hl, List.drop_length, List.append_nil]; rfl
    have el : cs.length = (ct.tab (tl.f (u : Int) cs) u j).length := by unfold ct.tab; rw [hlen]; omega
    have q5 : cs.length ≤ 4611686018427387904 := by
      have h8 : j * u ≤ 8 * 8 := Nat.mul_le_mul hr.2 hu.2
      omega
    rw [ea]
    clear ea hlen
    generalize ct.tab (tl.f (u : Int) cs) u j = tb at ht el ⊢
    rw [round1]
    simp -implicitDefEqProofs only [Int.lt_irrefl, hw4, q5, ← el, ht, List.take_length, Nat.le_refl, and_self, eq_self, decide_true, decide_false, Bool.and_self, Bool.or_self, Bool.and_true, Bool.true_and, Bool.and_false, Bool.false_and, Bool.or_true, Bool.true_or, Bool.or_false, Bool.false_or, Bool.not_true, Bool.not_false, cond_true, cond_false]
    try rfl
  | succ d ih =>
    intro j n hj' hn
    obtain ⟨n, rfl⟩ : ∃ k, n = k + 1 := ⟨n - 1, by omega⟩
    have hj : j < r := by omega
    have hj5 : (j : Int) < (r : Int) := by omega
    rw [round1]
    simp -implicitDefEqProofs only [hj5, decide_true, decide_false, Bool.and_self, Bool.or_self, Bool.and_true, Bool.true_and, Bool.and_false, Bool.false_and, Bool.or_true, Bool.true_or, Bool.or_false, Bool.false_or, Bool.not_true, Bool.not_false, cond_true, cond_false]
    have hin := inner u r ws cs f n j hv hu hr hl vc hj u 0 f (by omega) hf
    have hout := ih (j + 1) n (by omega) (by omega)
    exact hin.trans hout
end sTolls_f

namespace tl
theorem small1 {u r : Int} {ws cs : List Int} (h : tl.sp u r ws cs = true) : ws.length ≤ 1000000 := by
  simp only [tl.sp, Bool.and_eq_true] at h
  obtain ⟨u, r, rfl, rfl, hu, hr, hw, hl, vc⟩ := ct.valid h.1
  omega
theorem small2 {u r : Int} {ws cs : List Int} (h : tl.sp u r ws cs = true) : (tl.t.sv u r cs).length ≤ 1000000 := by
  simp only [tl.sp, Bool.and_eq_true] at h
  obtain ⟨u, r, rfl, rfl, hu, hr, hw, hl, vc⟩ := ct.valid h.1
  have h8 : r * u ≤ 8 * 8 := Nat.mul_le_mul hr.2 hu.2
  unfold tl.t.sv ct.tab
  rw [ct.pre_length, Int.toNat_natCast, Int.toNat_natCast]; omega
end tl
namespace sTollsOf_t
def R : List AVal → Option (Bool × AVal × List Blk)
  | [.agg [.int .i64 u, .int .i64 r, .ro (.ints .i64 ws) mw 1, .ro (.ints .i64 cs) mc 1]] => some (decide (mw = ws.length ∧ mc = cs.length ∧ mw ≤ 4611686018427387904 ∧ mc ≤ 4611686018427387904) && tl.sp u r ws cs, .tup [.agg [.int .i64 u, .int .i64 r, .own 0 0 ws.length 0 1, .own 1 0 (tl.t.sv u r cs).length 0 1], .bool true], [⟨.typ (.ints .i64 ws), 0⟩, ⟨.typ (.ints .i64 (tl.t.sv u r cs)), 0⟩])
  | _ => none
theorem run : ∀ args v new, R args = some (true, v, new) → ∃ fuel, regc [2, 3] (runFn Try.prog (orcW [⟨41, l06Give_t.R⟩] [⟨38, l06Is.R⟩, ⟨39, l06Own.R⟩, ⟨40, l06CostA.R⟩]) sTolls_t.hd sTolls_t.dr none fuel (bodyOf Try.f10) 50 [.cell 2 26, .tmp 3] args []) = some (v, new) := by
  intro args v new h
  unfold R at h
  split at h
  · rename_i u r ws mw cs mc
    simp only [Option.some.injEq, Prod.mk.injEq, Bool.and_eq_true, decide_eq_true_eq, Bool.not_eq_true'] at h
    obtain ⟨⟨⟨rfl, rfl, h3, h4⟩, hs⟩, rfl, rfl⟩ := h
    obtain ⟨F, hF⟩ : ∃ F : Nat, F = 100 := ⟨100, rfl⟩
    refine ⟨F, ?_⟩
    rw [sTolls_t.start]
    simp only [tl.sp, Bool.and_eq_true] at hs
    obtain ⟨hv, ht⟩ := hs
    have hv2 := hv
    obtain ⟨u, r, rfl, rfl, hu, hr, hw, hl, vc⟩ := ct.valid hv2
    have h8 : r * u ≤ 8 * 8 := Nat.mul_le_mul hr.2 hu.2
    have hall := sTolls_t.outer u r ws cs F hv hu hr hl vc h3 (by simpa only [tl.t.sv, Int.toNat_natCast] using ht) (by omega) r 0 F (by omega) (by omega)
    have e0 : ct.pre (tl.f (u : Int) cs) u 0 0 ++ cs.drop (0 * u + 0) = cs := by simp [ct.pre_zero]
    rw [e0] at hall
    have l1 : ws.length ≤ 1048576 := by omega
    have l2 : cs.length ≤ 1048576 := by omega
    have lt : (tl.t.sv (u : Int) (r : Int) cs).length = cs.length := by unfold tl.t.sv ct.tab; rw [ct.pre_length, Int.toNat_natCast, Int.toNat_natCast]; omega
    rw [lt]
    simp -implicitDefEqProofs only [h3, h4, hv, l1, l2, List.take_length, Nat.le_refl, and_self, eq_self, decide_true, decide_false, Bool.and_self, Bool.or_self, Bool.and_true, Bool.true_and, Bool.and_false, Bool.false_and, Bool.or_true, Bool.true_or, Bool.or_false, Bool.false_or, Bool.not_true, Bool.not_false, cond_true, cond_false]
    exact (congrArg (regc [2, 3]) hall).trans rfl
  · cases h
theorem ok : EntOk Try.prog ⟨10, R⟩ :=
  ent_okAG (ks := [2, 3]) mixed (A := (orcW [⟨41, l06Give_t.R⟩] [⟨38, l06Is.R⟩, ⟨39, l06Own.R⟩, ⟨40, l06CostA.R⟩])) (orcW_ok (by simp only [List.mem_cons, List.not_mem_nil, or_false, forall_eq_or_imp, forall_eq]; exact l06Give_t.ok) (by simp only [List.mem_cons, List.not_mem_nil, or_false, forall_eq_or_imp, forall_eq]; exact ⟨l06Is.ok, l06Own.ok, l06CostA.ok⟩)) Try.func10 (by kernel_rfl) (by kernel_rfl) (n := 50) (ts := [.cell 2 26, .tmp 3]) (hd := sTolls_t.hd) (dr := sTolls_t.dr) (cut := none) (by kernel_rfl) (by kernel_rfl) (by kernel_rfl) run
end sTollsOf_t

namespace sTollsOf_f
def R : List AVal → Option (Bool × AVal × List Blk)
  | [.agg [.int .i64 u, .int .i64 r, .ro (.ints .i64 ws) mw 1, .ro (.ints .i64 cs) mc 1]] => some (decide (mw = ws.length ∧ mc = cs.length ∧ mw ≤ 4611686018427387904 ∧ mc ≤ 4611686018427387904) && !tl.sp u r ws cs, .tup [.agg [.int .i64 0, .int .i64 0, .nils, .nils], .bool false], [])
  | _ => none
theorem run : ∀ args v new, R args = some (true, v, new) → ∃ fuel, runFn Try.prog (orcW [⟨41, l06Give_f.R⟩] [⟨38, l06Is.R⟩, ⟨39, l06Own.R⟩, ⟨40, l06CostA.R⟩]) sTolls_f.hd sTolls_f.dr (some 0) fuel (bodyOf Try.f10) 50 [.cell 2 26, .tmp 3] args [] = some (v, new) := by
  intro args v new h
  unfold R at h
  split at h
  · rename_i u r ws mw cs mc
    simp only [Option.some.injEq, Prod.mk.injEq, Bool.and_eq_true, decide_eq_true_eq, Bool.not_eq_true'] at h
    obtain ⟨⟨⟨rfl, rfl, h3, h4⟩, hs⟩, rfl, rfl⟩ := h
    obtain ⟨F, hF⟩ : ∃ F : Nat, F = 100 := ⟨100, rfl⟩
    refine ⟨F, ?_⟩
    rw [sTolls_f.start]
    simp only [tl.sp] at hs
    cases hv : crowd.sp u r ws cs
    · simp -implicitDefEqProofs only [h3, h4, hv, List.take_length, Nat.le_refl, and_self, eq_self, decide_true, decide_false, Bool.and_self, Bool.or_self, Bool.and_true, Bool.true_and, Bool.and_false, Bool.false_and, Bool.or_true, Bool.true_or, Bool.or_false, Bool.false_or, Bool.not_true, Bool.not_false, cond_true, cond_false]
    · rw [hv, Bool.true_and] at hs
      have ht := hs
      have hv2 := hv
      obtain ⟨u, r, rfl, rfl, hu, hr, hw, hl, vc⟩ := ct.valid hv2
      have h8 : r * u ≤ 8 * 8 := Nat.mul_le_mul hr.2 hu.2
      have hall := sTolls_f.outer u r ws cs F hv hu hr hl vc h3 (by simpa only [tl.t.sv, Int.toNat_natCast] using ht) (by omega) r 0 F (by omega) (by omega)
      have e0 : ct.pre (tl.f (u : Int) cs) u 0 0 ++ cs.drop (0 * u + 0) = cs := by simp [ct.pre_zero]
      rw [e0] at hall
      have l1 : ws.length ≤ 1048576 := by omega
      have l2 : cs.length ≤ 1048576 := by omega
      simp -implicitDefEqProofs only [h3, h4, hv, l1, l2, List.take_length, Nat.le_refl, and_self, eq_self, decide_true, decide_false, Bool.and_self, Bool.or_self, Bool.and_true, Bool.true_and, Bool.and_false, Bool.false_and, Bool.or_true, Bool.true_or, Bool.or_false, Bool.false_or, Bool.not_true, Bool.not_false, cond_true, cond_false]
      exact hall
  · cases h
theorem ok : EntOk Try.prog ⟨10, R⟩ :=
  ent_okA mixed (A := (orcW [⟨41, l06Give_f.R⟩] [⟨38, l06Is.R⟩, ⟨39, l06Own.R⟩, ⟨40, l06CostA.R⟩])) (orcW_ok (by simp only [List.mem_cons, List.not_mem_nil, or_false, forall_eq_or_imp, forall_eq]; exact l06Give_f.ok) (by simp only [List.mem_cons, List.not_mem_nil, or_false, forall_eq_or_imp, forall_eq]; exact ⟨l06Is.ok, l06Own.ok, l06CostA.ok⟩)) Try.func10 (by kernel_rfl) (by kernel_rfl) (n := 50) (ts := [.cell 2 26, .tmp 3]) (hd := sTolls_f.hd) (dr := sTolls_f.dr) (cut := (some 0)) (by kernel_rfl) (by kernel_rfl) (by kernel_rfl) run
end sTollsOf_f

namespace sTollsOf
def Rt := sTollsOf_t.R
def Rf := sTollsOf_f.R
theorem okt : EntOk Try.prog ⟨10, Rt⟩ := sTollsOf_t.ok
theorem okf : EntOk Try.prog ⟨10, Rf⟩ := sTollsOf_f.ok
end sTollsOf

namespace iTollsOf_t
def R : List AVal → Option (Bool × AVal × List Blk)
  | [.agg [.int .i64 u, .int .i64 r, .ro (.ints .i64 ws) mw 1, .ro (.ints .i64 cs) mc 1]] => some (decide (mw = ws.length ∧ mc = cs.length ∧ mw ≤ 4611686018427387904 ∧ mc ≤ 4611686018427387904) && tl.sp u r ws cs, .tup [.agg [.int .i64 u, .int .i64 r, .own 0 0 ws.length 0 1, .own 1 0 (tl.t.sv u r cs).length 0 1], .bool true], [⟨.typ (.ints .i64 ws), 0⟩, ⟨.typ (.ints .i64 (tl.t.sv u r cs)), 0⟩])
  | _ => none
theorem go (u r : Int) (ws cs : List Int) :
  regc [2, 3] (runFn Try.prog (orc [⟨42, turnedTolls_t.R⟩]) hd0 Dr.std none 0 (bodyOf Try.f12) 9 [.cell 2 26, .tmp 3] [.agg [.int .i64 u, .int .i64 r, .ro (.ints .i64 ws) ws.length 1, .ro (.ints .i64 cs) cs.length 1]] [])
  = (match bif true && true && (true && true && (true && true && (true && true && true))) then bif decide (ws.length = ws.length ∧ cs.length = cs.length ∧ ws.length ≤ (4611686018427387904 : Nat) ∧ cs.length ≤ (4611686018427387904 : Nat) ∧ (43 : Nat) = (43 : FuncId) ∧ u = u ∧ r = r ∧ ws = ws ∧ cs = cs ∧ ws.length = ws.length ∧ cs.length = cs.length) && tl.sp u r ws cs && (true && (true && (true && (true && true))) && false || true && (true && (true && (true && true))) && true && (true && (true && true))) then bif true && (true && (true && (true && (true && (true && true))))) then bif true && true && (true && true && (true && true && (true && true && true))) && true then some (AVal.tup [AVal.agg [AVal.int IntKind.i64 u, AVal.int IntKind.i64 r, AVal.own (2 : Nat) (0 : Nat) ws.length (0 : Nat) (1 : Nat), AVal.own (3 : Nat) (0 : Nat) (tl.t.sv u r cs).length (0 : Nat) (1 : Nat)], AVal.bool true], [{ c := BC.cells [AVal.int IntKind.i64 u, AVal.int IntKind.i64 r, AVal.ro (Cont.ints IntKind.i64 ws) ws.length (1 : Nat), AVal.ro (Cont.ints IntKind.i64 cs) cs.length (1 : Nat)], ver := (0 : Nat) }, { c := BC.cells [AVal.int IntKind.i64 u, AVal.int IntKind.i64 r, AVal.own (2 : Nat) (0 : Nat) ws.length (0 : Nat) (1 : Nat), AVal.own (3 : Nat) (0 : Nat) (tl.t.sv u r cs).length (0 : Nat) (1 : Nat)], ver := (0 : Nat) }, { c := BC.typ (Cont.ints IntKind.i64 ws), ver := (0 : Nat) }, { c := BC.typ (Cont.ints IntKind.i64 (tl.t.sv u r cs)), ver := (0 : Nat) }]) else none else none else none else none with
| some (v, h) =>
  bif true && (ltN (2 : Nat) (hlen h) && (ltN (3 : Nat) (hlen h) && true)) then
    some
      (AVal.re [(2 : Nat), (3 : Nat)] h v,
        match nth h (2 : Nat) with
        | some b => { c := BC.re [(2 : Nat), (3 : Nat)] h b.c, ver := b.ver } :: reB [(2 : Nat), (3 : Nat)] h [(3 : Nat)]
        | none => { c := BC.cells [], ver := (0 : Nat) } :: reB [(2 : Nat), (3 : Nat)] h [(3 : Nat)])
  else none
| none => none) := by kernel_rfl
theorem run : ∀ args v new, R args = some (true, v, new) → ∃ fuel, regc [2, 3] (runFn Try.prog (orc [⟨42, turnedTolls_t.R⟩]) hd0 Dr.std none fuel (bodyOf Try.f12) 9 [.cell 2 26, .tmp 3] args []) = some (v, new) := by
  intro args v new h
  unfold R at h
  split at h
  · rename_i u r ws mw cs mc
    simp only [Option.some.injEq, Prod.mk.injEq, Bool.and_eq_true, decide_eq_true_eq, Bool.not_eq_true'] at h
    obtain ⟨⟨⟨rfl, rfl, h3, h4⟩, hs⟩, rfl, rfl⟩ := h
    refine ⟨0, ?_⟩
    rw [go]
    simp only [h3, h4, hs, and_self, true_and, and_true, eq_self, decide_true, decide_false, Bool.and_self, Bool.or_self, Bool.and_true, Bool.true_and, Bool.and_false, Bool.false_and, Bool.or_true, Bool.true_or, Bool.or_false, Bool.false_or, Bool.not_true, Bool.not_false, cond_true, cond_false]
    try rfl
  · cases h
theorem ok : EntOk Try.prog ⟨12, R⟩ :=
  ent_okAG (ks := [2, 3]) mixed (A := (orc [⟨42, turnedTolls_t.R⟩])) (orc_ok (by simp only [List.mem_cons, List.not_mem_nil, or_false, forall_eq_or_imp, forall_eq]; exact turnedTolls_t.ok)) Try.func12 (by kernel_rfl) (by kernel_rfl) (n := 9) (ts := [.cell 2 26, .tmp 3]) (hd := hd0) (dr := Dr.std) (cut := none) (by kernel_rfl) (by kernel_rfl) (by kernel_rfl) run
end iTollsOf_t

namespace iTollsOf_f
def R : List AVal → Option (Bool × AVal × List Blk)
  | [.agg [.int .i64 u, .int .i64 r, .ro (.ints .i64 ws) mw 1, .ro (.ints .i64 cs) mc 1]] => some (decide (mw = ws.length ∧ mc = cs.length ∧ mw ≤ 4611686018427387904 ∧ mc ≤ 4611686018427387904) && !tl.sp u r ws cs, .tup [.agg [.int .i64 0, .int .i64 0, .nils, .nils], .bool false], [])
  | _ => none
theorem go (u r : Int) (ws cs : List Int) :
  runFn Try.prog (orc [⟨42, turnedTolls_f.R⟩]) hd0 Dr.std (some 0) 0 (bodyOf Try.f12) 9 [.cell 2 26, .tmp 3] [.agg [.int .i64 u, .int .i64 r, .ro (.ints .i64 ws) ws.length 1, .ro (.ints .i64 cs) cs.length 1]] []
  = (bif true && true && (true && true && (true && true && (true && true && true))) then bif decide (ws.length = ws.length ∧ cs.length = cs.length ∧ ws.length ≤ (4611686018427387904 : Nat) ∧ cs.length ≤ (4611686018427387904 : Nat) ∧ (43 : Nat) = (43 : FuncId) ∧ u = u ∧ r = r ∧ ws = ws ∧ cs = cs ∧ ws.length = ws.length ∧ cs.length = cs.length) && !tl.sp u r ws cs && (true && (true && (true && (true && true))) && false || true && true) then some (AVal.tup [AVal.agg [AVal.int IntKind.i64 (0 : Int), AVal.int IntKind.i64 (0 : Int), AVal.nils, AVal.nils], AVal.bool false], []) else none else none) := by kernel_rfl
theorem run : ∀ args v new, R args = some (true, v, new) → ∃ fuel, runFn Try.prog (orc [⟨42, turnedTolls_f.R⟩]) hd0 Dr.std (some 0) fuel (bodyOf Try.f12) 9 [.cell 2 26, .tmp 3] args [] = some (v, new) := by
  intro args v new h
  unfold R at h
  split at h
  · rename_i u r ws mw cs mc
    simp only [Option.some.injEq, Prod.mk.injEq, Bool.and_eq_true, decide_eq_true_eq, Bool.not_eq_true'] at h
    obtain ⟨⟨⟨rfl, rfl, h3, h4⟩, hs⟩, rfl, rfl⟩ := h
    refine ⟨0, ?_⟩
    rw [go]
    simp only [h3, h4, hs, and_self, true_and, and_true, eq_self, decide_true, decide_false, Bool.and_self, Bool.or_self, Bool.and_true, Bool.true_and, Bool.and_false, Bool.false_and, Bool.or_true, Bool.true_or, Bool.or_false, Bool.false_or, Bool.not_true, Bool.not_false, cond_true, cond_false]
    try rfl
  · cases h
theorem ok : EntOk Try.prog ⟨12, R⟩ :=
  ent_okA mixed (A := (orc [⟨42, turnedTolls_f.R⟩])) (orc_ok (by simp only [List.mem_cons, List.not_mem_nil, or_false, forall_eq_or_imp, forall_eq]; exact turnedTolls_f.ok)) Try.func12 (by kernel_rfl) (by kernel_rfl) (n := 9) (ts := [.cell 2 26, .tmp 3]) (hd := hd0) (dr := Dr.std) (cut := (some 0)) (by kernel_rfl) (by kernel_rfl) (by kernel_rfl) run
end iTollsOf_f

namespace iTollsOf
def Rt := iTollsOf_t.R
def Rf := iTollsOf_f.R
theorem okt : EntOk Try.prog ⟨12, Rt⟩ := iTollsOf_t.ok
theorem okf : EntOk Try.prog ⟨12, Rf⟩ := iTollsOf_f.ok
end iTollsOf

end Go.Proofs.Ytgeglpommdckgaa.Ab
