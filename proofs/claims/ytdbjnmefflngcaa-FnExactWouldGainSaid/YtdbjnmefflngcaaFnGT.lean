/-
  The law of what a player would gain.
-/
import Derived.Test.YtdbjnmefflngcaaFnGS
namespace Go.Proofs.Ytdbjnmefflngcaa.Ab
open Go
set_option linter.unusedVariables false
set_option linter.unusedSimpArgs false
set_option maxRecDepth 100000

namespace sWouldGain
end sWouldGain
namespace FnExactWouldGain
def R : List AVal → Option (Bool × AVal × List Blk)
  | [.agg [.int .i64 u, .int .i64 r, .ro (.ints .i64 ws) mw 1, .ro (.ints .i64 cs) mc 1], .ro (.flts .f32 p) pl 1, .ro (.flts .f32 q) ql 1] => some (decide (mw ≤ ws.length ∧ mc ≤ cs.length ∧ mw ≤ 9223372036854775807 ∧ mc ≤ 9223372036854775807 ∧ pl ≤ p.length ∧ ql ≤ q.length), .bool true, [])
  | _ => none
theorem go (u r : Int) (ws cs : List Int) (mw mc : Nat) (p : List Nat) (pl : Nat) (q : List Nat) (ql : Nat) :
  runFn Try.prog (orc [⟨10, szGame.R⟩, ⟨12, toGame.R⟩, ⟨15, eqGameN.R⟩, ⟨20, toFloat32S.R⟩, ⟨19, sWouldGain.R⟩, ⟨21, iWouldGain.R⟩, ⟨23, eqFloat32N.R⟩, ⟨22, sameFloat.R⟩]) hd0 Dr.std (some 0) 0 (bodyOf Try.f4) 75 [6] [.agg [.int .i64 u, .int .i64 r, .ro (.ints .i64 ws) mw 1, .ro (.ints .i64 cs) mc 1], .ro (.flts .f32 p) pl 1, .ro (.flts .f32 q) ql 1] []
  = (bif decide ((1048576 : Int) < (↑pl : Int)) then some (AVal.bool true, []) else bif decide ((1048576 : Int) < (↑ql : Int)) then some (AVal.bool true, []) else bif true && true && (true && true && (true && true && (true && true && true))) then bif decide (mw ≤ (9223372036854775807 : Nat) ∧ mc ≤ (9223372036854775807 : Nat) ∧ (0 : Int) ≤ (1048576 : Int) ∧ (1048576 : Int) ≤ (9223372036854775807 : Int)) && (true && (true && (true && (true && true))) && true || true && true) then bif decide ((bif decide ((1048576 : Int) - (↑mw : Int) < (0 : Int)) then (-1 : Int) else bif decide ((1048576 : Int) - (↑mw : Int) - (↑mc : Int) < (0 : Int)) then (-1 : Int) else (1048576 : Int) - (↑mw : Int) - (↑mc : Int)) < (0 : Int)) then some (AVal.bool true, []) else bif true && true && (true && true && (true && true && (true && true && true))) then bif decide (mw ≤ ws.length ∧ mw ≤ (1048576 : Nat) ∧ mc ≤ cs.length ∧ mc ≤ (1048576 : Nat)) && (true && (true && (true && (true && true))) && true || true && (true && (true && (true && true))) && (true && (true && true))) then bif decide (pl ≤ p.length ∧ pl ≤ (1048576 : Nat)) && (true && true || true && (true && true)) then bif decide (ql ≤ q.length ∧ ql ≤ (1048576 : Nat)) && (true && true || true && (true && true)) then bif decide (mw = (List.take mw ws).length ∧ mc = (List.take mc cs).length ∧ mw ≤ (4611686018427387904 : Nat) ∧ mc ≤ (4611686018427387904 : Nat) ∧ pl = (List.take pl p).length ∧ pl ≤ (4611686018427387904 : Nat) ∧ ql = (List.take ql q).length ∧ ql ≤ (4611686018427387904 : Nat)) && (true && (true && (false && (false && true))) && (false && (false && true)) || true && (true && true) && true) then bif true && true && (true && true && (true && true && (true && true && true))) then bif decide (mw ≤ ws.length ∧ mw ≤ (1048576 : Nat) ∧ mc ≤ cs.length ∧ mc ≤ (1048576 : Nat)) && (true && (true && (true && (true && true))) && true || true && (true && (true && (true && true))) && (true && (true && true))) then bif true && (true && (true && (true && (true && (true && true))))) then bif decide (pl ≤ p.length ∧ pl ≤ (1048576 : Nat)) && (true && true || true && (true && true)) then bif decide (ql ≤ q.length ∧ ql ≤ (1048576 : Nat)) && (true && true || true && (true && true)) then bif true && true && (true && true && (true && true && (true && true && true))) then bif decide (mw = (List.take mw ws).length ∧ mc = (List.take mc cs).length ∧ mw ≤ (4611686018427387904 : Nat) ∧ mc ≤ (4611686018427387904 : Nat) ∧ pl = (List.take pl p).length ∧ pl ≤ (4611686018427387904 : Nat) ∧ ql = (List.take ql q).length ∧ ql ≤ (4611686018427387904 : Nat)) && (true && (true && (false && (false && true))) && (false && (false && true)) || true && (true && true) && true) then bif decide (fwid.sv (wg.v.sv u r (List.take mw ws) (List.take mc cs) (List.take pl p) (List.take ql q)) = fwid.sv (wg.v.sv u r (List.take mw ws) (List.take mc cs) (List.take pl p) (List.take ql q))) && (true && (true && true) || true && true) then bif !wg.sp u r (List.take mw ws) (List.take mc cs) (List.take pl p) (List.take ql q) == wg.sp u r (List.take mw ws) (List.take mc cs) (List.take pl p) (List.take ql q) then some (AVal.bool false, []) else bif true && true && (true && true && (true && true && (true && true && true))) then bif true && true && (true && true && (true && true && (true && true && true))) then bif decide (mw ≤ ws.length ∧ mw ≤ (1048576 : Nat) ∧ mc ≤ cs.length ∧ mc ≤ (1048576 : Nat)) && (true && (true && (true && (true && true))) && true || true && (true && (true && (true && true))) && (true && (true && true))) then bif decide (mw ≤ (List.take mw ws).length ∧ mw ≤ (List.take mw ws).length ∧ mw ≤ (4611686018427387904 : Nat) ∧ mc ≤ (List.take mc cs).length ∧ mc ≤ (List.take mc cs).length ∧ mc ≤ (4611686018427387904 : Nat)) && (true && (true && (false && (false && true))) && (true && (true && (false && (false && true))) && true) || true && true) then bif !(decide (u = u) && (decide (r = r) && (decide (List.take mw (List.take mw ws) = List.take mw (List.take mw ws)) && decide (List.take mc (List.take mc cs) = List.take mc (List.take mc cs))))) then some (AVal.bool false, []) else bif decide (pl ≤ p.length ∧ pl ≤ (1048576 : Nat)) && (true && true || true && (true && true)) then bif decide (pl ≤ (List.take pl p).length ∧ pl ≤ (List.take pl p).length ∧ pl ≤ (4611686018427387904 : Nat) ∧ pl = pl ∧ List.take pl (List.take pl p) = List.take pl (List.take pl p)) && (false && (false && true) || true && true) then bif decide (ql ≤ q.length ∧ ql ≤ (1048576 : Nat)) && (true && true || true && (true && true)) then bif decide (ql ≤ (List.take ql q).length ∧ ql ≤ (List.take ql q).length ∧ ql ≤ (4611686018427387904 : Nat) ∧ ql = ql ∧ List.take ql (List.take ql q) = List.take ql (List.take ql q)) && (false && (false && true) || true && true) then some (AVal.bool true, []) else none else none else none else none else none else none else none else none else none else none else none else none else none else none else none else none else none else none else none else none else none else none else none) := by kernel_rfl
theorem run : ∀ args v new, R args = some (true, v, new) → ∃ fuel, runFn Try.prog (orc [⟨10, szGame.R⟩, ⟨12, toGame.R⟩, ⟨15, eqGameN.R⟩, ⟨20, toFloat32S.R⟩, ⟨19, sWouldGain.R⟩, ⟨21, iWouldGain.R⟩, ⟨23, eqFloat32N.R⟩, ⟨22, sameFloat.R⟩]) hd0 Dr.std (some 0) fuel (bodyOf Try.f4) 75 [6] args [] = some (v, new) := by
  intro args v new h
  unfold R at h
  split at h
  · rename_i u r ws mw cs mc p pl q ql
    simp only [Option.some.injEq, Prod.mk.injEq, decide_eq_true_eq] at h
    obtain ⟨⟨h1, h2, h3, h4, hl0, hl1⟩, rfl, rfl⟩ := h
    refine ⟨0, ?_⟩
    rw [go]
    have z1 : (0 : Int) ≤ 1048576 := by decide
    have z2 : (1048576 : Int) ≤ 9223372036854775807 := by decide
    have z3 : (-1 : Int) < 0 := by decide
    by_cases bl0 : (1048576 : Int) < (pl : Int)
    · simp only [bl0, h3, h4, z1, z2, z3, List.take_take, Nat.min_self, Nat.le_refl, List.take_length, marks_length, take_marks, one_neg, i0_1, i1_b, true_and, and_true, and_self, decide_true, decide_false, Bool.and_self, Bool.or_self, Bool.and_true, Bool.true_and, Bool.and_false, Bool.false_and, Bool.or_true, Bool.true_or, Bool.or_false, Bool.false_or, Bool.not_true, Bool.not_false, cond_true, cond_false, bne_self_eq_false, beq_self_eq_true]
    by_cases bl1 : (1048576 : Int) < (ql : Int)
    · simp only [bl1, h3, h4, z1, z2, z3, bl0, List.take_take, Nat.min_self, Nat.le_refl, List.take_length, marks_length, take_marks, one_neg, i0_1, i1_b, true_and, and_true, and_self, decide_true, decide_false, Bool.and_self, Bool.or_self, Bool.and_true, Bool.true_and, Bool.and_false, Bool.false_and, Bool.or_true, Bool.true_or, Bool.or_false, Bool.false_or, Bool.not_true, Bool.not_false, cond_true, cond_false, bne_self_eq_false, beq_self_eq_true]
    by_cases a1 : (1048576 : Int) - (mw : Int) < 0
    · simp only [a1, h3, h4, z1, z2, z3, bl0, bl1, List.take_take, Nat.min_self, Nat.le_refl, List.take_length, marks_length, take_marks, one_neg, i0_1, i1_b, true_and, and_true, and_self, decide_true, decide_false, Bool.and_self, Bool.or_self, Bool.and_true, Bool.true_and, Bool.and_false, Bool.false_and, Bool.or_true, Bool.true_or, Bool.or_false, Bool.false_or, Bool.not_true, Bool.not_false, cond_true, cond_false, bne_self_eq_false, beq_self_eq_true]
    by_cases a2 : (1048576 : Int) - (mw : Int) - (mc : Int) < 0
    · simp only [a1, a2, h3, h4, z1, z2, z3, bl0, bl1, List.take_take, Nat.min_self, Nat.le_refl, List.take_length, marks_length, take_marks, one_neg, i0_1, i1_b, true_and, and_true, and_self, decide_true, decide_false, Bool.and_self, Bool.or_self, Bool.and_true, Bool.true_and, Bool.and_false, Bool.false_and, Bool.or_true, Bool.true_or, Bool.or_false, Bool.false_or, Bool.not_true, Bool.not_false, cond_true, cond_false, bne_self_eq_false, beq_self_eq_true]
    have b1 : mw ≤ 1048576 := by omega
    have b2 : mc ≤ 1048576 := by omega
    have b5 : mw ≤ 4611686018427387904 := by omega
    have b6 : mc ≤ 4611686018427387904 := by omega
    have e1 : (ws.take mw).length = mw := by simp; omega
    have e2 : (cs.take mc).length = mc := by simp; omega
    have bm0 : pl ≤ 1048576 := by omega
    have bn0 : pl ≤ 4611686018427387904 := by omega
    have el0 : (p.take pl).length = pl := by simp; omega
    have et0 : (p.take pl).take pl = p.take pl := List.take_of_length_le (by omega)
    have bm1 : ql ≤ 1048576 := by omega
    have bn1 : ql ≤ 4611686018427387904 := by omega
    have el1 : (q.take ql).length = ql := by simp; omega
    have et1 : (q.take ql).take ql = q.take ql := List.take_of_length_le (by omega)
    have et2 : (ws.take mw).take mw = ws.take mw := List.take_of_length_le (by omega)
    have et3 : (cs.take mc).take mc = cs.take mc := List.take_of_length_le (by omega)
    simp only [h3, h4, z1, z2, z3, bl0, bl1, a1, a2, b1, b2, b5, b6, e1, e2, h1, h2, bm0, bn0, el0, et0, hl0, bm1, bn1, el1, et1, hl1, et2, et3, List.take_take, Nat.min_self, Nat.le_refl, List.take_length, marks_length, take_marks, one_neg, i0_1, i1_b, true_and, and_true, and_self, decide_true, decide_false, Bool.and_self, Bool.or_self, Bool.and_true, Bool.true_and, Bool.and_false, Bool.false_and, Bool.or_true, Bool.true_or, Bool.or_false, Bool.false_or, Bool.not_true, Bool.not_false, cond_true, cond_false, bne_self_eq_false, beq_self_eq_true, eq_self, bne_self_eq_false, Nat.le_refl]
  · cases h
theorem ok : EntOk Try.prog ⟨4, R⟩ :=
  ent_okA mixed (A := (orc [⟨10, szGame.R⟩, ⟨12, toGame.R⟩, ⟨15, eqGameN.R⟩, ⟨20, toFloat32S.R⟩, ⟨19, sWouldGain.R⟩, ⟨21, iWouldGain.R⟩, ⟨23, eqFloat32N.R⟩, ⟨22, sameFloat.R⟩])) (orc_ok (by simp only [List.mem_cons, List.not_mem_nil, or_false, forall_eq_or_imp, forall_eq]; exact ⟨szGame.ok, toGame.ok, eqGameN.ok, toFloat32S.ok, sWouldGain.ok, iWouldGain.ok, eqFloat32N.ok, sameFloat.ok⟩)) Try.func4 (by kernel_rfl) (by kernel_rfl) (n := 75) (ts := [6]) (hd := hd0) (dr := Dr.std) (cut := (some 0)) (by kernel_rfl) (by kernel_rfl) (by kernel_rfl) run
end FnExactWouldGain

end Go.Proofs.Ytdbjnmefflngcaa.Ab
