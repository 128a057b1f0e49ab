/-
  The law of the least total.
-/
import Derived.Test.YtgeglpommdckgaaFnOH
namespace Go.Proofs.Ytgeglpommdckgaa.Ab
open Go
set_option linter.unusedVariables false
set_option linter.unusedSimpArgs false
set_option maxRecDepth 100000

theorem od.B_small {u r : Int} {ws cs : List Int} (h : od.ok.sp u r ws cs = true) : (od.B.sv u r ws cs).length ≤ 4611686018427387904 := by
  simp only [od.ok.sp, Bool.and_eq_true] at h
  obtain ⟨hu, _⟩ := od.crowd h.1
  unfold od.B.sv
  rw [od.best_length]; omega
theorem od.B_len {u r : Int} {ws cs : List Int} : (od.B.sv u r ws cs).length = u.toNat := by
  unfold od.B.sv
  rw [od.best_length]

namespace FnExactLeastTotalt
def R : List AVal → Option (Bool × AVal × List Blk)
  | [.agg [.int .i64 u, .int .i64 r, .ro (.ints .i64 ws) mw 1, .ro (.ints .i64 cs) mc 1]] => some (decide (mw ≤ ws.length ∧ mc ≤ cs.length ∧ mw ≤ 9223372036854775807 ∧ mc ≤ 9223372036854775807) && (decide ((1048576 : Int) - (mw : Int) < 0 ∨ (1048576 : Int) - (mw : Int) - (mc : Int) < 0) || (od.ok.sp u r (ws.take mw) (cs.take mc))), .bool true, [])
  | _ => none
theorem go (u r : Int) (ws cs : List Int) (mw mc : Nat) :
  runFn Try.prog (orcW [⟨14, markCrowd.R⟩, ⟨20, markInt64S.R⟩] [⟨9, szCrowd.R⟩, ⟨11, toCrowd.R⟩, ⟨13, eqCrowd.R⟩, ⟨21, sLeastTotal.Rt⟩, ⟨22, iLeastTotal.Rt⟩, ⟨19, eqInt64N.R⟩, ⟨23, heldInt64S.R⟩]) hd0 Dr.std (some 0) 0 (bodyOf Try.f5) 117 [2] [.agg [.int .i64 u, .int .i64 r, .ro (.ints .i64 ws) mw 1, .ro (.ints .i64 cs) mc 1]] []
  = (bif true && true && (true && true && (true && true && (true && true && true))) then bif decide (mw ≤ (9223372036854775807 : Nat) ∧ mc ≤ (9223372036854775807 : Nat) ∧ (0 : Int) ≤ (1048576 : Int) ∧ (1048576 : Int) ≤ (9223372036854775807 : Int)) && (true && (true && (true && (true && true))) && true || true && true) then bif decide ((bif decide ((1048576 : Int) - (↑mw : Int) < (0 : Int)) then (-1 : Int) else bif decide ((1048576 : Int) - (↑mw : Int) - (↑mc : Int) < (0 : Int)) then (-1 : Int) else (1048576 : Int) - (↑mw : Int) - (↑mc : Int)) < (0 : Int)) then some (AVal.bool true, []) else bif true && true && (true && true && (true && true && (true && true && true))) then bif decide (mw ≤ ws.length ∧ mw ≤ (1048576 : Nat) ∧ mc ≤ cs.length ∧ mc ≤ (1048576 : Nat)) && (true && (true && (true && (true && true))) && true || true && (true && (true && (true && true))) && (true && (true && true))) then bif decide (mw = (List.take mw ws).length ∧ mc = (List.take mc cs).length ∧ mw ≤ (4611686018427387904 : Nat) ∧ mc ≤ (4611686018427387904 : Nat)) && od.ok.sp u r (List.take mw ws) (List.take mc cs) && (true && (true && (false && (false && true))) && true || true && (true && true) && (true && true)) then bif true && true && (true && true && (true && true && (true && true && true))) then bif decide (mw ≤ ws.length ∧ mw ≤ (1048576 : Nat) ∧ mc ≤ cs.length ∧ mc ≤ (1048576 : Nat)) && (true && (true && (true && (true && true))) && true || true && (true && (true && (true && true))) && (true && (true && true))) then bif true && (true && (true && (true && (true && (true && true))))) then bif true && true && (true && true && (true && true && (true && true && true))) then bif decide (mw = (List.take mw ws).length ∧ mc = (List.take mc cs).length ∧ mw ≤ (4611686018427387904 : Nat) ∧ mc ≤ (4611686018427387904 : Nat)) && od.ok.sp u r (List.take mw ws) (List.take mc cs) && (true && (true && (false && (false && true))) && true || true && (true && true) && (true && true)) then bif decide (u.toNat ≤ (od.B.sv u r (List.take mw ws) (List.take mc cs)).length ∧ u.toNat ≤ (od.B.sv u r (List.take mw ws) (List.take mc cs)).length ∧ u.toNat ≤ (4611686018427387904 : Nat)) && (false && (false && true) || true && true) then bif !decide (List.take u.toNat (od.B.sv u r (List.take mw ws) (List.take mc cs)) = List.take u.toNat (od.B.sv u r (List.take mw ws) (List.take mc cs))) then some (AVal.bool false, []) else bif od.M.sv u r (List.take mw ws) (List.take mc cs) != od.M.sv u r (List.take mw ws) (List.take mc cs) then some (AVal.bool false, []) else bif true && true && (true && true && (true && true && (true && true && true))) then bif true && true && (true && true && (true && true && (true && true && true))) then bif decide (mw ≤ ws.length ∧ mw ≤ (1048576 : Nat) ∧ mc ≤ cs.length ∧ mc ≤ (1048576 : Nat)) && (true && (true && (true && (true && true))) && true || true && (true && (true && (true && true))) && (true && (true && true))) then bif decide (mw ≤ (List.take mw ws).length ∧ mw ≤ (List.take mw ws).length ∧ mw ≤ (4611686018427387904 : Nat) ∧ mc ≤ (List.take mc cs).length ∧ mc ≤ (List.take mc cs).length ∧ mc ≤ (4611686018427387904 : Nat)) && (true && (true && (false && (false && true))) && (true && (true && (false && (false && true))) && true) || true && true) then bif !(decide (u = u) && (decide (r = r) && (decide (List.take mw (List.take mw ws) = List.take mw (List.take mw ws)) && decide (List.take mc (List.take mc cs) = List.take mc (List.take mc cs))))) then some (AVal.bool false, []) else bif true && true && (true && true && (true && true && (true && true && true))) then bif decide (mw = (List.take mw ws).length ∧ mw ≤ (1048576 : Nat) ∧ mc = (List.take mc cs).length ∧ mc ≤ (1048576 : Nat) ∧ (0 : Int) ≤ (1 : Int) ∧ (1 : Int) ≤ (100000000 : Int)) && (true && (true && true) && (true && (true && true))) then bif decide ((1 : Int) + (↑mw : Int) + (↑mc : Int) < (0 : Int)) then some (AVal.bool false, []) else bif decide (u.toNat ≤ (od.B.sv u r (List.take mw ws) (List.take mc cs)).length ∧ u.toNat ≤ (od.B.sv u r (List.take mw ws) (List.take mc cs)).length ∧ u.toNat ≤ (4611686018427387904 : Nat)) && (false && (false && true) || true && true) then bif !decide (List.take u.toNat (od.B.sv u r (List.take mw ws) (List.take mc cs)) = List.take u.toNat (od.B.sv u r (List.take mw ws) (List.take mc cs))) then some (AVal.bool false, []) else bif od.M.sv u r (List.take mw ws) (List.take mc cs) != od.M.sv u r (List.take mw ws) (List.take mc cs) then some (AVal.bool false, []) else bif decide (u.toNat = (od.B.sv u r (List.take mw ws) (List.take mc cs)).length ∧ u.toNat ≤ (4611686018427387904 : Nat) ∧ (0 : Int) ≤ (1 : Int) ∧ (1 : Int) ≤ (1000000000 : Int)) && (true && true && (true && true)) then bif decide (u.toNat ≤ (marks.sv (1 : Int) u.toNat).length ∧ u.toNat ≤ (4611686018427387904 : Nat) ∧ (0 : Int) ≤ (1 : Int) ∧ (1 : Int) ≤ (1000000000 : Int)) && (false && true || true && true) then bif decide ((bif decide (List.take u.toNat (marks.sv (1 : Int) u.toNat) = marks.sv (1 : Int) u.toNat) then (1 : Int) + (↑u.toNat : Int) else (-1 : Int)) < (0 : Int)) then some (AVal.bool false, []) else bif (bif decide (List.take u.toNat (marks.sv (1 : Int) u.toNat) = marks.sv (1 : Int) u.toNat) then (1 : Int) + (↑u.toNat : Int) else (-1 : Int)) != (1 : Int) + (↑u.toNat : Int) then some (AVal.bool false, []) else bif true && true && (true && true && (true && true && (true && true && true))) then bif decide (mw ≤ ws.length ∧ mw ≤ (1048576 : Nat) ∧ mc ≤ cs.length ∧ mc ≤ (1048576 : Nat)) && (true && (true && (true && (true && true))) && true || true && (true && (true && (true && true))) && (true && (true && true))) then bif decide (mw = (List.take mw ws).length ∧ mc = (List.take mc cs).length ∧ mw ≤ (4611686018427387904 : Nat) ∧ mc ≤ (4611686018427387904 : Nat)) && od.ok.sp u r (List.take mw ws) (List.take mc cs) && (true && (true && (false && (false && true))) && true || true && (true && true) && (true && true)) then bif decide (u.toNat ≤ (od.B.sv u r (List.take mw ws) (List.take mc cs)).length ∧ u.toNat ≤ (od.B.sv u r (List.take mw ws) (List.take mc cs)).length ∧ u.toNat ≤ (4611686018427387904 : Nat)) && (false && (false && true) || true && true) then bif !decide (List.take u.toNat (od.B.sv u r (List.take mw ws) (List.take mc cs)) = List.take u.toNat (od.B.sv u r (List.take mw ws) (List.take mc cs))) then some (AVal.bool false, []) else bif od.M.sv u r (List.take mw ws) (List.take mc cs) != od.M.sv u r (List.take mw ws) (List.take mc cs) then some (AVal.bool false, []) else bif decide (u.toNat ≤ (marks.sv (1 : Int) u.toNat).length ∧ u.toNat ≤ (4611686018427387904 : Nat) ∧ (0 : Int) ≤ (1 : Int) ∧ (1 : Int) ≤ (1000000000 : Int)) && (false && true || true && true) then bif decide ((bif decide (List.take u.toNat (marks.sv (1 : Int) u.toNat) = marks.sv (1 : Int) u.toNat) then (1 : Int) + (↑u.toNat : Int) else (-1 : Int)) < (0 : Int)) then some (AVal.bool false, []) else bif (bif decide (List.take u.toNat (marks.sv (1 : Int) u.toNat) = marks.sv (1 : Int) u.toNat) then (1 : Int) + (↑u.toNat : Int) else (-1 : Int)) != (1 : Int) + (↑u.toNat : Int) then some (AVal.bool false, []) else some (AVal.bool true, []) else none else none else none else none else none else none else none else none else none else none else none else none else none else none else none else none else none else none else none else none else none else none else none else none else none) := by kernel_rfl
theorem run : ∀ args v new, R args = some (true, v, new) → ∃ fuel, runFn Try.prog (orcW [⟨14, markCrowd.R⟩, ⟨20, markInt64S.R⟩] [⟨9, szCrowd.R⟩, ⟨11, toCrowd.R⟩, ⟨13, eqCrowd.R⟩, ⟨21, sLeastTotal.Rt⟩, ⟨22, iLeastTotal.Rt⟩, ⟨19, eqInt64N.R⟩, ⟨23, heldInt64S.R⟩]) hd0 Dr.std (some 0) fuel (bodyOf Try.f5) 117 [2] args [] = some (v, new) := by
  intro args v new h
  unfold R at h
  split at h
  · rename_i u r ws mw cs mc
    simp only [Option.some.injEq, Prod.mk.injEq, Bool.or_eq_true, Bool.and_eq_true, decide_eq_true_eq, Bool.not_eq_true'] at h
    obtain ⟨⟨⟨h1, h2, h3, h4⟩, hc⟩, rfl, rfl⟩ := h
    refine ⟨0, ?_⟩
    rw [go]
    have z1 : (0 : Int) ≤ 1048576 := by decide
    have z2 : (1048576 : Int) ≤ 9223372036854775807 := by decide
    have z3 : (-1 : Int) < 0 := by decide
    by_cases a1 : (1048576 : Int) - (mw : Int) < 0
    · simp only [a1, h3, h4, z1, z2, z3, List.take_take, Nat.min_self, Nat.le_refl, List.take_length, marks_length, take_marks, one_neg, i0_1, i1_b, true_and, and_true, and_self, decide_true, decide_false, Bool.and_self, Bool.or_self, Bool.and_true, Bool.true_and, Bool.and_false, Bool.false_and, Bool.or_true, Bool.true_or, Bool.or_false, Bool.false_or, Bool.not_true, Bool.not_false, cond_true, cond_false, bne_self_eq_false, beq_self_eq_true]
    by_cases a2 : (1048576 : Int) - (mw : Int) - (mc : Int) < 0
    · simp only [a1, a2, h3, h4, z1, z2, z3, List.take_take, Nat.min_self, Nat.le_refl, List.take_length, marks_length, take_marks, one_neg, i0_1, i1_b, true_and, and_true, and_self, decide_true, decide_false, Bool.and_self, Bool.or_self, Bool.and_true, Bool.true_and, Bool.and_false, Bool.false_and, Bool.or_true, Bool.true_or, Bool.or_false, Bool.false_or, Bool.not_true, Bool.not_false, cond_true, cond_false, bne_self_eq_false, beq_self_eq_true]
    rcases hc with hc | hc
    · exact absurd hc (by omega)
    have b1 : mw ≤ 1048576 := by omega
    have b2 : mc ≤ 1048576 := by omega
    have b5 : mw ≤ 4611686018427387904 := by omega
    have b6 : mc ≤ 4611686018427387904 := by omega
    have e1 : (ws.take mw).length = mw := by simp; omega
    have e2 : (cs.take mc).length = mc := by simp; omega
    have k1 : (0 : Int) ≤ 1 + (mw : Int) + (mc : Int) := by omega
    have k2 : 1 + (mw : Int) + (mc : Int) ≤ 1000000000 := by omega
    have k3 : ¬ (1 + (mw : Int) + (mc : Int) < 0) := by omega
    have k0 : (1 : Int) ≤ 100000000 := by decide
    have o0 : (od.B.sv u r (ws.take mw) (cs.take mc)).length ≤ 4611686018427387904 := od.B_small hc
    have oL : (od.B.sv u r (ws.take mw) (cs.take mc)).length = u.toNat := od.B_len
    have oU : u.toNat ≤ 4611686018427387904 := by omega
    simp only [h3, h4, z1, z2, z3, a1, a2, b1, b2, b5, b6, e1, e2, h1, h2, k0, k1, k2, k3, hc, oL, oU, Nat.le_refl, List.take_take, Nat.min_self, Nat.le_refl, List.take_length, marks_length, take_marks, one_neg, i0_1, i1_b, true_and, and_true, and_self, decide_true, decide_false, Bool.and_self, Bool.or_self, Bool.and_true, Bool.true_and, Bool.and_false, Bool.false_and, Bool.or_true, Bool.true_or, Bool.or_false, Bool.false_or, Bool.not_true, Bool.not_false, cond_true, cond_false, bne_self_eq_false, beq_self_eq_true]
  · cases h
theorem ok : EntOk Try.prog ⟨5, R⟩ :=
  ent_okA mixed (A := (orcW [⟨14, markCrowd.R⟩, ⟨20, markInt64S.R⟩] [⟨9, szCrowd.R⟩, ⟨11, toCrowd.R⟩, ⟨13, eqCrowd.R⟩, ⟨21, sLeastTotal.Rt⟩, ⟨22, iLeastTotal.Rt⟩, ⟨19, eqInt64N.R⟩, ⟨23, heldInt64S.R⟩])) (orcW_ok (by simp only [List.mem_cons, List.not_mem_nil, or_false, forall_eq_or_imp, forall_eq]; exact ⟨markCrowd.ok, markInt64S.ok⟩) (by simp only [List.mem_cons, List.not_mem_nil, or_false, forall_eq_or_imp, forall_eq]; exact ⟨szCrowd.ok, toCrowd.ok, eqCrowd.ok, sLeastTotal.okt, iLeastTotal.okt, eqInt64N.ok, heldInt64S.ok⟩)) Try.func5 (by kernel_rfl) (by kernel_rfl) (n := 117) (ts := [2]) (hd := hd0) (dr := Dr.std) (cut := (some 0)) (by kernel_rfl) (by kernel_rfl) (by kernel_rfl) run
end FnExactLeastTotalt

namespace FnExactLeastTotalf
def R : List AVal → Option (Bool × AVal × List Blk)
  | [.agg [.int .i64 u, .int .i64 r, .ro (.ints .i64 ws) mw 1, .ro (.ints .i64 cs) mc 1]] => some (decide (mw ≤ ws.length ∧ mc ≤ cs.length ∧ mw ≤ 9223372036854775807 ∧ mc ≤ 9223372036854775807) && (decide ((1048576 : Int) - (mw : Int) < 0 ∨ (1048576 : Int) - (mw : Int) - (mc : Int) < 0) || !(od.ok.sp u r (ws.take mw) (cs.take mc))), .bool true, [])
  | _ => none
theorem go (u r : Int) (ws cs : List Int) (mw mc : Nat) :
  runFn Try.prog (orcW [⟨14, markCrowd.R⟩, ⟨20, markInt64S.R⟩] [⟨9, szCrowd.R⟩, ⟨11, toCrowd.R⟩, ⟨13, eqCrowd.R⟩, ⟨21, sLeastTotal.Rf⟩, ⟨22, iLeastTotal.Rf⟩, ⟨19, eqInt64N.R⟩, ⟨23, heldInt64S.R⟩]) hd0 Dr.std (some 0) 0 (bodyOf Try.f5) 117 [2] [.agg [.int .i64 u, .int .i64 r, .ro (.ints .i64 ws) mw 1, .ro (.ints .i64 cs) mc 1]] []
  = (bif true && true && (true && true && (true && true && (true && true && true))) then bif decide (mw ≤ (9223372036854775807 : Nat) ∧ mc ≤ (9223372036854775807 : Nat) ∧ (0 : Int) ≤ (1048576 : Int) ∧ (1048576 : Int) ≤ (9223372036854775807 : Int)) && (true && (true && (true && (true && true))) && true || true && true) then bif decide ((bif decide ((1048576 : Int) - (↑mw : Int) < (0 : Int)) then (-1 : Int) else bif decide ((1048576 : Int) - (↑mw : Int) - (↑mc : Int) < (0 : Int)) then (-1 : Int) else (1048576 : Int) - (↑mw : Int) - (↑mc : Int)) < (0 : Int)) then some (AVal.bool true, []) else bif true && true && (true && true && (true && true && (true && true && true))) then bif decide (mw ≤ ws.length ∧ mw ≤ (1048576 : Nat) ∧ mc ≤ cs.length ∧ mc ≤ (1048576 : Nat)) && (true && (true && (true && (true && true))) && true || true && (true && (true && (true && true))) && (true && (true && true))) then bif decide (mw = (List.take mw ws).length ∧ mc = (List.take mc cs).length ∧ mw ≤ (4611686018427387904 : Nat) ∧ mc ≤ (4611686018427387904 : Nat)) && !od.ok.sp u r (List.take mw ws) (List.take mc cs) && (true && (true && (false && (false && true))) && true || true && true) then bif true && true && (true && true && (true && true && (true && true && true))) then bif decide (mw ≤ ws.length ∧ mw ≤ (1048576 : Nat) ∧ mc ≤ cs.length ∧ mc ≤ (1048576 : Nat)) && (true && (true && (true && (true && true))) && true || true && (true && (true && (true && true))) && (true && (true && true))) then bif true && (true && (true && (true && (true && (true && true))))) then bif true && true && (true && true && (true && true && (true && true && true))) then bif decide (mw = (List.take mw ws).length ∧ mc = (List.take mc cs).length ∧ mw ≤ (4611686018427387904 : Nat) ∧ mc ≤ (4611686018427387904 : Nat)) && !od.ok.sp u r (List.take mw ws) (List.take mc cs) && (true && (true && (false && (false && true))) && true || true && true) then bif true && true && (true && true && (true && true && (true && true && true))) then bif true && true && (true && true && (true && true && (true && true && true))) then bif decide (mw ≤ ws.length ∧ mw ≤ (1048576 : Nat) ∧ mc ≤ cs.length ∧ mc ≤ (1048576 : Nat)) && (true && (true && (true && (true && true))) && true || true && (true && (true && (true && true))) && (true && (true && true))) then bif decide (mw ≤ (List.take mw ws).length ∧ mw ≤ (List.take mw ws).length ∧ mw ≤ (4611686018427387904 : Nat) ∧ mc ≤ (List.take mc cs).length ∧ mc ≤ (List.take mc cs).length ∧ mc ≤ (4611686018427387904 : Nat)) && (true && (true && (false && (false && true))) && (true && (true && (false && (false && true))) && true) || true && true) then bif !(decide (u = u) && (decide (r = r) && (decide (List.take mw (List.take mw ws) = List.take mw (List.take mw ws)) && decide (List.take mc (List.take mc cs) = List.take mc (List.take mc cs))))) then some (AVal.bool false, []) else bif true && true && (true && true && (true && true && (true && true && true))) then bif decide (mw = (List.take mw ws).length ∧ mw ≤ (1048576 : Nat) ∧ mc = (List.take mc cs).length ∧ mc ≤ (1048576 : Nat) ∧ (0 : Int) ≤ (1 : Int) ∧ (1 : Int) ≤ (100000000 : Int)) && (true && (true && true) && (true && (true && true))) then bif decide ((1 : Int) + (↑mw : Int) + (↑mc : Int) < (0 : Int)) then some (AVal.bool false, []) else bif true && (true && true) then bif true && true && (true && true && (true && true && (true && true && true))) then bif decide (mw ≤ ws.length ∧ mw ≤ (1048576 : Nat) ∧ mc ≤ cs.length ∧ mc ≤ (1048576 : Nat)) && (true && (true && (true && (true && true))) && true || true && (true && (true && (true && true))) && (true && (true && true))) then bif decide (mw = (List.take mw ws).length ∧ mc = (List.take mc cs).length ∧ mw ≤ (4611686018427387904 : Nat) ∧ mc ≤ (4611686018427387904 : Nat)) && !od.ok.sp u r (List.take mw ws) (List.take mc cs) && (true && (true && (false && (false && true))) && true || true && true) then some (AVal.bool true, []) else none else none else none else none else none else none else none else none else none else none else none else none else none else none else none else none else none else none else none else none) := by kernel_rfl
theorem run : ∀ args v new, R args = some (true, v, new) → ∃ fuel, runFn Try.prog (orcW [⟨14, markCrowd.R⟩, ⟨20, markInt64S.R⟩] [⟨9, szCrowd.R⟩, ⟨11, toCrowd.R⟩, ⟨13, eqCrowd.R⟩, ⟨21, sLeastTotal.Rf⟩, ⟨22, iLeastTotal.Rf⟩, ⟨19, eqInt64N.R⟩, ⟨23, heldInt64S.R⟩]) hd0 Dr.std (some 0) fuel (bodyOf Try.f5) 117 [2] args [] = some (v, new) := by
  intro args v new h
  unfold R at h
  split at h
  · rename_i u r ws mw cs mc
    simp only [Option.some.injEq, Prod.mk.injEq, Bool.or_eq_true, Bool.and_eq_true, decide_eq_true_eq, Bool.not_eq_true'] at h
    obtain ⟨⟨⟨h1, h2, h3, h4⟩, hc⟩, rfl, rfl⟩ := h
    refine ⟨0, ?_⟩
    rw [go]
    have z1 : (0 : Int) ≤ 1048576 := by decide
    have z2 : (1048576 : Int) ≤ 9223372036854775807 := by decide
    have z3 : (-1 : Int) < 0 := by decide
    by_cases a1 : (1048576 : Int) - (mw : Int) < 0
    · simp only [a1, h3, h4, z1, z2, z3, List.take_take, Nat.min_self, Nat.le_refl, List.take_length, marks_length, take_marks, one_neg, i0_1, i1_b, true_and, and_true, and_self, decide_true, decide_false, Bool.and_self, Bool.or_self, Bool.and_true, Bool.true_and, Bool.and_false, Bool.false_and, Bool.or_true, Bool.true_or, Bool.or_false, Bool.false_or, Bool.not_true, Bool.not_false, cond_true, cond_false, bne_self_eq_false, beq_self_eq_true]
    by_cases a2 : (1048576 : Int) - (mw : Int) - (mc : Int) < 0
    · simp only [a1, a2, h3, h4, z1, z2, z3, List.take_take, Nat.min_self, Nat.le_refl, List.take_length, marks_length, take_marks, one_neg, i0_1, i1_b, true_and, and_true, and_self, decide_true, decide_false, Bool.and_self, Bool.or_self, Bool.and_true, Bool.true_and, Bool.and_false, Bool.false_and, Bool.or_true, Bool.true_or, Bool.or_false, Bool.false_or, Bool.not_true, Bool.not_false, cond_true, cond_false, bne_self_eq_false, beq_self_eq_true]
    rcases hc with hc | hc
    · exact absurd hc (by omega)
    have b1 : mw ≤ 1048576 := by omega
    have b2 : mc ≤ 1048576 := by omega
    have b5 : mw ≤ 4611686018427387904 := by omega
    have b6 : mc ≤ 4611686018427387904 := by omega
    have e1 : (ws.take mw).length = mw := by simp; omega
    have e2 : (cs.take mc).length = mc := by simp; omega
    have k1 : (0 : Int) ≤ 1 + (mw : Int) + (mc : Int) := by omega
    have k2 : 1 + (mw : Int) + (mc : Int) ≤ 1000000000 := by omega
    have k3 : ¬ (1 + (mw : Int) + (mc : Int) < 0) := by omega
    have k0 : (1 : Int) ≤ 100000000 := by decide
    simp only [h3, h4, z1, z2, z3, a1, a2, b1, b2, b5, b6, e1, e2, h1, h2, k0, k1, k2, k3, hc, List.take_take, Nat.min_self, Nat.le_refl, List.take_length, marks_length, take_marks, one_neg, i0_1, i1_b, true_and, and_true, and_self, decide_true, decide_false, Bool.and_self, Bool.or_self, Bool.and_true, Bool.true_and, Bool.and_false, Bool.false_and, Bool.or_true, Bool.true_or, Bool.or_false, Bool.false_or, Bool.not_true, Bool.not_false, cond_true, cond_false, bne_self_eq_false, beq_self_eq_true]
  · cases h
theorem ok : EntOk Try.prog ⟨5, R⟩ :=
  ent_okA mixed (A := (orcW [⟨14, markCrowd.R⟩, ⟨20, markInt64S.R⟩] [⟨9, szCrowd.R⟩, ⟨11, toCrowd.R⟩, ⟨13, eqCrowd.R⟩, ⟨21, sLeastTotal.Rf⟩, ⟨22, iLeastTotal.Rf⟩, ⟨19, eqInt64N.R⟩, ⟨23, heldInt64S.R⟩])) (orcW_ok (by simp only [List.mem_cons, List.not_mem_nil, or_false, forall_eq_or_imp, forall_eq]; exact ⟨markCrowd.ok, markInt64S.ok⟩) (by simp only [List.mem_cons, List.not_mem_nil, or_false, forall_eq_or_imp, forall_eq]; exact ⟨szCrowd.ok, toCrowd.ok, eqCrowd.ok, sLeastTotal.okf, iLeastTotal.okf, eqInt64N.ok, heldInt64S.ok⟩)) Try.func5 (by kernel_rfl) (by kernel_rfl) (n := 117) (ts := [2]) (hd := hd0) (dr := Dr.std) (cut := (some 0)) (by kernel_rfl) (by kernel_rfl) (by kernel_rfl) run
end FnExactLeastTotalf

namespace FnExactLeastTotal
def R : List AVal → Option (Bool × AVal × List Blk)
  | [.agg [.int .i64 u, .int .i64 r, .ro (.ints .i64 ws) mw 1, .ro (.ints .i64 cs) mc 1]] => some (decide (mw ≤ ws.length ∧ mc ≤ cs.length ∧ mw ≤ 9223372036854775807 ∧ mc ≤ 9223372036854775807), .bool true, [])
  | _ => none
theorem ok : EntOk Try.prog ⟨5, R⟩ := by
  refine EntOk.cases FnExactLeastTotalt.ok FnExactLeastTotalf.ok fun args v new h => ?_
  unfold R at h
  split at h
  · rename_i u r ws mw cs mc
    simp only [Option.some.injEq, Prod.mk.injEq, decide_eq_true_eq] at h
    obtain ⟨h, rfl, rfl⟩ := h
    simp only [FnExactLeastTotalt.R, FnExactLeastTotalf.R, Option.some.injEq, Prod.mk.injEq, Bool.or_eq_true, Bool.and_eq_true, decide_eq_true_eq, Bool.not_eq_true', and_true]
    cases hc : (od.ok.sp u r (ws.take mw) (cs.take mc) : Bool)
    · exact .inr ⟨h, .inr rfl⟩
    · exact .inl ⟨h, .inr rfl⟩
  · cases h
end FnExactLeastTotal

end Go.Proofs.Ytgeglpommdckgaa.Ab
