/-
  Functions: the law of tolled flows.
-/
import Derived.Test.YtgeglpommdckgaaFnZE
namespace Go.Proofs.Ytgeglpommdckgaa.Ab
open Go
set_option linter.unusedVariables false
set_option linter.unusedSimpArgs false
set_option maxRecDepth 100000

namespace FnExactTolledFlowt
def R : List AVal → Option (Bool × AVal × List Blk)
  | [.ro (.flts .f32 az) m 1, .ro (.flts .f32 ys) m1 1, .flt .f32 T] => some (decide ((1048576 : Int) < (m : Int) ∨ (1048576 : Int) < (m1 : Int)) || (decide (m ≤ az.length ∧ m ≤ 1048576 ∧ m1 ≤ ys.length ∧ m1 ≤ 1048576) && (ev.sp (td.sv (az.take m)) (ys.take m1) T)), .bool true, [])
  | _ => none
theorem go (az : List Nat) (m : Nat) (ys : List Nat) (m1 : Nat) (T : Nat) :
  runFn Try.prog (orcW [⟨29, markFloat32S.R⟩] [⟨25, toFloat32S.R⟩, ⟨31, sTolledFlow.Rt⟩, ⟨32, iTolledFlow.Rt⟩, ⟨27, eqFloat32N.R⟩, ⟨30, heldFloat32S.R⟩]) hd0 Dr.std (some 0) 0 (bodyOf Try.f7) 119 [6] [.ro (.flts .f32 az) m 1, .ro (.flts .f32 ys) m1 1, .flt .f32 T] []
  = (bif decide ((1048576 : Int) < (↑m : Int)) then some (AVal.bool true, []) else bif decide ((1048576 : Int) < (↑m1 : Int)) then some (AVal.bool true, []) else bif decide (m ≤ az.length ∧ m ≤ (1048576 : Nat)) && (true && true || true && (true && true)) then bif decide (m1 ≤ ys.length ∧ m1 ≤ (1048576 : Nat)) && (true && true || true && (true && true)) then bif decide (m = (List.take m az).length ∧ m1 = (List.take m1 ys).length ∧ m ≤ (1048576 : Nat) ∧ m1 ≤ (1048576 : Nat)) && ev.sp (td.sv (List.take m az)) (List.take m1 ys) T && (false && (false && (true && true)) || true && true && (true && true)) then bif decide (m ≤ az.length ∧ m ≤ (1048576 : Nat)) && (true && true || true && (true && true)) then bif decide (m1 ≤ ys.length ∧ m1 ≤ (1048576 : Nat)) && (true && true || true && (true && true)) then bif decide (m = (List.take m az).length ∧ m1 = (List.take m1 ys).length ∧ m ≤ (1048576 : Nat) ∧ m1 ≤ (1048576 : Nat)) && ev.sp (td.sv (List.take m az)) (List.take m1 ys) T && (false && (false && (true && true)) || true && true && (true && true)) then bif decide ((ev.o.sv (td.sv (List.take m az)) (List.take m1 ys) T).length ≤ (ev.o.sv (td.sv (List.take m az)) (List.take m1 ys) T).length ∧ (ev.o.sv (td.sv (List.take m az)) (List.take m1 ys) T).length ≤ (ev.o.sv (td.sv (List.take m az)) (List.take m1 ys) T).length ∧ (ev.o.sv (td.sv (List.take m az)) (List.take m1 ys) T).length ≤ (4611686018427387904 : Nat) ∧ (ev.o.sv (td.sv (List.take m az)) (List.take m1 ys) T).length = (ev.o.sv (td.sv (List.take m az)) (List.take m1 ys) T).length ∧ List.take (ev.o.sv (td.sv (List.take m az)) (List.take m1 ys) T).length (ev.o.sv (td.sv (List.take m az)) (List.take m1 ys) T) = List.take (ev.o.sv (td.sv (List.take m az)) (List.take m1 ys) T).length (ev.o.sv (td.sv (List.take m az)) (List.take m1 ys) T)) && (false && (false && true) || true && true) then bif decide (m ≤ az.length ∧ m ≤ (1048576 : Nat)) && (true && true || true && (true && true)) then bif decide (m ≤ (List.take m az).length ∧ m ≤ (List.take m az).length ∧ m ≤ (4611686018427387904 : Nat) ∧ m = m ∧ List.take m (List.take m az) = List.take m (List.take m az)) && (false && (false && true) || true && true) then bif decide (m1 ≤ ys.length ∧ m1 ≤ (1048576 : Nat)) && (true && true || true && (true && true)) then bif decide (m1 ≤ (List.take m1 ys).length ∧ m1 ≤ (List.take m1 ys).length ∧ m1 ≤ (4611686018427387904 : Nat) ∧ m1 = m1 ∧ List.take m1 (List.take m1 ys) = List.take m1 (List.take m1 ys)) && (false && (false && true) || true && true) then bif decide (m = (List.take m az).length ∧ m ≤ (4611686018427387904 : Nat) ∧ (0 : Int) ≤ (1 : Int) ∧ (1 : Int) ≤ (1000000000 : Int)) && (true && true && (true && true)) then bif decide (m1 = (List.take m1 ys).length ∧ m1 ≤ (4611686018427387904 : Nat) ∧ (0 : Int) ≤ (1 : Int) + (↑m : Int) ∧ (1 : Int) + (↑m : Int) ≤ (1000000000 : Int)) && (true && true && (true && true)) then bif decide ((1 : Int) + (↑m : Int) + (↑m1 : Int) < (0 : Int)) then some (AVal.bool false, []) else bif decide ((ev.o.sv (td.sv (List.take m az)) (List.take m1 ys) T).length ≤ (ev.o.sv (td.sv (List.take m az)) (List.take m1 ys) T).length ∧ (ev.o.sv (td.sv (List.take m az)) (List.take m1 ys) T).length ≤ (ev.o.sv (td.sv (List.take m az)) (List.take m1 ys) T).length ∧ (ev.o.sv (td.sv (List.take m az)) (List.take m1 ys) T).length ≤ (4611686018427387904 : Nat) ∧ (ev.o.sv (td.sv (List.take m az)) (List.take m1 ys) T).length = (ev.o.sv (td.sv (List.take m az)) (List.take m1 ys) T).length ∧ List.take (ev.o.sv (td.sv (List.take m az)) (List.take m1 ys) T).length (ev.o.sv (td.sv (List.take m az)) (List.take m1 ys) T) = List.take (ev.o.sv (td.sv (List.take m az)) (List.take m1 ys) T).length (ev.o.sv (td.sv (List.take m az)) (List.take m1 ys) T)) && (false && (false && true) || true && true) then bif decide ((ev.o.sv (td.sv (List.take m az)) (List.take m1 ys) T).length = (ev.o.sv (td.sv (List.take m az)) (List.take m1 ys) T).length ∧ (ev.o.sv (td.sv (List.take m az)) (List.take m1 ys) T).length ≤ (4611686018427387904 : Nat) ∧ (0 : Int) ≤ (1 : Int) ∧ (1 : Int) ≤ (1000000000 : Int)) && (true && true && (true && true)) then bif decide ((ev.o.sv (td.sv (List.take m az)) (List.take m1 ys) T).length ≤ (marksF.sv (1 : Int) (ev.o.sv (td.sv (List.take m az)) (List.take m1 ys) T).length).length ∧ (ev.o.sv (td.sv (List.take m az)) (List.take m1 ys) T).length ≤ (4611686018427387904 : Nat) ∧ (0 : Int) ≤ (1 : Int) ∧ (1 : Int) ≤ (1000000000 : Int) ∧ List.take (ev.o.sv (td.sv (List.take m az)) (List.take m1 ys) T).length (marksF.sv (1 : Int) (ev.o.sv (td.sv (List.take m az)) (List.take m1 ys) T).length) = marksF.sv (1 : Int) (ev.o.sv (td.sv (List.take m az)) (List.take m1 ys) T).length) && (false && true || true && true) then bif decide ((1 : Int) + (↑(ev.o.sv (td.sv (List.take m az)) (List.take m1 ys) T).length : Int) < (0 : Int)) then some (AVal.bool false, []) else bif (1 : Int) + (↑(ev.o.sv (td.sv (List.take m az)) (List.take m1 ys) T).length : Int) != (1 : Int) + (↑(ev.o.sv (td.sv (List.take m az)) (List.take m1 ys) T).length : Int) then some (AVal.bool false, []) else bif decide (m ≤ az.length ∧ m ≤ (1048576 : Nat)) && (true && true || true && (true && true)) then bif decide (m1 ≤ ys.length ∧ m1 ≤ (1048576 : Nat)) && (true && true || true && (true && true)) then bif decide (m = (List.take m az).length ∧ m1 = (List.take m1 ys).length ∧ m ≤ (1048576 : Nat) ∧ m1 ≤ (1048576 : Nat)) && ev.sp (td.sv (List.take m az)) (List.take m1 ys) T && (false && (false && (true && true)) || true && true && (true && true)) then bif decide ((ev.o.sv (td.sv (List.take m az)) (List.take m1 ys) T).length ≤ (ev.o.sv (td.sv (List.take m az)) (List.take m1 ys) T).length ∧ (ev.o.sv (td.sv (List.take m az)) (List.take m1 ys) T).length ≤ (ev.o.sv (td.sv (List.take m az)) (List.take m1 ys) T).length ∧ (ev.o.sv (td.sv (List.take m az)) (List.take m1 ys) T).length ≤ (4611686018427387904 : Nat) ∧ (ev.o.sv (td.sv (List.take m az)) (List.take m1 ys) T).length = (ev.o.sv (td.sv (List.take m az)) (List.take m1 ys) T).length ∧ List.take (ev.o.sv (td.sv (List.take m az)) (List.take m1 ys) T).length (ev.o.sv (td.sv (List.take m az)) (List.take m1 ys) T) = List.take (ev.o.sv (td.sv (List.take m az)) (List.take m1 ys) T).length (ev.o.sv (td.sv (List.take m az)) (List.take m1 ys) T)) && (false && (false && true) || true && true) then bif decide ((ev.o.sv (td.sv (List.take m az)) (List.take m1 ys) T).length ≤ (marksF.sv (1 : Int) (ev.o.sv (td.sv (List.take m az)) (List.take m1 ys) T).length).length ∧ (ev.o.sv (td.sv (List.take m az)) (List.take m1 ys) T).length ≤ (4611686018427387904 : Nat) ∧ (0 : Int) ≤ (1 : Int) ∧ (1 : Int) ≤ (1000000000 : Int) ∧ List.take (ev.o.sv (td.sv (List.take m az)) (List.take m1 ys) T).length (marksF.sv (1 : Int) (ev.o.sv (td.sv (List.take m az)) (List.take m1 ys) T).length) = marksF.sv (1 : Int) (ev.o.sv (td.sv (List.take m az)) (List.take m1 ys) T).length) && (false && true || true && true) then bif decide ((1 : Int) + (↑(ev.o.sv (td.sv (List.take m az)) (List.take m1 ys) T).length : Int) < (0 : Int)) then some (AVal.bool false, []) else bif (1 : Int) + (↑(ev.o.sv (td.sv (List.take m az)) (List.take m1 ys) T).length : Int) != (1 : Int) + (↑(ev.o.sv (td.sv (List.take m az)) (List.take m1 ys) T).length : Int) then some (AVal.bool false, []) else some (AVal.bool true, []) else none else none else none else none else none else none else none else none else none else none else none else none else none else none else none else none else none else none else none else none else none) := by kernel_rfl
theorem run : ∀ args v new, R args = some (true, v, new) → ∃ fuel, runFn Try.prog (orcW [⟨29, markFloat32S.R⟩] [⟨25, toFloat32S.R⟩, ⟨31, sTolledFlow.Rt⟩, ⟨32, iTolledFlow.Rt⟩, ⟨27, eqFloat32N.R⟩, ⟨30, heldFloat32S.R⟩]) hd0 Dr.std (some 0) fuel (bodyOf Try.f7) 119 [6] args [] = some (v, new) := by
  intro args v new h
  unfold R at h
  split at h
  · rename_i az m ys m1 T
    simp only [Option.some.injEq, Prod.mk.injEq, Bool.or_eq_true, Bool.and_eq_true, decide_eq_true_eq, Bool.not_eq_true'] at h
    obtain ⟨h, rfl, rfl⟩ := h
    refine ⟨0, ?_⟩
    rw [go]
    by_cases b0 : (1048576 : Int) < (m : Int)
    · simp only [b0, decide_true, decide_false, cond_true, cond_false]
    by_cases b1 : (1048576 : Int) < (m1 : Int)
    · simp only [b0, b1, decide_true, decide_false, cond_true, cond_false]
    rcases h with h | h
    · exact absurd h (by omega)
    obtain ⟨⟨hl0, hl1, hl2, hl3⟩, hc⟩ := h
    have e0 : (az.take m).length = m := by simp; omega
    have g0 : m ≤ 4611686018427387904 := by omega
    have e1 : (ys.take m1).length = m1 := by simp; omega
    have g1 : m1 ≤ 4611686018427387904 := by omega
    have ka0 : (0 : Int) ≤ 1 + (m : Int) := by omega
    have kb0 : 1 + (m : Int) ≤ 1000000000 := by omega
    have kc0 : ¬ (1 + (m : Int) < 0) := by omega
    have ka1 : (0 : Int) ≤ 1 + (m : Int) + (m1 : Int) := by omega
    have kb1 : 1 + (m : Int) + (m1 : Int) ≤ 1000000000 := by omega
    have kc1 : ¬ (1 + (m : Int) + (m1 : Int) < 0) := by omega
    have o0 : (ev.o.sv (td.sv (az.take m)) (ys.take m1) T).length ≤ 4611686018427387904 := by rw [ev.o_length, td.sv_length, e0]; omega
    simp only [ka0, kb0, kc0, ka1, kb1, kc1, b0, b1, e0, e1, g0, g1, hl0, hl1, hl2, hl3, hc, o0, List.take_take, Nat.min_self, Nat.le_refl, List.take_length, marks_length, take_marks, one_neg, i0_1, i1_b, true_and, and_true, and_self, decide_true, decide_false, Bool.and_self, Bool.or_self, Bool.and_true, Bool.true_and, Bool.and_false, Bool.false_and, Bool.or_true, Bool.true_or, Bool.or_false, Bool.false_or, Bool.not_true, Bool.not_false, cond_true, cond_false, bne_self_eq_false, beq_self_eq_true, marksF_length, take_marksF]
  · cases h
theorem ok : EntOk Try.prog ⟨7, R⟩ :=
  ent_okA mixed (A := (orcW [⟨29, markFloat32S.R⟩] [⟨25, toFloat32S.R⟩, ⟨31, sTolledFlow.Rt⟩, ⟨32, iTolledFlow.Rt⟩, ⟨27, eqFloat32N.R⟩, ⟨30, heldFloat32S.R⟩])) (orcW_ok (by simp only [List.mem_cons, List.not_mem_nil, or_false, forall_eq_or_imp, forall_eq]; exact markFloat32S.ok) (by simp only [List.mem_cons, List.not_mem_nil, or_false, forall_eq_or_imp, forall_eq]; exact ⟨toFloat32S.ok, sTolledFlow.okt, iTolledFlow.okt, eqFloat32N.ok, heldFloat32S.ok⟩)) Try.func7 (by kernel_rfl) (by kernel_rfl) (n := 119) (ts := [6]) (hd := hd0) (dr := Dr.std) (cut := (some 0)) (by kernel_rfl) (by kernel_rfl) (by kernel_rfl) run
end FnExactTolledFlowt

namespace FnExactTolledFlowf
def R : List AVal → Option (Bool × AVal × List Blk)
  | [.ro (.flts .f32 az) m 1, .ro (.flts .f32 ys) m1 1, .flt .f32 T] => some (decide ((1048576 : Int) < (m : Int) ∨ (1048576 : Int) < (m1 : Int)) || (decide (m ≤ az.length ∧ m ≤ 1048576 ∧ m1 ≤ ys.length ∧ m1 ≤ 1048576) && !(ev.sp (td.sv (az.take m)) (ys.take m1) T)), .bool true, [])
  | _ => none
theorem go (az : List Nat) (m : Nat) (ys : List Nat) (m1 : Nat) (T : Nat) :
  runFn Try.prog (orcW [⟨29, markFloat32S.R⟩] [⟨25, toFloat32S.R⟩, ⟨31, sTolledFlow.Rf⟩, ⟨32, iTolledFlow.Rf⟩, ⟨27, eqFloat32N.R⟩, ⟨30, heldFloat32S.R⟩]) hd0 Dr.std (some 0) 0 (bodyOf Try.f7) 119 [6] [.ro (.flts .f32 az) m 1, .ro (.flts .f32 ys) m1 1, .flt .f32 T] []
  = (bif decide ((1048576 : Int) < (↑m : Int)) then some (AVal.bool true, []) else bif decide ((1048576 : Int) < (↑m1 : Int)) then some (AVal.bool true, []) else bif decide (m ≤ az.length ∧ m ≤ (1048576 : Nat)) && (true && true || true && (true && true)) then bif decide (m1 ≤ ys.length ∧ m1 ≤ (1048576 : Nat)) && (true && true || true && (true && true)) then bif decide (m = (List.take m az).length ∧ m1 = (List.take m1 ys).length ∧ m ≤ (1048576 : Nat) ∧ m1 ≤ (1048576 : Nat)) && !ev.sp (td.sv (List.take m az)) (List.take m1 ys) T && (false && (false && (true && true)) || true && true) then bif decide (m ≤ az.length ∧ m ≤ (1048576 : Nat)) && (true && true || true && (true && true)) then bif decide (m1 ≤ ys.length ∧ m1 ≤ (1048576 : Nat)) && (true && true || true && (true && true)) then bif decide (m = (List.take m az).length ∧ m1 = (List.take m1 ys).length ∧ m ≤ (1048576 : Nat) ∧ m1 ≤ (1048576 : Nat)) && !ev.sp (td.sv (List.take m az)) (List.take m1 ys) T && (false && (false && (true && true)) || true && true) then bif decide (m ≤ az.length ∧ m ≤ (1048576 : Nat)) && (true && true || true && (true && true)) then bif decide (m ≤ (List.take m az).length ∧ m ≤ (List.take m az).length ∧ m ≤ (4611686018427387904 : Nat) ∧ m = m ∧ List.take m (List.take m az) = List.take m (List.take m az)) && (false && (false && true) || true && true) then bif decide (m1 ≤ ys.length ∧ m1 ≤ (1048576 : Nat)) && (true && true || true && (true && true)) then bif decide (m1 ≤ (List.take m1 ys).length ∧ m1 ≤ (List.take m1 ys).length ∧ m1 ≤ (4611686018427387904 : Nat) ∧ m1 = m1 ∧ List.take m1 (List.take m1 ys) = List.take m1 (List.take m1 ys)) && (false && (false && true) || true && true) then bif decide (m = (List.take m az).length ∧ m ≤ (4611686018427387904 : Nat) ∧ (0 : Int) ≤ (1 : Int) ∧ (1 : Int) ≤ (1000000000 : Int)) && (true && true && (true && true)) then bif decide (m1 = (List.take m1 ys).length ∧ m1 ≤ (4611686018427387904 : Nat) ∧ (0 : Int) ≤ (1 : Int) + (↑m : Int) ∧ (1 : Int) + (↑m : Int) ≤ (1000000000 : Int)) && (true && true && (true && true)) then bif decide ((1 : Int) + (↑m : Int) + (↑m1 : Int) < (0 : Int)) then some (AVal.bool false, []) else bif true && (true && true) then bif decide (m ≤ az.length ∧ m ≤ (1048576 : Nat)) && (true && true || true && (true && true)) then bif decide (m1 ≤ ys.length ∧ m1 ≤ (1048576 : Nat)) && (true && true || true && (true && true)) then bif decide (m = (List.take m az).length ∧ m1 = (List.take m1 ys).length ∧ m ≤ (1048576 : Nat) ∧ m1 ≤ (1048576 : Nat)) && !ev.sp (td.sv (List.take m az)) (List.take m1 ys) T && (false && (false && (true && true)) || true && true) then some (AVal.bool true, []) else none else none else none else none else none else none else none else none else none else none else none else none else none else none else none else none) := by kernel_rfl
theorem run : ∀ args v new, R args = some (true, v, new) → ∃ fuel, runFn Try.prog (orcW [⟨29, markFloat32S.R⟩] [⟨25, toFloat32S.R⟩, ⟨31, sTolledFlow.Rf⟩, ⟨32, iTolledFlow.Rf⟩, ⟨27, eqFloat32N.R⟩, ⟨30, heldFloat32S.R⟩]) hd0 Dr.std (some 0) fuel (bodyOf Try.f7) 119 [6] args [] = some (v, new) := by
  intro args v new h
  unfold R at h
  split at h
  · rename_i az m ys m1 T
    simp only [Option.some.injEq, Prod.mk.injEq, Bool.or_eq_true, Bool.and_eq_true, decide_eq_true_eq, Bool.not_eq_true'] at h
    obtain ⟨h, rfl, rfl⟩ := h
    refine ⟨0, ?_⟩
    rw [go]
    by_cases b0 : (1048576 : Int) < (m : Int)
    · simp only [b0, decide_true, decide_false, cond_true, cond_false]
    by_cases b1 : (1048576 : Int) < (m1 : Int)
    · simp only [b0, b1, decide_true, decide_false, cond_true, cond_false]
    rcases h with h | h
    · exact absurd h (by omega)
    obtain ⟨⟨hl0, hl1, hl2, hl3⟩, hc⟩ := h
    have e0 : (az.take m).length = m := by simp; omega
    have g0 : m ≤ 4611686018427387904 := by omega
    have e1 : (ys.take m1).length = m1 := by simp; omega
    have g1 : m1 ≤ 4611686018427387904 := by omega
    have ka0 : (0 : Int) ≤ 1 + (m : Int) := by omega
    have kb0 : 1 + (m : Int) ≤ 1000000000 := by omega
    have kc0 : ¬ (1 + (m : Int) < 0) := by omega
    have ka1 : (0 : Int) ≤ 1 + (m : Int) + (m1 : Int) := by omega
    have kb1 : 1 + (m : Int) + (m1 : Int) ≤ 1000000000 := by omega
    have kc1 : ¬ (1 + (m : Int) + (m1 : Int) < 0) := by omega
    simp only [ka0, kb0, kc0, ka1, kb1, kc1, b0, b1, e0, e1, g0, g1, hl0, hl1, hl2, hl3, hc, List.take_take, Nat.min_self, Nat.le_refl, List.take_length, marks_length, take_marks, one_neg, i0_1, i1_b, true_and, and_true, and_self, decide_true, decide_false, Bool.and_self, Bool.or_self, Bool.and_true, Bool.true_and, Bool.and_false, Bool.false_and, Bool.or_true, Bool.true_or, Bool.or_false, Bool.false_or, Bool.not_true, Bool.not_false, cond_true, cond_false, bne_self_eq_false, beq_self_eq_true, marksF_length, take_marksF]
  · cases h
theorem ok : EntOk Try.prog ⟨7, R⟩ :=
  ent_okA mixed (A := (orcW [⟨29, markFloat32S.R⟩] [⟨25, toFloat32S.R⟩, ⟨31, sTolledFlow.Rf⟩, ⟨32, iTolledFlow.Rf⟩, ⟨27, eqFloat32N.R⟩, ⟨30, heldFloat32S.R⟩])) (orcW_ok (by simp only [List.mem_cons, List.not_mem_nil, or_false, forall_eq_or_imp, forall_eq]; exact markFloat32S.ok) (by simp only [List.mem_cons, List.not_mem_nil, or_false, forall_eq_or_imp, forall_eq]; exact ⟨toFloat32S.ok, sTolledFlow.okf, iTolledFlow.okf, eqFloat32N.ok, heldFloat32S.ok⟩)) Try.func7 (by kernel_rfl) (by kernel_rfl) (n := 119) (ts := [6]) (hd := hd0) (dr := Dr.std) (cut := (some 0)) (by kernel_rfl) (by kernel_rfl) (by kernel_rfl) run
end FnExactTolledFlowf

namespace FnExactTolledFlow
def R : List AVal → Option (Bool × AVal × List Blk)
  | [.ro (.flts .f32 az) m 1, .ro (.flts .f32 ys) m1 1, .flt .f32 T] => some (decide (m ≤ az.length ∧ m1 ≤ ys.length), .bool true, [])
  | _ => none
theorem ok : EntOk Try.prog ⟨7, R⟩ := by
  refine EntOk.cases FnExactTolledFlowt.ok FnExactTolledFlowf.ok fun args v new h => ?_
  unfold R at h
  split at h
  · rename_i az m ys m1 T
    simp only [Option.some.injEq, Prod.mk.injEq, decide_eq_true_eq] at h
    obtain ⟨h, rfl, rfl⟩ := h
    simp only [FnExactTolledFlowt.R, FnExactTolledFlowf.R, Option.some.injEq, Prod.mk.injEq, Bool.or_eq_true, Bool.and_eq_true, decide_eq_true_eq, Bool.not_eq_true', and_true]
    by_cases hb : (1048576 : Int) < (m : Int) ∨ (1048576 : Int) < (m1 : Int)
    · exact .inl (.inl hb)
    · have hs : m ≤ az.length ∧ m ≤ 1048576 ∧ m1 ≤ ys.length ∧ m1 ≤ 1048576 := by omega
      cases hc : (ev.sp (td.sv (az.take m)) (ys.take m1) T : Bool)
      · exact .inr (.inr ⟨hs, rfl⟩)
      · exact .inl (.inr ⟨hs, rfl⟩)
  · cases h
end FnExactTolledFlow

end Go.Proofs.Ytgeglpommdckgaa.Ab
