/-
  Sorting by blocks that double: the plain law.
-/
import Derived.Test.YtadpndpbooofiaaFnTD
namespace Go.Proofs.Ytadpndpbooofiaa.Ab
open Go
set_option linter.unusedVariables false
set_option linter.unusedSimpArgs false

namespace ss
/-- Blocks of length z, each sorted. -/
def bl.sv (ts : List Int) (z : Nat) (l : List Int) : List Int := if h : 0 < z ∧ z ≤ l.length then ms.sv ts (l.take z) ++ bl.sv ts z (l.drop z) else ms.sv ts l
termination_by l.length
decreasing_by rw [List.length_drop]; omega
theorem bl_cons {ts l : List Int} {z : Nat} (h : 0 < z) (h2 : z ≤ l.length) : bl.sv ts z l = ms.sv ts (l.take z) ++ bl.sv ts z (l.drop z) := by
  rw [bl.sv, dif_pos ⟨h, h2⟩]
theorem bl_end {ts l : List Int} {z : Nat} (h : l.length < z) : bl.sv ts z l = ms.sv ts l := by
  rw [bl.sv, dif_neg (by omega)]
theorem bl_short {ts l : List Int} {z : Nat} (h0 : 0 < z) (h : l.length ≤ z) : bl.sv ts z l = ms.sv ts l := by
  by_cases c : l.length < z
  · exact bl_end c
  · rw [bl_cons h0 (by omega), List.take_of_length_le h, List.drop_of_length_le h, bl_end (by simpa using h0), ms_nil, List.append_nil]
theorem bl_perm (ts : List Int) (z : Nat) : ∀ (d : Nat) (l : List Int), l.length ≤ d → (bl.sv ts z l).Perm l := by
  intro d
  induction d with
  | zero =>
    intro l h
    obtain rfl : l = [] := List.eq_nil_of_length_eq_zero (by omega)
    rw [bl.sv, dif_neg (fun hh => by have := hh.2; simp at this; omega)]
    exact ms_perm _ _
  | succ d ih =>
    intro l h
    by_cases c : 0 < z ∧ z ≤ l.length
    · rw [bl_cons c.1 c.2]
      conv => rhs; rw [← List.take_append_drop z l]
      exact (ms_perm _ _).append (ih _ (by rw [List.length_drop]; omega))
    · rw [bl.sv, dif_neg c]
      exact ms_perm _ _
theorem bl_two {ts l : List Int} {z : Nat} (h : 0 < z) (h2 : 2 * z ≤ l.length) : bl.sv ts z l = ms.sv ts (l.take z) ++ (ms.sv ts ((l.drop z).take z) ++ bl.sv ts z (l.drop (2 * z))) := by
  rw [bl_cons h (by omega), bl_cons h (by rw [List.length_drop]; omega), List.drop_drop, show z + z = 2 * z from by omega]
theorem ms_two (ts A B : List Int) : ms.sv ts (ms.sv ts A ++ ms.sv ts B) = ms.sv ts (A ++ B) := ms_congr ((ms_perm _ _).append (ms_perm _ _))
theorem take_two (l : List Int) (z : Nat) : l.take z ++ (l.drop z).take z = l.take (2 * z) := by
  rw [show 2 * z = z + z from by omega, List.take_add]
theorem asc_cross {ts l : List Int} (h : asc l) (z : Nat) : Cross ts (ms.sv ts (l.take z)) (ms.sv ts (l.drop z)) := fun x hx y hy _ => by
  rw [mem_ms] at hx hy
  rw [asc, ← List.take_append_drop z l] at h
  exact (List.pairwise_append.1 h).2.2 x hx y hy
theorem asc_take {l : List Int} (h : asc l) (z : Nat) : asc (l.take z) := List.Pairwise.sublist (List.take_sublist z l) h
theorem asc_drop {l : List Int} (h : asc l) (z : Nat) : asc (l.drop z) := List.Pairwise.sublist (List.drop_sublist z l) h
theorem okI_app {k a b : Nat} {P M S : List Int} (ha : P.length = a) (hb : a + M.length = b) (hin : inr k (P ++ (M ++ S))) (h : asc M) : okI.sp k a b (P ++ (M ++ S)) = true := by
  unfold okI.sp
  rw [seg_app ha hb]
  simp only [hin, h, decide_true, Bool.and_self]
/-- Two blocks are merged: the check and what comes. -/
theorem merge_two {ts P l : List Int} {k a z : Nat} (ha : P.length = a) (hz : 0 < z) (h2 : 2 * z ≤ l.length) (hin : inr k (P ++ l)) (hasc : asc l) :
    okM.sp ts k a (a + z) (a + 2 * z) (P ++ bl.sv ts z l) = true ∧ out.sv ts a (a + 2 * z) (P ++ bl.sv ts z l) = (P ++ ms.sv ts (l.take (2 * z))) ++ bl.sv ts z (l.drop (2 * z)) := by
  have hp : (P ++ bl.sv ts z l).Perm (P ++ l) := List.Perm.append_left P (bl_perm ts z _ l (Nat.le_refl _))
  have hi := inr_perm hin hp
  have l1 : (ms.sv ts (l.take z)).length = z := by rw [ms_length, List.length_take]; omega
  have l2 : (ms.sv ts ((l.drop z).take z)).length = z := by rw [ms_length, List.length_take, List.length_drop]; omega
  rw [bl_two hz h2] at hi ⊢
  constructor
  · refine okM_app ha (by omega) (by omega) hi (ms_sorted _ _) (ms_sorted _ _) fun x hx y hy => ?_
    exact asc_cross hasc z x hx y (mem_ms.2 (List.mem_of_mem_take (mem_ms.1 hy)))
  · rw [← List.append_assoc (ms.sv ts (l.take z)), out_app ha (by rw [List.length_append]; omega), ms_two, take_two, List.append_assoc]
/-- The last two blocks, of which the second is short. -/
theorem merge_last {ts P l : List Int} {k a z : Nat} (ha : P.length = a) (hz : 0 < z) (h1 : z < l.length) (h2 : l.length < 2 * z) (hin : inr k (P ++ l)) (hasc : asc l) :
    okM.sp ts k a (a + z) (a + l.length) (P ++ bl.sv ts z l) = true ∧ out.sv ts a (a + l.length) (P ++ bl.sv ts z l) = P ++ bl.sv ts (2 * z) l := by
  have hp : (P ++ bl.sv ts z l).Perm (P ++ l) := List.Perm.append_left P (bl_perm ts z _ l (Nat.le_refl _))
  have hi := inr_perm hin hp
  have l1 : (ms.sv ts (l.take z)).length = z := by rw [ms_length, List.length_take]; omega
  have l2 : (ms.sv ts (l.drop z)).length = l.length - z := by rw [ms_length, List.length_drop]
  have e : P ++ bl.sv ts z l = P ++ (ms.sv ts (l.take z) ++ (ms.sv ts (l.drop z) ++ [])) := by
    rw [bl_cons hz (by omega), bl_end (by rw [List.length_drop]; omega), List.append_nil]
  rw [e] at hi ⊢
  constructor
  · exact okM_app ha (by omega) (by omega) hi (ms_sorted _ _) (ms_sorted _ _) (asc_cross hasc z)
  · rw [← List.append_assoc (ms.sv ts (l.take z)), out_app ha (by rw [List.length_append]; omega), ms_two, List.take_append_drop, bl_end (by omega), List.append_nil]
theorem block_one {ts P l : List Int} {k a z : Nat} (ha : P.length = a) (h2 : z ≤ l.length) (hin : inr k (P ++ l)) (hasc : asc l) :
    okI.sp k a (a + z) (P ++ l) = true ∧ out.sv ts a (a + z) (P ++ l) = (P ++ ms.sv ts (l.take z)) ++ l.drop z := by
  have lt : (l.take z).length = z := by rw [List.length_take]; omega
  have e : P ++ l = P ++ (l.take z ++ l.drop z) := by rw [List.take_append_drop]
  rw [e] at hin ⊢
  exact ⟨okI_app ha (by omega) hin (asc_take hasc z), by rw [out_app ha (by omega), List.append_assoc]⟩
theorem ms_whole {ts l : List Int} : out.sv ts 0 l.length l = ms.sv ts l := by
  have := out_app (ts := ts) (P := []) (M := l) (S := []) (a := 0) (b := l.length) rfl (by omega)
  simpa using this
end ss

end Go.Proofs.Ytadpndpbooofiaa.Ab
