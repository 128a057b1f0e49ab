/-
  A part of a list is sorted: the plain law.
-/
import Derived.Test.YtadpndpbooofiaaFnSZ
namespace Go.Proofs.Ytadpndpbooofiaa.Ab
open Go
set_option linter.unusedVariables false
set_option linter.unusedSimpArgs false

namespace ss
instance decS (ts l : List Int) : Decidable (Sorted ts l) := by unfold Sorted; infer_instance
instance decC (ts l r : List Int) : Decidable (Cross ts l r) := by unfold Cross; infer_instance
/-- All are numbers of keys. -/
def inr (k : Nat) (os : List Int) : Prop := ∀ x ∈ os, 0 ≤ x ∧ x < (k : Int)
instance decI (k : Nat) (os : List Int) : Decidable (inr k os) := by unfold inr; infer_instance
def asc (l : List Int) : Prop := l.Pairwise fun a b => a ≤ b
instance decA (l : List Int) : Decidable (asc l) := by unfold asc; infer_instance
def seg.sv (a b : Nat) (os : List Int) : List Int := (os.take b).drop a
def out.sv (ts : List Int) (a b : Nat) (os : List Int) : List Int := os.take a ++ (ms.sv ts (seg.sv a b os) ++ os.drop b)
def okI.sp (k a b : Nat) (os : List Int) : Bool := decide (inr k os) && decide (asc (seg.sv a b os))
def okM.sp (ts : List Int) (k a q b : Nat) (os : List Int) : Bool := decide (inr k os) && (decide (Sorted ts (seg.sv a q os)) && (decide (Sorted ts (seg.sv q b os)) && decide (Cross ts (seg.sv a q os) (seg.sv q b os))))
theorem parts {os : List Int} {a b : Nat} (h1 : a ≤ b) (h2 : b ≤ os.length) : ∃ P M S, os = P ++ (M ++ S) ∧ P.length = a ∧ a + M.length = b := by
  refine ⟨os.take a, (os.take b).drop a, os.drop b, ?_, by rw [List.length_take]; omega, by rw [List.length_drop, List.length_take]; omega⟩
  have e : os.take a = (os.take b).take a := by rw [List.take_take, Nat.min_eq_left h1]
  rw [← List.append_assoc, e, List.take_append_drop, List.take_append_drop]
theorem seg_app {P M S : List Int} {a b : Nat} (ha : P.length = a) (hb : a + M.length = b) : seg.sv a b (P ++ (M ++ S)) = M := by
  subst ha hb
  unfold seg.sv
  rw [← List.append_assoc, ← List.length_append, List.take_left, List.drop_left]
theorem out_app {ts P M S : List Int} {a b : Nat} (ha : P.length = a) (hb : a + M.length = b) : out.sv ts a b (P ++ (M ++ S)) = P ++ (ms.sv ts M ++ S) := by
  unfold out.sv
  rw [seg_app ha hb]
  subst ha hb
  have e : (P ++ (M ++ S)).drop (P.length + M.length) = S := by rw [← List.append_assoc, ← List.length_append, List.drop_left]
  rw [e, List.take_left]
theorem out_length {ts os : List Int} {a b : Nat} (h1 : a ≤ b) (h2 : b ≤ os.length) : (out.sv ts a b os).length = os.length := by
  obtain ⟨P, M, S, rfl, hp, hm⟩ := parts h1 h2
  rw [out_app hp hm]
  simp only [List.length_append, ms_length]
theorem out_perm {ts os : List Int} {a b : Nat} (h1 : a ≤ b) (h2 : b ≤ os.length) : (out.sv ts a b os).Perm os := by
  obtain ⟨P, M, S, rfl, hp, hm⟩ := parts h1 h2
  rw [out_app hp hm]
  exact List.Perm.append_left P (List.Perm.append_right S (ms_perm ts M))
theorem inr_perm {k : Nat} {l l' : List Int} (h : inr k l) (hp : l'.Perm l) : inr k l' := fun x hx => h x (hp.mem_iff.1 hx)
theorem inr_gz {k i : Nat} {os : List Int} (h : inr k os) (hi : i < os.length) : 0 ≤ gz os i ∧ gz os i < (k : Int) := by
  rw [gz_eq hi]; exact h _ (List.getElem_mem hi)
theorem inr_set {k : Nat} {os : List Int} (h : inr k os) {v : Int} (hv : 0 ≤ v ∧ v < (k : Int)) (i : Nat) : inr k (os.set i v) := fun x hx => by
  rcases List.mem_or_eq_of_mem_set hx with h1 | h1
  · exact h x h1
  · subst h1; exact hv
/-- One more of the part comes into its place. -/
theorem dn_step {ts P M S : List Int} {a e : Nat} (ha : P.length = a) (he : e < M.length) (hasc : asc M) :
    dn.sv ts a e (P ++ (ms.sv ts (M.take e) ++ (M.drop e ++ S))) = P ++ (ms.sv ts (M.take (e + 1)) ++ (M.drop (e + 1) ++ S)) := by
  subst ha
  have h1 : M.drop e = M[e] :: M.drop (e + 1) := List.drop_eq_getElem_cons he
  have h2 : M.take (e + 1) = M.take e ++ [M[e]] := by rw [List.take_succ_eq_append_getElem he]
  have hl : (ms.sv ts (M.take e)).length = e := by rw [ms_length, List.length_take]; omega
  rw [h1, h2, List.cons_append, dn_app ts P M[e] e (ms.sv ts (M.take e)) (M.drop (e + 1) ++ S) hl (ms_sorted _ _) ?_]
  · rw [ms_congr (List.Perm.append_right [M[e]] (ms_perm ts (M.take e)))]
  · intro x hx y hy _
    obtain rfl := List.mem_singleton.1 hy
    obtain ⟨i, hi, rfl⟩ := List.mem_iff_getElem.1 (mem_ms.1 hx)
    rw [List.length_take] at hi
    rw [List.getElem_take]
    exact List.pairwise_iff_getElem.1 hasc i e (by omega) he (by omega)
theorem ms_one (ts : List Int) (x : Int) : ms.sv ts [x] = [x] := ms_self (List.pairwise_singleton _ _)
theorem ms_nil (ts : List Int) : ms.sv ts [] = [] := ms_self List.Pairwise.nil
end ss

end Go.Proofs.Ytadpndpbooofiaa.Ab
