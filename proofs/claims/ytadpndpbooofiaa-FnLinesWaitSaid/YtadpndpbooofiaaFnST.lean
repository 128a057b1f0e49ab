/-
  Sorting that keeps the order of what is alike, the plain law: what is sorted by key and number is unique; where to split; searching by halves.
-/
import Derived.Test.YtadpndpbooofiaaFnE
namespace Go.Proofs.Ytadpndpbooofiaa.Ab
open Go
set_option linter.unusedVariables false
set_option linter.unusedSimpArgs false

namespace ss
def lt.sp (ts : List Int) (x y : Int) : Bool := decide (gz ts x.toNat < gz ts y.toNat)
/-- By key, and by number where the keys are alike. -/
def le (ts : List Int) (x y : Int) : Bool := decide (gz ts x.toNat < gz ts y.toNat) || (decide (gz ts x.toNat = gz ts y.toNat) && decide (x ≤ y))
theorem le_iff {ts : List Int} {x y : Int} : le ts x y = true ↔ gz ts x.toNat < gz ts y.toNat ∨ (gz ts x.toNat = gz ts y.toNat ∧ x ≤ y) := by
  simp only [le, Bool.or_eq_true, Bool.and_eq_true, decide_eq_true_eq]
theorem le_trans (ts : List Int) (a b c : Int) (h1 : le ts a b = true) (h2 : le ts b c = true) : le ts a c = true := by
  rw [le_iff] at *; omega
theorem le_total (ts : List Int) (a b : Int) : (le ts a b || le ts b a) = true := by
  rw [Bool.or_eq_true, le_iff, le_iff]; omega
theorem le_antisymm {ts : List Int} {a b : Int} (h1 : le ts a b = true) (h2 : le ts b a = true) : a = b := by
  rw [le_iff] at *; omega
theorem le_refl (ts : List Int) (a : Int) : le ts a a = true := by rw [le_iff]; omega
def Sorted (ts : List Int) (l : List Int) : Prop := l.Pairwise fun a b => le ts a b = true
/-- The sorted list. -/
def ms.sv (ts : List Int) (l : List Int) : List Int := l.mergeSort (le ts)
theorem ms_perm (ts l : List Int) : (ms.sv ts l).Perm l := List.mergeSort_perm l _
theorem ms_sorted (ts l : List Int) : Sorted ts (ms.sv ts l) := List.pairwise_mergeSort (le_trans ts) (le_total ts) l
theorem ms_length (ts l : List Int) : (ms.sv ts l).length = l.length := (ms_perm ts l).length_eq
theorem uniq {ts l l' : List Int} (hs : Sorted ts l') (hp : l'.Perm l) : l' = ms.sv ts l :=
  List.Perm.eq_of_pairwise (fun a b _ _ h1 h2 => le_antisymm h1 h2) hs (ms_sorted ts l) (hp.trans (ms_perm ts l).symm)
theorem ms_self {ts l : List Int} (hs : Sorted ts l) : ms.sv ts l = l := (uniq hs (List.Perm.refl l)).symm
theorem ms_congr {ts l l' : List Int} (hp : l.Perm l') : ms.sv ts l = ms.sv ts l' := uniq (ms_sorted ts l) ((ms_perm ts l).trans hp)
theorem mem_ms {ts l : List Int} {x : Int} : x ∈ ms.sv ts l ↔ x ∈ l := (ms_perm ts l).mem_iff
theorem Sorted.app {ts l r : List Int} (hl : Sorted ts l) (hr : Sorted ts r) (h : ∀ a ∈ l, ∀ b ∈ r, le ts a b = true) : Sorted ts (l ++ r) := List.pairwise_append.2 ⟨hl, hr, h⟩
/-- Two parts, of which none of the first comes behind one of the second, are sorted one by one. -/
theorem ms_app {ts l r : List Int} (h : ∀ a ∈ l, ∀ b ∈ r, le ts a b = true) : ms.sv ts (l ++ r) = ms.sv ts l ++ ms.sv ts r :=
  (uniq ((ms_sorted ts l).app (ms_sorted ts r) fun a ha b hb => h a (mem_ms.1 ha) b (mem_ms.1 hb)) ((ms_perm ts l).append (ms_perm ts r))).symm
/-- Nothing on the right that is like something on the left has a lower number. -/
def Cross (ts l r : List Int) : Prop := ∀ x ∈ l, ∀ y ∈ r, gz ts x.toNat = gz ts y.toNat → x ≤ y
theorem Cross.le {ts l r : List Int} (h : Cross ts l r) {x y : Int} (hx : x ∈ l) (hy : y ∈ r) (hn : lt.sp ts y x = false) : ss.le ts x y = true := by
  have := h x hx y hy
  simp only [lt.sp, decide_eq_false_iff_not] at hn
  rw [le_iff]; omega
theorem lt_le {ts : List Int} {x y : Int} (h : lt.sp ts x y = true) : le ts x y = true := by
  simp only [lt.sp, decide_eq_true_eq] at h
  rw [le_iff]; omega
/-- Where to split: both halves are turned round and sorted one by one. -/
theorem split {ts l1 l2 r1 r2 : List Int} (hl : Sorted ts (l1 ++ l2)) (hr : Sorted ts (r1 ++ r2)) (hc : Cross ts (l1 ++ l2) (r1 ++ r2))
    (h1 : ∀ x ∈ l1, ∀ y ∈ r2, lt.sp ts y x = false) (h2 : ∀ y ∈ r1, ∀ x ∈ l2, lt.sp ts y x = true) :
    ms.sv ts ((l1 ++ l2) ++ (r1 ++ r2)) = ms.sv ts (l1 ++ r1) ++ ms.sv ts (l2 ++ r2) := by
  have hl' := (List.pairwise_append.1 hl).2.2
  have hr' := (List.pairwise_append.1 hr).2.2
  have hp : ((l1 ++ l2) ++ (r1 ++ r2)).Perm ((l1 ++ r1) ++ (l2 ++ r2)) := by
    rw [List.append_assoc, List.append_assoc]
    refine List.Perm.append_left l1 ?_
    rw [← List.append_assoc, ← List.append_assoc]
    exact List.Perm.append_right r2 List.perm_append_comm
  rw [ms_congr hp]
  refine ms_app fun a ha b hb => ?_
  rcases List.mem_append.1 ha with ha | ha <;> rcases List.mem_append.1 hb with hb | hb
  · exact hl' a ha b hb
  · exact hc.le (List.mem_append_left _ ha) (List.mem_append_right _ hb) (h1 a ha b hb)
  · exact lt_le (h2 a ha b hb)
  · exact hr' a ha b hb
/-- Searching by halves. -/
def bs.sv (p : Nat → Bool) : Nat → Nat → Nat → Nat
  | 0, i, _ => i
  | d + 1, i, j => bif decide (i < j) then (bif p ((i + j) / 2) then bs.sv p d ((i + j) / 2 + 1) j else bs.sv p d i ((i + j) / 2)) else i
theorem bs_spec (p : Nat → Bool) : ∀ (d i j : Nat), i ≤ j → j - i ≤ d → (∀ h k, i ≤ h → h ≤ k → k < j → p k = true → p h = true) →
    i ≤ bs.sv p d i j ∧ bs.sv p d i j ≤ j ∧ (∀ h, i ≤ h → h < bs.sv p d i j → p h = true) ∧ ∀ h, bs.sv p d i j ≤ h → h < j → p h = false := by
  intro d
  induction d with
  | zero =>
    intro i j h1 h2 _
    refine ⟨Nat.le_refl _, h1, fun h a b => ?_, fun h a b => ?_⟩
    · simp only [bs.sv] at b; omega
    · simp only [bs.sv] at a; omega
  | succ d ih =>
    intro i j h1 h2 hm
    by_cases c : i < j
    · have hh : i ≤ (i + j) / 2 ∧ (i + j) / 2 < j := by omega
      simp only [bs.sv, c, decide_true, cond_true]
      generalize hq : (i + j) / 2 = q at hh ⊢
      cases hp : p q
      · simp only [cond_false]
        obtain ⟨a1, a2, a3, a4⟩ := ih i q (by omega) (by omega) (fun h k x1 x2 x3 => hm h k x1 x2 (by omega))
        refine ⟨a1, by omega, a3, fun h x1 x2 => ?_⟩
        by_cases c2 : h < q
        · exact a4 h x1 c2
        · cases hph : p h
          · rfl
          · have := hm q h hh.1 (by omega) x2 hph
            rw [hp] at this; exact absurd this (by decide)
      · simp only [cond_true]
        obtain ⟨a1, a2, a3, a4⟩ := ih (q + 1) j (by omega) (by omega) (fun h k x1 x2 x3 => hm h k (by omega) x2 x3)
        refine ⟨by omega, a2, fun h x1 x2 => ?_, a4⟩
        by_cases c2 : q + 1 ≤ h
        · exact a3 h c2 x2
        · exact hm h q x1 (by omega) hh.2 hp
    · have : i = j := by omega
      subst this
      simp only [bs.sv, c, decide_false, cond_false]
      exact ⟨Nat.le_refl _, Nat.le_refl _, fun h a b => by omega, fun h a b => by omega⟩
/-- One on the left is put among those on the right. -/
theorem one_left {ts r1 r2 : List Int} {x : Int} (hr : Sorted ts (r1 ++ r2)) (hc : Cross ts [x] (r1 ++ r2)) (h1 : ∀ y ∈ r1, lt.sp ts y x = true) (h2 : ∀ y ∈ r2, lt.sp ts y x = false) :
    ms.sv ts (x :: (r1 ++ r2)) = r1 ++ x :: r2 := by
  have hr' := List.pairwise_append.1 hr
  have hx : ∀ y ∈ r2, le ts x y = true := fun y hy => hc.le (List.mem_singleton.2 rfl) (List.mem_append_right _ hy) (h2 y hy)
  refine (uniq (Sorted.app hr'.1 (List.pairwise_cons.2 ⟨hx, hr'.2.1⟩) fun a ha b hb => ?_) List.perm_middle).symm
  rcases List.mem_cons.1 hb with rfl | hb
  · exact lt_le (h1 a ha)
  · exact hr'.2.2 a ha b hb
/-- One on the right is put among those on the left. -/
theorem one_right {ts l1 l2 : List Int} {y : Int} (hl : Sorted ts (l1 ++ l2)) (hc : Cross ts (l1 ++ l2) [y]) (h1 : ∀ x ∈ l1, lt.sp ts y x = false) (h2 : ∀ x ∈ l2, lt.sp ts y x = true) :
    ms.sv ts ((l1 ++ l2) ++ [y]) = l1 ++ y :: l2 := by
  have hl' := List.pairwise_append.1 hl
  have hy : ∀ x ∈ l1, le ts x y = true := fun x hx => hc.le (List.mem_append_left _ hx) (List.mem_singleton.2 rfl) (h1 x hx)
  refine (uniq (Sorted.app hl'.1 (List.pairwise_cons.2 ⟨fun b hb => lt_le (h2 b hb), hl'.2.1⟩) fun a ha b hb => ?_) ?_).symm
  · rcases List.mem_cons.1 hb with rfl | hb
    · exact hy a ha
    · exact hl'.2.2 a ha b hb
  · rw [List.append_assoc]
    refine List.Perm.append_left l1 ?_
    exact (List.perm_append_comm (l₁ := [y]) (l₂ := l2))
end ss

end Go.Proofs.Ytadpndpbooofiaa.Ab
