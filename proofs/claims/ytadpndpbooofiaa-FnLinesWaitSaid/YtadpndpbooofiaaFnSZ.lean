/-
  Where symMerge splits: the symmetric search, the plain law.
-/
import Derived.Test.YtadpndpbooofiaaFnSY
namespace Go.Proofs.Ytadpndpbooofiaa.Ab
open Go
set_option linter.unusedVariables false
set_option linter.unusedSimpArgs false

namespace ss
theorem Sorted.lt_mono {ts l : List Int} (h : Sorted ts l) {i j : Nat} (hi : i < l.length) (hj : j < l.length) (hij : i ≤ j) : gz ts (l[i]).toNat ≤ gz ts (l[j]).toNat := by
  by_cases e : i = j
  · subst e; exact Int.le_refl _
  · have := List.pairwise_iff_getElem.1 h i j hi hj (by omega)
    rw [le_iff] at this
    omega
/-- The search's question: is the left one, number c, not behind the right one, number t - c? -/
def ask (ts l r : List Int) (t c : Nat) : Bool := !lt.sp ts (gz r (t - c)) (gz l c)
/-- Left numbers from c on fall, right ones rise: the answers turn from yes to no once. -/
theorem ask_mono {ts l r : List Int} (hl : Sorted ts l) (hr : Sorted ts r) (t : Nat) {h k : Nat} (h1 : h ≤ k) (h2 : k < l.length) (h3 : t - h < r.length) (hk : ask ts l r t k = true) : ask ts l r t h = true := by
  have a := hl.lt_mono (i := h) (j := k) (by omega) h2 h1
  have b := hr.lt_mono (i := t - k) (j := t - h) (by omega) h3 (by omega)
  simp only [ask, lt.sp, Bool.not_eq_true', decide_eq_false_iff_not] at hk ⊢
  rw [gz_eq (xs := r) (by omega), gz_eq (xs := l) h2] at hk
  rw [gz_eq (xs := r) h3, gz_eq (xs := l) (by omega)]
  omega
/-- Where the answers turn, both halves are split. -/
theorem split_at {ts l r : List Int} (hl : Sorted ts l) (hr : Sorted ts r) (hc : Cross ts l r) {c e : Nat} (h1 : ∀ (x1 : 0 < c) (x2 : c ≤ l.length) (x3 : e < r.length), lt.sp ts r[e] (l[c - 1]) = false)
    (h2 : ∀ (x1 : 0 < e) (x2 : e ≤ r.length) (x3 : c < l.length), lt.sp ts (r[e - 1]) l[c] = true) (hcl : c ≤ l.length) (hel : e ≤ r.length) :
    ms.sv ts (l ++ r) = ms.sv ts (l.take c ++ r.take e) ++ ms.sv ts (l.drop c ++ r.drop e) := by
  have el : l.take c ++ l.drop c = l := List.take_append_drop c l
  have er : r.take e ++ r.drop e = r := List.take_append_drop e r
  have := split (ts := ts) (l1 := l.take c) (l2 := l.drop c) (r1 := r.take e) (r2 := r.drop e) (by rw [el]; exact hl) (by rw [er]; exact hr) (by rw [el, er]; exact hc) (fun x hx y hy => ?_) (fun y hy x hx => ?_)
  · rwa [el, er] at this
  · obtain ⟨i, hi, rfl⟩ := List.mem_iff_getElem.1 hx
    obtain ⟨j, hj, rfl⟩ := List.mem_iff_getElem.1 hy
    rw [List.length_take] at hi
    rw [List.length_drop] at hj
    have a := h1 (by omega) hcl (by omega)
    have b := hl.lt_mono (i := i) (j := c - 1) (by omega) (by omega) (by omega)
    have d := hr.lt_mono (i := e) (j := e + j) (by omega) (by omega) (by omega)
    rw [List.getElem_take, List.getElem_drop]
    simp only [lt.sp, decide_eq_false_iff_not] at a ⊢
    omega
  · obtain ⟨i, hi, rfl⟩ := List.mem_iff_getElem.1 hx
    obtain ⟨j, hj, rfl⟩ := List.mem_iff_getElem.1 hy
    rw [List.length_take] at hj
    rw [List.length_drop] at hi
    have a := h2 (by omega) hel (by omega)
    have b := hl.lt_mono (i := c) (j := c + i) (by omega) (by omega) (by omega)
    have d := hr.lt_mono (i := j) (j := e - 1) (by omega) (by omega) (by omega)
    rw [List.getElem_take, List.getElem_drop]
    simp only [lt.sp, decide_eq_true_eq] at a ⊢
    omega
end ss

end Go.Proofs.Ytadpndpbooofiaa.Ab
