/-
  Functions: better steps.
-/
import Derived.Test.YtgblgofmdhekiaaFnGI
namespace Go.Proofs.Ytgblgofmdhekiaa.Ab
open Go
set_option linter.unusedVariables false
set_option linter.unusedSimpArgs false
set_option maxRecDepth 100000

namespace bs
/-- Numbers below N, each once, are N at the most. -/
theorem pigeon : ∀ (N : Nat) (l : List Int), l.Nodup → (∀ y ∈ l, 0 ≤ y ∧ y < (N : Int)) → l.length ≤ N := by
  intro N
  induction N with
  | zero =>
    intro l _ h
    cases l with
    | nil => simp
    | cons y t => have := h y List.mem_cons_self; omega
  | succ N ih =>
    intro l hd h
    by_cases hm : (N : Int) ∈ l
    · have h1 := ih (l.erase (N : Int)) (hd.erase _) (fun y hy => by
        have hy' := (List.Nodup.mem_erase_iff hd).1 hy
        have := h y hy'.2
        have hne := hy'.1
        omega)
      have h2 := List.length_erase_of_mem hm
      omega
    · have h1 := ih l hd (fun y hy => by
        have := h y hy
        have hne : y ≠ (N : Int) := fun e => hm (e ▸ hy)
        omega)
      omega
/-- The first best one. -/
def to.sv (r c : Nat) (xs : List Int) (k : Nat) : Nat := (gz (br.sv r c xs k) 0).toNat
theorem to_ok {r : Nat} (c : Nat) (xs : List Int) (k : Nat) (h : 0 < r) : gz (br.sv r c xs k) 0 = (to.sv r c xs k : Int) ∧ to.sv r c xs k < r := by
  have hp := br.sv_pos c xs k h
  obtain ⟨q, h1, h2⟩ := br.sv_mem (List.getElem_mem hp)
  unfold to.sv
  rw [gz_eq hp, h1, Int.toNat_natCast]
  exact ⟨rfl, h2⟩
def next (go : Nat → Nat → List Int → List Int) (c : Nat) (i k : Nat) (l : List Int) : List Int := bif pu.h.sp l ((i * c + k : Nat) : Int) then l ++ [((i * c + k : Nat) : Int)] else go i k (l ++ [((i * c + k : Nat) : Int)])
def go (r c : Nat) (xs ys : List Int) : Nat → Nat → Nat → List Int → List Int
  | 0, _, _, l => l
  | m + 1, i, k, l => bif decide (br.col c xs k i < br.col c xs k (to.sv r c xs k)) then next (go r c xs ys m) c (to.sv r c xs k) k l
    else bif decide (br.col c ys k i < br.col c ys (to.sv c r (tn.sv r c ys) i) i) then next (go r c xs ys m) c i (to.sv c r (tn.sv r c ys) i) l else l
def sv (r c : Nat) (xs ys : List Int) (i k : Nat) : List Int := go r c xs ys 40 i k [((i * c + k : Nat) : Int)]
theorem mem_h {l : List Int} {x : Int} (h : pu.h.sp l x = false) : x ∉ l := by
  intro hm
  have : pu.h.sp l x = true := by simp only [pu.h.sp, List.any_eq_true, beq_iff_eq]; exact ⟨x, hm, rfl⟩
  rw [h] at this; cases this
theorem snoc_nodup {l : List Int} {x : Int} (hl : l.Nodup) (h : x ∉ l) : (l ++ [x]).Nodup := by
  rw [List.nodup_append]
  refine ⟨hl, by simp, fun a ha b hb => ?_⟩
  simp only [List.mem_singleton] at hb
  subst hb
  exact fun e => h (e ▸ ha)
theorem go_length (r c : Nat) (xs ys : List Int) : ∀ (m i k : Nat) (l : List Int), (go r c xs ys m i k l).length ≤ l.length + m := by
  intro m
  induction m with
  | zero => intro i k l; exact Nat.le_refl _
  | succ m ih =>
    intro i k l
    have hn : ∀ i k, (next (go r c xs ys m) c i k l).length ≤ l.length + (m + 1) := fun i k => by
      have := ih i k (l ++ [((i * c + k : Nat) : Int)])
      unfold next
      rw [List.length_append] at this
      simp only [List.length_cons, List.length_nil, Nat.zero_add] at this
      cases pu.h.sp l ((i * c + k : Nat) : Int)
      · simp only [cond_false]; omega
      · simp only [cond_true, List.length_append, List.length_cons, List.length_nil]; omega
    simp only [go]
    cases decide (br.col c xs k i < br.col c xs k (to.sv r c xs k))
    · cases decide (br.col c ys k i < br.col c ys (to.sv c r (tn.sv r c ys) i) i)
      · simp only [cond_false]; omega
      · exact hn _ _
    · exact hn _ _
theorem sv_length (r c : Nat) (xs ys : List Int) (i k : Nat) : (sv r c xs ys i k).length ≤ 1000000 := by
  have := go_length r c xs ys 40 i k [((i * c + k : Nat) : Int)]
  unfold sv
  simp only [List.length_cons, List.length_nil] at this
  omega
/-- When better steps are told. -/
def sp (r c : Int) (xs ys : List Int) (i k : Int) : Bool := (gm.sp r c xs ys && (decide (0 ≤ i) && decide (i ≤ r - 1))) && (decide (0 ≤ k) && decide (k ≤ c - 1))
end bs










end Go.Proofs.Ytgblgofmdhekiaa.Ab
