/-
  Functions: lists of lists.
-/
import Derived.Test.YtekadpddilfolaaFnL
import Derived.Test.YtekadpddilfolaaFnB
import Derived.Test.YtekadpddilfolaaFnD
namespace Go.Proofs.Ytekadpddilfolaa.Ab
open Go
set_option linter.unusedVariables false
set_option linter.unusedSimpArgs false
set_option maxRecDepth 100000

theorem gr_eq {xs : List (List Int)} {i : Nat} (h : i < xs.length) : gr xs i = xs[i] := by simp [gr, h]
theorem drop_take_consR {xs : List (List Int)} {m i : Nat} (hx : m ≤ xs.length) (hi : i < m) : (xs.take m).drop i = xs[i]'(by omega) :: (xs.take m).drop (i + 1) := by
  rw [List.drop_eq_getElem_cons (by simp; omega)]
  congr 1
  simp
namespace toInt64L
def R := layR toInt64S.R
theorem ok : EntOk Try.prog ⟨134, R⟩ := toInt64S.ok.lay
end toInt64L
/-- Rows within a length. -/
def short.sp (b : Nat) (xs : List (List Int)) : Bool := xs.all fun r => decide (r.length ≤ b)
theorem short_get {b : Nat} {xs : List (List Int)} (h : short.sp b xs = true) {i : Nat} (hi : i < xs.length) : xs[i].length ≤ b := by
  simp only [short.sp, List.all_eq_true, decide_eq_true_eq] at h
  exact h _ (List.getElem_mem hi)
def szrows.sq : List (List Int) → Int → Int
  | [], l => l
  | r :: t, l => bif decide (l - (r.length : Int) < 0) then -1 else szrows.sq t (l - (r.length : Int))
theorem szrows_short : ∀ (xs : List (List Int)) (l : Int), 0 ≤ szrows.sq xs l → ∀ r ∈ xs, (r.length : Int) ≤ l := by
  intro xs
  induction xs with
  | nil => intro l h r hr; cases hr
  | cons x t ih =>
    intro l h r hr
    simp only [szrows.sq] at h
    by_cases c : l - (x.length : Int) < 0
    · simp [c] at h
    · simp only [c, decide_false, cond_false] at h
      rcases List.mem_cons.1 hr with rfl | hr
      · omega
      · have := ih _ h r hr; omega




end Go.Proofs.Ytekadpddilfolaa.Ab
