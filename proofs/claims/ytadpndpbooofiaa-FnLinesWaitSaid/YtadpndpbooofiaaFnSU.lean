/-
  Two ranges exchanged, two parts turned round: the plain law.
-/
import Derived.Test.YtadpndpbooofiaaFnST
namespace Go.Proofs.Ytadpndpbooofiaa.Ab
open Go
set_option linter.unusedVariables false
set_option linter.unusedSimpArgs false

namespace ss
/-- Two ranges of length n, from a and from b on, are exchanged. -/
def sr.sv : Nat → Nat → Nat → List Int → List Int
  | 0, _, _, l => l
  | n + 1, a, b, l => sr.sv n (a + 1) (b + 1) ((l.set a (gz l b)).set b (gz l a))
theorem sr_length : ∀ (n a b : Nat) (l : List Int), (sr.sv n a b l).length = l.length := by
  intro n
  induction n with
  | zero => intro a b l; rfl
  | succ n ih => intro a b l; simp only [sr.sv]; rw [ih]; simp
theorem gz_mid (P : List Int) (x : Int) (r : List Int) {k : Nat} (h : k = P.length) : gz (P ++ x :: r) k = x := by
  subst h
  rw [gz_eq (by simp)]
  simp
theorem set_mid (P : List Int) (x v : Int) (r : List Int) {k : Nat} (h : k = P.length) : (P ++ x :: r).set k v = P ++ v :: r := by
  subst h
  simp
theorem sr_app : ∀ (A B P M S : List Int), A.length = B.length → ∀ a b : Nat, a = P.length → b = P.length + A.length + M.length → sr.sv A.length a b (P ++ (A ++ (M ++ (B ++ S)))) = P ++ (B ++ (M ++ (A ++ S))) := by
  intro A
  induction A with
  | nil =>
    intro B P M S h a b ha hb
    obtain rfl : B = [] := List.eq_nil_of_length_eq_zero h.symm
    simp [sr.sv]
  | cons x A ih =>
    intro B P M S h a b ha hb
    cases B with
    | nil => simp at h
    | cons y B =>
      have h' : A.length = B.length := by simpa using h
      simp only [List.length_cons, sr.sv] at hb ⊢
      have e1 : P ++ (x :: A ++ (M ++ (y :: B ++ S))) = P ++ x :: (A ++ (M ++ y :: (B ++ S))) := by simp
      have e2 : P ++ x :: (A ++ (M ++ y :: (B ++ S))) = (P ++ x :: (A ++ M)) ++ y :: (B ++ S) := by simp
      have lb : b = (P ++ x :: (A ++ M)).length := by simp; omega
      have lb2 : b = (P ++ y :: (A ++ M)).length := by simp; omega
      have g1 : gz (P ++ x :: (A ++ (M ++ y :: (B ++ S)))) a = x := gz_mid _ _ _ ha
      have g2 : gz (P ++ x :: (A ++ (M ++ y :: (B ++ S)))) b = y := by rw [e2]; exact gz_mid _ _ _ lb
      have s1 : (P ++ x :: (A ++ (M ++ y :: (B ++ S)))).set a y = P ++ y :: (A ++ (M ++ y :: (B ++ S))) := set_mid _ _ _ _ ha
      have e3 : P ++ y :: (A ++ (M ++ y :: (B ++ S))) = (P ++ y :: (A ++ M)) ++ y :: (B ++ S) := by simp
      have s2 : (P ++ y :: (A ++ (M ++ y :: (B ++ S)))).set b x = (P ++ y :: (A ++ M)) ++ x :: (B ++ S) := by rw [e3]; exact set_mid _ _ _ _ lb2
      have e4 : (P ++ y :: (A ++ M)) ++ x :: (B ++ S) = (P ++ [y]) ++ (A ++ ((M ++ [x]) ++ (B ++ S))) := by simp
      rw [e1, g1, g2, s1, s2, e4, ih B (P ++ [y]) (M ++ [x]) S h' (a + 1) (b + 1) (by simp; omega) (by simp; omega)]
      simp
/-- The parts of length i before m and of length j from m on are turned round. -/
def rot.sv : Nat → Nat → Nat → Nat → List Int → List Int
  | 0, i, _, m, l => sr.sv i (m - i) m l
  | d + 1, i, j, m, l => bif decide (i = j) then sr.sv i (m - i) m l else bif decide (j < i) then rot.sv d (i - j) j m (sr.sv j (m - i) m l) else rot.sv d i (j - i) m (sr.sv i (m - i) (m + j - i) l)
theorem rot_length : ∀ (d i j m : Nat) (l : List Int), (rot.sv d i j m l).length = l.length := by
  intro d
  induction d with
  | zero => intro i j m l; exact sr_length _ _ _ _
  | succ d ih =>
    intro i j m l
    simp only [rot.sv]
    cases decide (i = j) <;> cases decide (j < i) <;> simp only [cond_true, cond_false, ih, sr_length]
theorem rot_app : ∀ (d : Nat) (X Y P S : List Int), X.length + Y.length ≤ d → 0 < X.length → 0 < Y.length → ∀ m : Nat, m = P.length + X.length → rot.sv d X.length Y.length m (P ++ (X ++ (Y ++ S))) = P ++ (Y ++ (X ++ S)) := by
  intro d
  induction d with
  | zero => intro X Y P S h hx hy; omega
  | succ d ih =>
    intro X Y P S h hx hy m hm
    simp only [rot.sv]
    by_cases c : X.length = Y.length
    · simp only [c, decide_true, cond_true]
      have := sr_app X Y P [] S c (m - X.length) m (by omega) (by simp; omega)
      simp only [List.nil_append] at this
      rw [c] at this
      exact this
    · by_cases c2 : Y.length < X.length
      · simp only [c, c2, decide_true, decide_false, cond_true, cond_false]
        obtain ⟨X1, X2, hX, h1⟩ : ∃ X1 X2, X = X1 ++ X2 ∧ X1.length = Y.length := ⟨X.take Y.length, X.drop Y.length, (List.take_append_drop _ _).symm, by rw [List.length_take]; omega⟩
        subst hX
        rw [List.length_append] at h hm c2 c
        have hs := sr_app X1 Y P X2 S h1 (m - (X1 ++ X2).length) m (by rw [List.length_append]; omega) (by omega)
        have hr := ih X2 X1 (P ++ Y) S (by omega) (by omega) (by omega) m (by rw [List.length_append]; omega)
        have e : (X1 ++ X2).length - Y.length = X2.length := by rw [List.length_append]; omega
        rw [h1] at hs hr
        rw [e, List.append_assoc X1 X2, hs]
        rw [List.append_assoc] at hr
        rw [hr]
        simp
      · simp only [c, c2, decide_false, cond_false]
        obtain ⟨Y1, Y2, hY, h1⟩ : ∃ Y1 Y2, Y = Y1 ++ Y2 ∧ Y2.length = X.length := ⟨Y.take (Y.length - X.length), Y.drop (Y.length - X.length), (List.take_append_drop _ _).symm, by rw [List.length_drop]; omega⟩
        subst hY
        rw [List.length_append] at h c2 c
        have hs := sr_app X Y2 P Y1 S h1.symm (m - X.length) (m + (Y1 ++ Y2).length - X.length) (by omega) (by rw [List.length_append]; omega)
        have hr := ih Y2 Y1 P (X ++ S) (by omega) (by omega) (by omega) m (by omega)
        have e : (Y1 ++ Y2).length - X.length = Y1.length := by rw [List.length_append]; omega
        rw [h1] at hr
        rw [e, List.append_assoc Y1 Y2, hs, hr]
        simp
end ss

end Go.Proofs.Ytadpndpbooofiaa.Ab
