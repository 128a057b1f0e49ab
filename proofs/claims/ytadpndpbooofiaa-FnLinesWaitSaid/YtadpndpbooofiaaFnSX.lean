/-
  One number goes down to its place: the plain law of insertion.
-/
import Derived.Test.YtadpndpbooofiaaFnSU
namespace Go.Proofs.Ytadpndpbooofiaa.Ab
open Go
set_option linter.unusedVariables false
set_option linter.unusedSimpArgs false

namespace ss
/-- The number at a + d goes down, to a at the lowest. -/
def dn.sv (ts : List Int) (a : Nat) : Nat → List Int → List Int
  | 0, l => l
  | d + 1, l => bif lt.sp ts (gz l (a + d + 1)) (gz l (a + d)) then dn.sv ts a d ((l.set (a + d + 1) (gz l (a + d))).set (a + d) (gz l (a + d + 1))) else l
theorem dn_length (ts : List Int) (a : Nat) : ∀ (d : Nat) (l : List Int), (dn.sv ts a d l).length = l.length := by
  intro d
  induction d with
  | zero => intro l; rfl
  | succ d ih =>
    intro l
    simp only [dn.sv]
    cases lt.sp ts (gz l (a + d + 1)) (gz l (a + d))
    · rfl
    · rw [cond_true, ih]; simp
theorem dn_app (ts P : List Int) (x : Int) : ∀ (d : Nat) (L S : List Int), L.length = d → Sorted ts L → Cross ts L [x] → dn.sv ts P.length d (P ++ (L ++ x :: S)) = P ++ (ms.sv ts (L ++ [x]) ++ S) := by
  intro d
  induction d with
  | zero =>
    intro L S hd _ _
    obtain rfl : L = [] := List.eq_nil_of_length_eq_zero hd
    have : ms.sv ts [x] = [x] := ms_self (List.pairwise_singleton _ _)
    simp [dn.sv, this]
  | succ d ih =>
    intro L S hd hs hc
    obtain ⟨M, y, hM⟩ : ∃ M y, L = M ++ [y] := ⟨L.dropLast, L.getLast (by intro h; simp [h] at hd), (List.dropLast_concat_getLast _).symm⟩
    subst hM
    have hl : M.length = d := by simpa using hd
    have hs' := List.pairwise_append.1 hs
    have e1 : P ++ ((M ++ [y]) ++ x :: S) = (P ++ M) ++ y :: (x :: S) := by simp
    have e2 : P ++ ((M ++ [y]) ++ x :: S) = (P ++ (M ++ [y])) ++ x :: S := by simp
    have k1 : P.length + d = (P ++ M).length := by simp [hl]
    have k2 : P.length + d + 1 = (P ++ (M ++ [y])).length := by simp [hl]; omega
    have g1 : gz (P ++ ((M ++ [y]) ++ x :: S)) (P.length + d) = y := by rw [e1]; exact gz_mid _ _ _ k1
    have g2 : gz (P ++ ((M ++ [y]) ++ x :: S)) (P.length + d + 1) = x := by rw [e2]; exact gz_mid _ _ _ k2
    have s1 : (P ++ ((M ++ [y]) ++ x :: S)).set (P.length + d + 1) y = (P ++ M) ++ y :: (y :: S) := by
      rw [e2, set_mid _ _ _ _ k2]; simp
    have s2 : ((P ++ M) ++ y :: (y :: S)).set (P.length + d) x = P ++ (M ++ x :: (y :: S)) := by
      rw [set_mid _ _ _ _ k1]; simp
    simp only [dn.sv, g1, g2, s1, s2]
    cases hlt : lt.sp ts x y
    · rw [cond_false]
      have hxy : le ts y x = true := hc.le (List.mem_append_right _ (List.mem_singleton.2 rfl)) (List.mem_singleton.2 rfl) hlt
      have hsx : Sorted ts ((M ++ [y]) ++ [x]) := hs.app (List.pairwise_singleton _ _) fun a ha b hb => by
        obtain rfl := List.mem_singleton.1 hb
        rcases List.mem_append.1 ha with h | h
        · exact le_trans ts _ _ _ (hs'.2.2 a h y (List.mem_singleton.2 rfl)) hxy
        · obtain rfl := List.mem_singleton.1 h
          exact hxy
      rw [ms_self hsx]; simp
    · rw [cond_true, ih M (y :: S) hl hs'.1 fun a ha b hb => hc a (List.mem_append_left _ ha) b hb]
      have hp : ((M ++ [y]) ++ [x]).Perm ((M ++ [x]) ++ [y]) := by
        rw [List.append_assoc, List.append_assoc]
        exact List.Perm.append_left M List.perm_append_comm
      have hy : ms.sv ts [y] = [y] := ms_self (List.pairwise_singleton _ _)
      have hm : ms.sv ts ((M ++ [x]) ++ [y]) = ms.sv ts (M ++ [x]) ++ [y] := by
        rw [ms_app, hy]
        intro a ha b hb
        obtain rfl := List.mem_singleton.1 hb
        rcases List.mem_append.1 ha with h | h
        · exact hs'.2.2 a h b (List.mem_singleton.2 rfl)
        · obtain rfl := List.mem_singleton.1 h
          exact lt_le hlt
      rw [ms_congr hp, hm]; simp
end ss

end Go.Proofs.Ytadpndpbooofiaa.Ab
