/-
  Functions: even flows and how near they come.
-/
import Derived.Test.YtgblgofmdhekiaaFnFQ
import Derived.Test.YtgblgofmdhekiaaFnZB
namespace Go.Proofs.Ytgblgofmdhekiaa.Ab
open Go
set_option linter.unusedVariables false
set_option linter.unusedSimpArgs false
set_option maxRecDepth 100000

namespace flw
open fp
/-- A sum of the first so many. -/
def sm (f : Nat → Rat) : Nat → Rat
  | 0 => 0
  | n + 1 => sm f n + f n
theorem sm_congr {f g : Nat → Rat} : ∀ n, (∀ t, t < n → f t = g t) → sm f n = sm g n
  | 0, _ => rfl
  | n + 1, h => by rw [sm, sm, sm_congr n fun t ht => h t (by omega), h n (by omega)]
theorem sm_le {f g : Nat → Rat} : ∀ n, (∀ t, t < n → f t ≤ g t) → sm f n ≤ sm g n
  | 0, _ => Rat.le_refl
  | n + 1, h => by
    have a := sm_le n fun t ht => h t (by omega)
    have b := h n (by omega)
    rw [sm, sm]; grind
theorem sm_nonneg {f : Nat → Rat} (n : Nat) (h : ∀ t, t < n → 0 ≤ f t) : 0 ≤ sm f n := by
  have e : ∀ n, sm (fun _ => 0) n = 0 := fun n => by induction n with
    | zero => rfl
    | succ n ih => rw [sm, ih]; grind
  rw [← e n]
  exact sm_le n h
theorem sm_add {f g : Nat → Rat} : ∀ n, sm (fun t => f t + g t) n = sm f n + sm g n
  | 0 => by rw [sm, sm, sm]; grind
  | n + 1 => by rw [sm, sm, sm, sm_add n]; grind
theorem sm_mul {f : Nat → Rat} (c : Rat) : ∀ n, sm (fun t => c * f t) n = c * sm f n
  | 0 => by rw [sm, sm]; grind
  | n + 1 => by rw [sm, sm, sm_mul c n]; grind
theorem sm_const (c : Rat) : ∀ n : Nat, sm (fun _ => c) n = (n : Rat) * c
  | 0 => by rw [sm]; have : ((0 : Nat) : Rat) = 0 := rfl; rw [this]; grind
  | n + 1 => by
    have c1 : ((1 : Nat) : Rat) = 1 := rfl
    rw [sm, sm_const c n, Rat.natCast_add, c1]; grind
theorem sm_ge {f : Nat → Rat} {n i : Nat} (h : ∀ t, t < n → 0 ≤ f t) (hi : i < n) : f i ≤ sm f n := by
  induction n with
  | zero => omega
  | succ n ih =>
    rw [sm]
    have := h n (by omega)
    have g := sm_nonneg n fun t ht => h t (by omega)
    rcases Nat.lt_or_ge i n with c | c
    · have := ih (fun t ht => h t (by omega)) c
      grind
    · obtain rfl : i = n := by omega
      grind
theorem sm_ge2 {f : Nat → Rat} {n i j : Nat} (h : ∀ t, t < n → 0 ≤ f t) (hij : i < j) (hj : j < n) : f i + f j ≤ sm f n := by
  induction n with
  | zero => omega
  | succ n ih =>
    rw [sm]
    have h0 := h n (by omega)
    rcases Nat.lt_or_ge j n with c | c
    · have := ih (fun t ht => h t (by omega)) c
      grind
    · obtain rfl : j = n := by omega
      have := sm_ge (f := f) (n := j) (i := i) (fun t ht => h t (by omega)) hij
      grind
/-! ### The order -/
theorem sm_set (g : Int → Rat) (os : List Int) (k : Nat) (v : Int) (hk : k < os.length) : ∀ n, n ≤ os.length → sm (fun t => g (gz (os.set k v) t)) n = sm (fun t => g (gz os t)) n + (if k < n then g v - g (gz os k) else 0)
  | 0, _ => by rw [sm, sm]; simp; grind
  | n + 1, hn => by
    rw [sm, sm, sm_set g os k v hk n (by omega), ev.gz_set _ _ _ _ (by omega)]
    by_cases c : k = n
    · subst c
      rw [if_pos rfl, if_neg (Nat.lt_irrefl _), if_pos (by omega)]
      grind
    · rw [if_neg c]
      by_cases c2 : k < n
      · rw [if_pos c2, if_pos (by omega)]; grind
      · rw [if_neg c2, if_neg (by omega)]; grind
theorem sm_swap (g : Int → Rat) {os : List Int} {k : Nat} (hk : k + 1 < os.length) : sm (fun t => g (gz (ev.swap os k) t)) os.length = sm (fun t => g (gz os t)) os.length := by
  unfold ev.swap
  have l : (os.set (k + 1) (gz os k)).length = os.length := by simp
  rw [sm_set g _ k _ (by omega) _ (by omega), sm_set g os (k + 1) _ hk _ (Nat.le_refl _), if_pos hk, if_pos (show k < os.length by omega), ev.gz_set _ _ _ _ (by omega), if_neg (show ¬ k + 1 = k by omega)]
  grind
theorem sm_down (g : Int → Rat) (lt : Int → Int → Bool) : ∀ (k : Nat) (os : List Int), k < os.length → sm (fun t => g (gz (ev.down lt k os) t)) os.length = sm (fun t => g (gz os t)) os.length
  | 0, os, _ => rfl
  | k + 1, os, hk => by
    simp only [ev.down]
    cases lt (gz os (k + 1)) (gz os k)
    · rfl
    · have l := ev.swap_length os k
      have := sm_down g lt k (ev.swap os k) (by omega)
      rw [l] at this
      rw [cond_true, this]
      exact sm_swap g hk
theorem sm_build (g : Int → Rat) (lt : Int → Int → Bool) : ∀ n, sm (fun t => g (gz (ev.build lt n) t)) n = sm (fun t => g (t : Int)) n
  | 0 => rfl
  | n + 1 => by
    have l : (ev.build lt n ++ [(n : Int)]).length = n + 1 := by rw [List.length_append, ev.build_length]; rfl
    have h := sm_down g lt n (ev.build lt n ++ [(n : Int)]) (by omega)
    rw [l] at h
    show sm (fun t => g (gz (ev.down lt n (ev.build lt n ++ [(n : Int)])) t)) (n + 1) = _
    rw [h, sm, sm, ← sm_build g lt n]
    have e1 : sm (fun t => g (gz (ev.build lt n ++ [(n : Int)]) t)) n = sm (fun t => g (gz (ev.build lt n) t)) n := sm_congr n fun t ht => by rw [ev.gz_append (by rw [ev.build_length]; exact ht)]
    have e2 : gz (ev.build lt n ++ [(n : Int)]) n = (n : Int) := by
      rw [gz_eq (by omega), List.getElem_append_right (by rw [ev.build_length]; omega)]
      simp
    rw [e1, e2]
/-- In order but for one. -/
structure But (key : Int → Rat) (k : Nat) (os : List Int) : Prop where
  le : ∀ i j, i < j → j < os.length → i ≠ k → j ≠ k → key (gz os i) ≤ key (gz os j)
  up : ∀ j, k < j → j < os.length → key (gz os k) ≤ key (gz os j)
def Srt (key : Int → Rat) (os : List Int) : Prop := ∀ i j, i ≤ j → j < os.length → key (gz os i) ≤ key (gz os j)
theorem swap_get {os : List Int} {k i : Nat} (hi : i < os.length) : gz (ev.swap os k) i = if k = i then gz os (k + 1) else if k + 1 = i then gz os k else gz os i := by
  unfold ev.swap
  rw [ev.gz_set _ _ _ _ (by simpa using hi), ev.gz_set _ _ _ _ hi]
theorem But.down {key : Int → Rat} {lt : Int → Int → Bool} {m : Nat} (hlt : ∀ a b : Int, 0 ≤ a → a < m → 0 ≤ b → b < m → (lt a b = true ↔ key a < key b)) : ∀ (k : Nat) (os : List Int), k < os.length → ev.In m os → But key k os → Srt key (ev.down lt k os)
  | 0, os, hk, _, h => fun i j hij hj => by
    rcases Nat.eq_zero_or_pos i with c | c
    · subst c
      rcases Nat.eq_zero_or_pos j with d | d
      · subst d; exact Rat.le_refl
      · exact h.up j d hj
    · rcases Nat.lt_or_ge i j with d | d
      · exact h.le i j d hj (by omega) (by omega)
      · obtain rfl : i = j := by omega
        exact Rat.le_refl
  | k + 1, os, hk, hin, h => by
    simp only [ev.down]
    have i1 := hin (k + 1) hk
    have i2 := hin k (by omega)
    have hh := hlt _ _ i1.1 i1.2 i2.1 i2.2
    cases hl : lt (gz os (k + 1)) (gz os k)
    · rw [cond_false]
      have hge : key (gz os k) ≤ key (gz os (k + 1)) := by
        rcases Rat.not_lt.1 fun hc => (by rw [hh.2 hc] at hl; cases hl) with h
        exact h
      intro i j hij hj
      rcases Nat.lt_or_ge i j with d | d
      · by_cases ci : i = k + 1
        · subst ci; exact h.up j d hj
        · by_cases cj : j = k + 1
          · subst cj
            rcases Nat.lt_or_ge i k with e | e
            · exact Rat.le_trans (h.le i k e (by omega) ci (by omega)) hge
            · obtain rfl : i = k := by omega
              exact hge
          · exact h.le i j d hj ci cj
      · obtain rfl : i = j := by omega
        exact Rat.le_refl
    · rw [cond_true]
      have hlt' := hh.1 hl
      refine But.down hlt k _ (by rw [ev.swap_length]; omega) (hin.swap hk) ⟨fun i j hij hj hik hjk => ?_, fun j hkj hj => ?_⟩
      · rw [ev.swap_length] at hj
        rw [swap_get (show i < os.length by omega), swap_get hj, if_neg (show ¬ k = i by omega), if_neg (show ¬ k = j by omega)]
        by_cases ci : k + 1 = i
        · rw [if_pos ci, if_neg (show ¬ k + 1 = j by omega)]
          subst ci
          exact h.le k j (by omega) hj (by omega) (by omega)
        · rw [if_neg ci]
          by_cases cj : k + 1 = j
          · rw [if_pos cj]
            subst cj
            exact h.le i k (by omega) (by omega) (by omega) (by omega)
          · rw [if_neg cj]
            exact h.le i j hij hj (by omega) (by omega)
      · rw [ev.swap_length] at hj
        rw [swap_get (show k < os.length by omega), swap_get hj, if_pos rfl, if_neg (show ¬ k = j by omega)]
        by_cases cj : k + 1 = j
        · rw [if_pos cj]; exact Rat.le_of_lt hlt'
        · rw [if_neg cj]
          exact h.up j (by omega) hj
theorem build_srt {key : Int → Rat} {lt : Int → Int → Bool} {m : Nat} (hlt : ∀ a b : Int, 0 ≤ a → a < m → 0 ≤ b → b < m → (lt a b = true ↔ key a < key b)) : ∀ n, n ≤ m → Srt key (ev.build lt n)
  | 0, _ => fun i j _ hj => by simp [ev.build] at hj
  | n + 1, hn => by
    have ih := build_srt hlt n (by omega)
    have l : (ev.build lt n ++ [(n : Int)]).length = n + 1 := by rw [List.length_append, ev.build_length]; rfl
    refine But.down hlt n _ (by omega) ((ev.In.build lt n (by omega)).snoc ⟨by omega, by omega⟩) ⟨fun i j hij hj hi hj' => ?_, fun j hj hj' => by omega⟩
    rw [ev.gz_append (by rw [ev.build_length]; omega), ev.gz_append (by rw [ev.build_length]; omega)]
    exact ih i j (by omega) (by rw [ev.build_length]; omega)
/-! ### The roads -/
/-- Slopes and bases of roads, and what their words stand for. -/
structure Rd (az ys : List Nat) (n : Nat) (s b r : Nat → Rat) (R : Nat) : Prop where
  n1 : 1 ≤ n
  n5 : n ≤ 5
  la : az.length = n
  ly : ys.length = n
  vs : ∀ i, i < n → V (gn az i) (s i)
  vb : ∀ i, i < n → V (gn ys i) (b i)
  rs : ∀ i, i < n → r i * s i = 1
  R4 : R ≤ 4
  r0 : ∀ i, i < n → 1 ≤ 4 * r i
  r1 : ∀ i, i < n → r i ≤ R
  b0 : ∀ i, i < n → b i = 0 ∨ 1 ≤ 2 * b i
  b1 : ∀ i, i < n → b i ≤ 4
def ix (ys : List Nat) (t : Nat) : Nat := (gz (ev.os ys) t).toNat
section
variable {az ys : List Nat} {n : Nat} {s b r : Nat → Rat} {R : Nat}
theorem Rd.s0 (h : Rd az ys n s b r R) {i : Nat} (hi : i < n) : 0 < s i ∧ s i ≤ 4 ∧ 1 ≤ 4 * s i ∧ 0 ≤ b i ∧ 0 < r i := by
  have a := h.rs i hi
  have c := h.r0 i hi
  have d := h.r1 i hi
  have e : (R : Rat) ≤ 4 := Rat.natCast_le_natCast.2 h.R4
  have hr : 0 < r i := by grind
  have hs : 0 < s i := by
    rcases (show s i ≤ 0 ∨ 0 < s i by by_cases c : 0 < s i; exact .inr c; exact .inl (Rat.not_lt.1 c)) with g | g
    · have := Rat.mul_le_mul_of_nonneg_right g (Rat.le_of_lt hr)
      grind
    · exact g
  have g1 := Rat.mul_le_mul_of_nonneg_right c (Rat.le_of_lt hs)
  have g2 := Rat.mul_le_mul_of_nonneg_right (show r i ≤ 4 by grind) (Rat.le_of_lt hs)
  refine ⟨hs, by grind, by grind, ?_, hr⟩
  rcases h.b0 i hi with g | g <;> grind
theorem Rd.ix_lt (h : Rd az ys n s b r R) {t : Nat} (ht : t < n) : ix ys t < n := by
  have := ev.os_in ys t (by rw [ev.os_length, h.ly]; exact ht)
  have l := h.ly
  unfold ix
  omega
theorem Rd.srt (h : Rd az ys n s b r R) {t t' : Nat} (htt : t ≤ t') (ht : t' < n) : b (ix ys t) ≤ b (ix ys t') := by
  have := build_srt (key := fun a => b a.toNat) (lt := ev.lt.sp ys) (m := n) (fun x y x0 x1 y0 y1 => by
    obtain ⟨o, ho, h1, _, _⟩ := v_order (h.vb x.toNat (by omega)) (h.vb y.toNat (by omega))
    unfold ev.lt.sp
    rw [ho]
    constructor
    · intro g
      exact h1.1 (by simpa using g)
    · intro g
      rw [h1.2 g]; rfl) n (Nat.le_refl _) t t' htt (by rw [ev.build_length]; exact ht)
  have l := h.ly
  unfold ix ev.os
  rw [l]
  exact this
theorem Rd.perm (h : Rd az ys n s b r R) (f : Nat → Rat) : sm (fun t => f (ix ys t)) n = sm f n := by
  have := sm_build (fun a => f a.toNat) (ev.lt.sp ys) n
  have l := h.ly
  unfold ix ev.os
  rw [l]
  refine this.trans (sm_congr n fun t _ => ?_)
  simp
theorem Rd.inj (h : Rd az ys n s b r R) {t t' : Nat} (ht : t < n) (ht' : t' < n) (e : ix ys t = ix ys t') : t = t' := by
  have key := h.perm fun i => if i = ix ys t then 1 else 0
  have nn : ∀ i, i < n → (0 : Rat) ≤ (if ix ys i = ix ys t then 1 else 0) := fun i _ => by split <;> decide
  have one : sm (fun i => if i = ix ys t then (1 : Rat) else 0) n ≤ 1 := by
    have : ∀ (j : Nat) m, sm (fun i => if i = j then (1 : Rat) else 0) m = if j < m then 1 else 0 := fun j m => by
      induction m with
      | zero => simp [sm]
      | succ m ih =>
        rw [sm, ih]
        by_cases c : m = j
        · subst c; rw [if_neg (Nat.lt_irrefl _), if_pos rfl, if_pos (by omega)]; grind
        · rw [if_neg c]
          by_cases d : j < m
          · rw [if_pos d, if_pos (by omega)]; grind
          · rw [if_neg d, if_neg (by omega)]; grind
    rw [this]
    split <;> decide
  rw [← key] at one
  have f1 : (if ix ys t = ix ys t then (1 : Rat) else 0) = 1 := if_pos rfl
  have f2 : (if ix ys t' = ix ys t then (1 : Rat) else 0) = 1 := if_pos e.symm
  rcases Nat.lt_trichotomy t t' with c | c | c
  · have := sm_ge2 (f := fun i => if ix ys i = ix ys t then (1 : Rat) else 0) nn c ht'
    rw [f1, f2] at this
    grind
  · exact c
  · have := sm_ge2 (f := fun i => if ix ys i = ix ys t then (1 : Rat) else 0) nn c ht
    rw [f1, f2] at this
    grind
end
end flw

end Go.Proofs.Ytgblgofmdhekiaa.Ab
