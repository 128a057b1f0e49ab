/-
  Best parts, plainly: walking through all owners, the best of them, least parts.
-/
import Derived.Test.YtkoongajnnaeoaaFnQP
namespace Go.Proofs.Ytkoongajnnaeoaa.Ab
open Go
set_option linter.unusedVariables false
set_option linter.unusedSimpArgs false
set_option maxRecDepth 100000

namespace od
/-- One step, from place k - 1 on to the front. -/
def at.sv (W : Nat) : Nat → List Int → List Int
  | 0, xs => xs
  | k + 1, xs => bif decide (IntKind.i64.wrap (gz xs k + 1) < (W : Int)) then xs.set k (IntKind.i64.wrap (gz xs k + 1)) else at.sv W k ((xs.set k (IntKind.i64.wrap (gz xs k + 1))).set k 0)
def on.sp (W : Nat) : Nat → List Int → Bool
  | 0, xs => false
  | k + 1, xs => bif decide (IntKind.i64.wrap (gz xs k + 1) < (W : Int)) then true else on.sp W k ((xs.set k (IntKind.i64.wrap (gz xs k + 1))).set k 0)
def Ok (W : Nat) (xs : List Int) : Prop := ∀ x ∈ xs, 0 ≤ x ∧ x < (W : Int)
def val (W : Nat) : List Int → Nat
  | [] => 0
  | x :: t => x.toNat * W ^ t.length + val W t
theorem at_length (W : Nat) : ∀ (k : Nat) (xs : List Int), (at.sv W k xs).length = xs.length := by
  intro k
  induction k with
  | zero => intro xs; rfl
  | succ k ih =>
    intro xs
    simp only [at.sv]
    cases decide (IntKind.i64.wrap (gz xs k + 1) < (W : Int))
    · rw [cond_false, ih]; simp
    · simp
theorem val_set (W : Nat) (v : Int) : ∀ (xs : List Int) (k : Nat) (h : k < xs.length), val W (xs.set k v) + (xs[k]).toNat * W ^ (xs.length - 1 - k) = val W xs + v.toNat * W ^ (xs.length - 1 - k) := by
  intro xs
  induction xs with
  | nil => intro k h; exact absurd h (by simp)
  | cons x t ih =>
    intro k h
    cases k with
    | zero => simp only [List.set_cons_zero, val, List.getElem_cons_zero, List.length_cons]; have : t.length + 1 - 1 - 0 = t.length := by omega
              rw [this]; omega
    | succ k =>
      have h' : k < t.length := by simpa using h
      have := ih k h'
      simp only [List.set_cons_succ, val, List.getElem_cons_succ, List.length_cons, List.length_set]
      have e : t.length + 1 - 1 - (k + 1) = t.length - 1 - k := by omega
      rw [e]; omega
theorem Ok.set {W : Nat} {xs : List Int} (h : Ok W xs) (k : Nat) {v : Int} (hv : 0 ≤ v ∧ v < (W : Int)) : Ok W (xs.set k v) := by
  intro x hx
  rcases List.mem_or_eq_of_mem_set hx with h1 | h1
  · exact h x h1
  · rw [h1]; exact hv
theorem val_lt {W : Nat} : ∀ {xs : List Int}, Ok W xs → val W xs < W ^ xs.length := by
  intro xs
  induction xs with
  | nil => intro _; simp [val]
  | cons x t ih =>
    intro h
    have h1 := h x List.mem_cons_self
    have h2 := ih fun y hy => h y (List.mem_cons_of_mem _ hy)
    simp only [val, List.length_cons]
    have h3 : x.toNat + 1 ≤ W := by omega
    have h4 := Nat.mul_le_mul_right (W ^ t.length) h3
    rw [Nat.add_mul, Nat.one_mul] at h4
    rw [Nat.pow_succ, Nat.mul_comm (W ^ t.length) W]
    omega
theorem gz_set_eq {xs : List Int} {k : Nat} (h : k < xs.length) (v : Int) : (xs.set k v)[k]'(by simpa using h) = v := by simp
theorem at_ok {W : Nat} (hW : 1 ≤ W) (hW2 : W ≤ 1000) : ∀ (k : Nat) {xs : List Int}, k ≤ xs.length → Ok W xs → Ok W (at.sv W k xs) := by
  intro k
  induction k with
  | zero => intro xs _ h; exact h
  | succ k ih =>
    intro xs hk h
    have hlt : k < xs.length := by omega
    have hx := h xs[k] (List.getElem_mem hlt)
    have hw : IntKind.i64.wrap (gz xs k + 1) = xs[k] + 1 := by rw [gz_eq hlt]; exact IntWalk.i64_in _ (by omega)
    simp only [at.sv, hw]
    cases hc : decide (xs[k] + 1 < (W : Int))
    · rw [cond_false]
      refine ih (by simp; omega) ?_
      rw [List.set_set]
      exact h.set k (by omega)
    · have : xs[k] + 1 < (W : Int) := by simpa using hc
      exact h.set k (by omega)
/-- What comes after is one more; after the last come zeros. -/
theorem at_val {W : Nat} (hW : 1 ≤ W) (hW2 : W ≤ 1000) : ∀ (k : Nat) {xs : List Int}, k ≤ xs.length → Ok W xs →
    (on.sp W k xs = true → val W (at.sv W k xs) = val W xs + W ^ (xs.length - k)) ∧
    (on.sp W k xs = false → (∀ (j : Nat) (hj : j < xs.length), j < k → xs[j] = (W : Int) - 1) ∧ ∀ (j : Nat) (hj : j < xs.length), (at.sv W k xs)[j]'(by rw [at_length]; exact hj) = if j < k then 0 else xs[j]) := by
  intro k
  induction k with
  | zero => intro xs hk h; exact ⟨fun h => by simp [on.sp] at h, fun _ => ⟨fun j hj h => by omega, fun j hj => by simp [at.sv]⟩⟩
  | succ k ih =>
    intro xs hk h
    have hlt : k < xs.length := by omega
    have hx := h xs[k] (List.getElem_mem hlt)
    have hw : IntKind.i64.wrap (gz xs k + 1) = xs[k] + 1 := by rw [gz_eq hlt]; exact IntWalk.i64_in _ (by omega)
    simp only [on.sp, at.sv, hw]
    by_cases hc : xs[k] + 1 < (W : Int)
    · simp only [hc, decide_true, cond_true]
      refine ⟨fun _ => ?_, fun h => by simp at h⟩
      have hv := val_set W (xs[k] + 1) xs k hlt
      have e1 : (xs[k] + 1).toNat = xs[k].toNat + 1 := by omega
      have e2 : xs.length - 1 - k = xs.length - (k + 1) := by omega
      rw [e1, Nat.add_mul, Nat.one_mul, e2] at hv
      omega
    · simp only [hc, decide_false, cond_false, List.set_set]
      have hz : Ok W (xs.set k 0) := h.set k (by omega)
      obtain ⟨i1, i2⟩ := ih (xs := xs.set k 0) (by simp; omega) hz
      have hl : (xs.set k 0).length = xs.length := by simp
      have hlast : xs[k] = (W : Int) - 1 := by omega
      refine ⟨fun ho => ?_, fun ho => ?_⟩
      · have hv := val_set W 0 xs k hlt
        rw [i1 ho, hl]
        have e0 : xs.length - 1 - k = xs.length - (k + 1) := by omega
        have e1 : xs[k].toNat = W - 1 := by omega
        have e2 : xs.length - k = (xs.length - (k + 1)) + 1 := by omega
        rw [e0, e1, Int.toNat_zero, Nat.zero_mul, Nat.add_zero] at hv
        rw [e2, Nat.pow_succ]
        have e3 : W ^ (xs.length - (k + 1)) * W = (W - 1) * W ^ (xs.length - (k + 1)) + W ^ (xs.length - (k + 1)) := by
          have : W = (W - 1) + 1 := by omega
          conv => lhs; rw [Nat.mul_comm, this, Nat.add_mul, Nat.one_mul]
          have e4 : W - 1 + 1 = W := by omega
          rw [e4]
        omega
      · obtain ⟨j1, j2⟩ := i2 ho
        refine ⟨fun j hj hjk => ?_, fun j hj => ?_⟩
        · by_cases hjk2 : j < k
          · have := j1 j (by simpa using hj) hjk2
            rwa [List.getElem_set_ne (by omega)] at this
          · have : j = k := by omega
            subst this; exact hlast
        · rw [j2 j (by simpa using hj)]
          by_cases hjk : j < k
          · have : j < k + 1 := by omega
            simp [hjk, this]
          · by_cases hjk2 : j = k
            · subst hjk2; simp
            · have h3 : ¬ j < k + 1 := by omega
              have h4 : k ≠ j := fun e => hjk2 e.symm
              simp [hjk, h3, h4]
theorem val_max (W : Nat) (hW : 1 ≤ W) : ∀ (xs : List Int), (∀ (j : Nat) (hj : j < xs.length), xs[j] = (W : Int) - 1) → val W xs + 1 = W ^ xs.length := by
  intro xs
  induction xs with
  | nil => intro _; rfl
  | cons x t ih =>
    intro h
    have h1 := h 0 (by simp)
    have h2 := ih fun j hj => by have := h (j + 1) (by simpa using hj); simpa using this
    simp only [List.getElem_cons_zero] at h1
    simp only [val, List.length_cons]
    have e : x.toNat = W - 1 := by omega
    rw [e, Nat.pow_succ, Nat.mul_comm (W ^ t.length) W]
    have e3 : ∀ q : Nat, W * q = (W - 1) * q + q := fun q => by
      have e4 : W * q = ((W - 1) + 1) * q := by congr 1; omega
      rw [e4, Nat.add_mul, Nat.one_mul]
    have := e3 (W ^ t.length)
    omega
/-- The whole step. -/
def nx (W : Nat) (xs : List Int) : List Int := at.sv W xs.length xs
theorem nx_length (W : Nat) (xs : List Int) : (nx W xs).length = xs.length := at_length _ _ _
theorem nx_on {W : Nat} (hW : 1 ≤ W) (hW2 : W ≤ 1000) {xs : List Int} (h : Ok W xs) : on.sp W xs.length xs = decide (val W xs + 1 < W ^ xs.length) := by
  obtain ⟨i1, i2⟩ := at_val hW hW2 xs.length (Nat.le_refl _) h
  cases ho : on.sp W xs.length xs
  · have := val_max W hW xs fun j hj => (i2 ho).1 j hj hj
    simp [this]
  · have h1 := i1 ho
    rw [Nat.sub_self, Nat.pow_zero] at h1
    have h2 := val_lt (at_ok hW hW2 xs.length (Nat.le_refl _) h)
    rw [at_length, h1] at h2
    simp [h2]
theorem nx_val {W : Nat} (hW : 1 ≤ W) (hW2 : W ≤ 1000) {xs : List Int} (h : Ok W xs) (h2 : val W xs + 1 < W ^ xs.length) : val W (nx W xs) = val W xs + 1 := by
  obtain ⟨i1, i2⟩ := at_val hW hW2 xs.length (Nat.le_refl _) h
  have ho := nx_on hW hW2 h
  rw [decide_eq_true h2] at ho
  have h1 := i1 ho
  rwa [Nat.sub_self, Nat.pow_zero] at h1
theorem nx_ok {W : Nat} (hW : 1 ≤ W) (hW2 : W ≤ 1000) {xs : List Int} (h : Ok W xs) : Ok W (nx W xs) := at_ok hW hW2 _ (Nat.le_refl _) h
theorem nx_zero {W : Nat} (hW : 1 ≤ W) (hW2 : W ≤ 1000) {xs : List Int} (h : Ok W xs) (h2 : val W xs + 1 = W ^ xs.length) : nx W xs = List.replicate xs.length 0 := by
  obtain ⟨i1, i2⟩ := at_val hW hW2 xs.length (Nat.le_refl _) h
  have ho := nx_on hW hW2 h
  have : ¬ (val W xs + 1 < W ^ xs.length) := by omega
  rw [decide_eq_false this] at ho
  refine List.ext_getElem (by rw [nx_length, List.length_replicate]) fun j h1 h2 => ?_
  have hj : j < xs.length := by rwa [nx_length] at h1
  have := (i2 ho).2 j hj
  rw [List.getElem_replicate]
  exact this.trans (if_pos hj)
theorem val_zeros (W : Nat) : ∀ n, val W (List.replicate n 0) = 0 := by
  intro n
  induction n with
  | zero => rfl
  | succ n ih => simp [List.replicate_succ, val, ih]
theorem ok_zeros {W : Nat} (hW : 1 ≤ W) (n : Nat) : Ok W (List.replicate n 0) := fun x hx => by rw [List.eq_of_mem_replicate hx]; omega
end od
namespace bp
theorem val_inj {W : Nat} : ∀ {xs ys : List Int}, xs.length = ys.length → od.Ok W xs → od.Ok W ys → od.val W xs = od.val W ys → xs = ys
  | [], [], _, _, _, _ => rfl
  | x :: r, y :: s, hl, hx, hy, h => by
    have hl' : r.length = s.length := by simpa using hl
    have hr : od.Ok W r := fun z hz => hx z (List.mem_cons_of_mem _ hz)
    have hs : od.Ok W s := fun z hz => hy z (List.mem_cons_of_mem _ hz)
    have hx0 := hx x (List.mem_cons_self ..)
    have hy0 := hy y (List.mem_cons_self ..)
    simp only [od.val] at h
    have a := od.val_lt hr
    have b := od.val_lt hs
    rw [← hl'] at b h
    have e : x.toNat = y.toNat := by
      have e1 := Nat.add_mul_div_right (od.val W r) x.toNat (show 0 < W ^ r.length by omega)
      have e2 := Nat.add_mul_div_right (od.val W s) y.toNat (show 0 < W ^ r.length by omega)
      rw [Nat.div_eq_of_lt a] at e1
      rw [Nat.div_eq_of_lt b] at e2
      rw [Nat.add_comm, h, Nat.add_comm] at e1
      omega
    rw [e] at h
    have := val_inj hl' hr hs (by omega)
    rw [this, show x = y by omega]
def it (p t : Nat) : Nat → List Int
  | 0 => List.replicate t 0
  | s + 1 => od.nx p (it p t s)
theorem it_length (p t : Nat) : ∀ s, (it p t s).length = t
  | 0 => by simp [it]
  | s + 1 => by rw [it, od.nx_length, it_length p t s]
theorem it_ok {p : Nat} (h : 1 ≤ p) (h2 : p ≤ 1000) (t : Nat) : ∀ s, od.Ok p (it p t s)
  | 0 => od.ok_zeros h t
  | s + 1 => od.nx_ok h h2 (it_ok h h2 t s)
theorem it_val {p : Nat} (h : 1 ≤ p) (h2 : p ≤ 1000) (t : Nat) : ∀ s, s < p ^ t → od.val p (it p t s) = s
  | 0, _ => od.val_zeros p t
  | s + 1, hs => by
    have g := it_val h h2 t s (by omega)
    have hl := it_length p t s
    have k := od.nx_val h h2 (it_ok h h2 t s) (by rw [g, hl]; exact hs)
    rw [it, k, g]
theorem it_all {p : Nat} (h : 1 ≤ p) (h2 : p ≤ 1000) {t : Nat} {os : List Int} (ho : od.Ok p os) (hl : os.length = t) : ∃ s, s < p ^ t ∧ it p t s = os := by
  have a := od.val_lt ho
  rw [hl] at a
  exact ⟨od.val p os, a, val_inj (by rw [it_length, hl]) (it_ok h h2 t _) ho (it_val h h2 t _ a)⟩
def bi (T : List Int → Int) (p t : Nat) : Nat → Nat
  | 0 => 0
  | s + 1 => bif decide (T (it p t (bi T p t s)) < T (it p t (s + 1))) then s + 1 else bi T p t s
/-- The best of all owners, and what it brings. -/
def best.sv (T : List Int → Int) (p t : Nat) : List Int := it p t (bi T p t (p ^ t - 1))
def most.sv (T : List Int → Int) (p t : Nat) : Int := T (best.sv T p t)
theorem bi_ok (T : List Int → Int) (p t : Nat) : ∀ s, bi T p t s ≤ s ∧ ∀ j, j ≤ s → T (it p t j) ≤ T (it p t (bi T p t s)) := by
  intro s
  induction s with
  | zero => exact ⟨Nat.le_refl _, fun j hj => by rw [Nat.le_zero.1 hj]; exact Int.le_refl _⟩
  | succ s ih =>
    simp only [bi]
    by_cases c : T (it p t (bi T p t s)) < T (it p t (s + 1))
    · rw [decide_eq_true c, cond_true]
      refine ⟨Nat.le_refl _, fun j hj => ?_⟩
      by_cases e : j = s + 1
      · rw [e]; exact Int.le_refl _
      · exact Int.le_trans (ih.2 j (by omega)) (Int.le_of_lt c)
    · rw [decide_eq_false c, cond_false]
      refine ⟨by omega, fun j hj => ?_⟩
      by_cases e : j = s + 1
      · rw [e]; omega
      · exact ih.2 j (by omega)
theorem best_length (T : List Int → Int) (p t : Nat) : (best.sv T p t).length = t := it_length _ _ _
theorem best_in (T : List Int → Int) {p : Nat} (h : 1 ≤ p) (h2 : p ≤ 1000) (t : Nat) : od.Ok p (best.sv T p t) := it_ok h h2 t _
theorem most_all (T : List Int → Int) {p : Nat} (h : 1 ≤ p) (h2 : p ≤ 1000) {t : Nat} {os : List Int} (ho : od.Ok p os) (hl : os.length = t) : T os ≤ most.sv T p t := by
  obtain ⟨s, hs, rfl⟩ := it_all h h2 ho hl
  exact (bi_ok T p t (p ^ t - 1)).2 s (by omega)

/-- The worths of all parts. -/
def fpj (t : Nat) (ws os : List Int) (i : Nat) : Nat → Int
  | 0 => 0
  | j + 1 => fpj t ws os i j + vp.part.sv t ws os i (j : Int)
def one (x : Int) (w : Int) : Nat → Int
  | 0 => 0
  | j + 1 => one x w j + (bif x == (j : Int) then w else 0)
theorem one_ok {x w : Int} (h : 0 ≤ x) : ∀ n : Nat, one x w n = if x < (n : Int) then w else 0 := by
  intro n
  induction n with
  | zero => rw [if_neg (by omega)]; rfl
  | succ n ih =>
    simp only [one, ih]
    by_cases e : x = (n : Int)
    · have : (x == (n : Int)) = true := by simp [e]
      rw [this, if_neg (by omega), if_pos (by omega)]; simp
    · have : (x == (n : Int)) = false := by simpa using e
      rw [this, cond_false]
      by_cases c : x < (n : Int)
      · rw [if_pos c, if_pos (by omega)]; simp
      · rw [if_neg c, if_neg (by omega)]; simp
def sk (t : Nat) (ws os : List Int) (i k : Nat) : Nat → Int
  | 0 => 0
  | j + 1 => sk t ws os i k j + vp.ps t ws os i (j : Int) k
theorem sk_succ (t : Nat) (ws os : List Int) (i k : Nat) : ∀ n, sk t ws os i (k + 1) n = sk t ws os i k n + one (gz os k) (vp.w t ws i k) n := by
  intro n
  induction n with
  | zero => rfl
  | succ n ih => simp only [sk, ih, one, vp.ps]; omega
theorem sk_ok {t : Nat} {ws os : List Int} {p : Nat} (ho : ∀ x ∈ os, 0 ≤ x ∧ x < (p : Int)) (i : Nat) : ∀ k, k ≤ os.length → sk t ws os i k p = vp.rs t ws i k := by
  intro k
  induction k with
  | zero =>
    intro _
    have : ∀ n, sk t ws os i 0 n = 0 := by
      intro n
      induction n with
      | zero => rfl
      | succ n ih => simp only [sk, ih, vp.ps]; rfl
    exact this p
  | succ k ih =>
    intro hk
    have := ho _ (gz_mem (l := os) (j := k) (by omega))
    rw [sk_succ, ih (by omega), one_ok this.1, if_pos this.2]; rfl
theorem fpj_ok {t : Nat} {ws os : List Int} {p : Nat} (ho : ∀ x ∈ os, 0 ≤ x ∧ x < (p : Int)) (hl : os.length = t) (i : Nat) : fpj t ws os i p = vp.rs t ws i t := by
  have h := sk_ok (t := t) (ws := ws) ho i os.length (Nat.le_refl _)
  have e : ∀ n, sk t ws os i os.length n = fpj t ws os i n := by
    intro n
    induction n with
    | zero => rfl
    | succ n ih => simp only [sk, fpj, ih]; rfl
  rw [e, hl] at h
  exact h
/-- The least of the parts, as one sees them. -/
def imin (a b : Int) : Int := if b < a then b else a
def lp (t : Nat) (ws os : List Int) (i : Nat) : Nat → Int
  | 0 => vp.part.sv t ws os i 0
  | j + 1 => imin (lp t ws os i j) (vp.part.sv t ws os i (j : Int))
def imax (a b : Int) : Int := if a < b then b else a
def ml (t : Nat) (ws : List Int) (p i : Nat) : Nat → Int
  | 0 => 0
  | s + 1 => imax (ml t ws p i s) (lp t ws (it p t s) i p)
def ml.sv (t : Nat) (ws : List Int) (p i : Nat) : Int := ml t ws p i (p ^ t)
theorem lp_le (t : Nat) (ws os : List Int) (i : Nat) : ∀ n j, j < n → lp t ws os i n ≤ vp.part.sv t ws os i (j : Int) := by
  intro n
  induction n with
  | zero => intro j hj; omega
  | succ n ih =>
    intro j hj
    simp only [lp, imin]
    by_cases e : j = n
    · subst e; split <;> omega
    · have := ih j (by omega); split <;> omega
theorem lp_in {ws : List Int} (v : ∀ x ∈ ws, 0 ≤ x ∧ x ≤ 1000) (t : Nat) {os : List Int} (h : os.length ≤ 8) (i : Nat) : ∀ n, 0 ≤ lp t ws os i n ∧ lp t ws os i n ≤ 8000 := by
  intro n
  induction n with
  | zero => exact vp.part_in v t h i _
  | succ n ih =>
    have := vp.part_in v t h i (n : Int)
    simp only [lp, imin]
    split <;> omega
theorem sj_ge (t : Nat) (ws os : List Int) (i : Nat) (x : Int) : ∀ n : Nat, (∀ j : Nat, j < n → x ≤ vp.part.sv t ws os i (j : Int)) → (n : Int) * x ≤ fpj t ws os i n := by
  intro n
  induction n with
  | zero => intro _; simp [fpj]
  | succ n ih =>
    intro h
    have a := ih fun j hj => h j (by omega)
    have b := h n (by omega)
    have e : ((n + 1 : Nat) : Int) * x = (n : Int) * x + x := by rw [Int.natCast_succ, Int.add_mul, Int.one_mul]
    rw [e]
    simp only [fpj]
    omega
theorem ml_in {ws : List Int} (v : ∀ x ∈ ws, 0 ≤ x ∧ x ≤ 1000) {t : Nat} (ht : t ≤ 8) (p i : Nat) : ∀ n, 0 ≤ ml t ws p i n ∧ ml t ws p i n ≤ 8000 := by
  intro n
  induction n with
  | zero => simp [ml]
  | succ n ih =>
    have := lp_in v t (os := it p t n) (by rw [it_length]; exact ht) i p
    simp only [ml, imax]
    split <;> omega
theorem ml_even {t : Nat} {ws : List Int} {p : Nat} (v : ∀ x ∈ ws, 0 ≤ x ∧ x ≤ 1000) (hp : 1 ≤ p) (hp2 : p ≤ 6) (i : Nat) : ∀ n, ml t ws p i n * (p : Int) ≤ vp.rs t ws i t := by
  intro n
  induction n with
  | zero => simp only [ml, Int.zero_mul]; exact (vp.rs_in v t i t).1
  | succ n ih =>
    simp only [ml, imax]
    split
    · have a := sj_ge t ws (it p t n) i _ p (lp_le t ws (it p t n) i p)
      have b := fpj_ok (t := t) (ws := ws) (it_ok hp (by omega) t n) (it_length p t n) i
      rw [Int.mul_comm]
      omega
    · exact ih
end bp

end Go.Proofs.Ytkoongajnnaeoaa.Ab
