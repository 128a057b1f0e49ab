/-
  Functions: the best chances of two rows are best.
-/
import Derived.Test.YtgblgofmdhekiaaFnE1
import Derived.Test.YtgblgofmdhekiaaFnVC
import Derived.Test.YtgblgofmdhekiaaFnGQ
import Derived.Test.YtgblgofmdhekiaaFnGS
import Derived.Test.YtgblgofmdhekiaaFnFP
namespace Go.Proofs.Ytgblgofmdhekiaa.Ab
open Go
set_option linter.unusedVariables false
set_option linter.unusedSimpArgs false
set_option maxRecDepth 100000

namespace trv
/-- What a chance gains against a column. -/
def ln (c : Nat) (xs : List Int) (k : Nat) (x : Rat) : Rat := x * gz xs k + (1 - x) * gz xs (c + k)
/-- Against some column a chance gains no more than is kept as best. -/
def Tr (c : Nat) (xs : List Int) (z : Q4) (x : Rat) : Prop := ∃ k, k < c ∧ ln c xs k x * z.w ≤ z.v
structure Inv (c : Nat) (xs : List Int) (z : Q4) : Prop where
  q1 : 1 ≤ z.q
  p0 : 0 ≤ z.p
  pq : z.p ≤ z.q
  w1 : 1 ≤ z.w
  vw : z.v * z.q = z.w * ls.sv c xs z.p z.q c
theorem ls_spec (c : Nat) (xs : List Int) (a b : Int) : ∀ k, 1 ≤ k → (∃ j, j < k ∧ ls.sv c xs a b k = f.sv c xs a b j) ∧ ∀ j, j < k → ls.sv c xs a b k ≤ f.sv c xs a b j
  | 0, h => by omega
  | k + 1, _ => by
    rw [ls.sv]
    by_cases c0 : k = 0
    · subst c0
      have e : (((0 : Nat) : Int) == 0) = true := rfl
      rw [e, Bool.true_or, cond_true]
      exact ⟨⟨0, by omega, rfl⟩, fun j hj => by obtain rfl : j = 0 := by omega
                                                exact Int.le_refl _⟩
    · have e : ((k : Int) == 0) = false := by simp; omega
      obtain ⟨⟨j, hj, h1⟩, h2⟩ := ls_spec c xs a b k (by omega)
      rw [e, Bool.false_or]
      by_cases c1 : f.sv c xs a b k < ls.sv c xs a b k
      · rw [decide_eq_true c1, cond_true]
        exact ⟨⟨k, by omega, rfl⟩, fun i hi => by
          rcases Nat.lt_or_ge i k with g | g
          · have := h2 i g; omega
          · obtain rfl : i = k := by omega
            exact Int.le_refl _⟩
      · rw [decide_eq_false c1, cond_false]
        exact ⟨⟨j, by omega, h1⟩, fun i hi => by
          rcases Nat.lt_or_ge i k with g | g
          · exact h2 i g
          · obtain rfl : i = k := by omega
            omega⟩
theorem lnb {c : Nat} {xs : List Int} {k : Nat} {x : Rat} {a b : Int} (hx : x * b = a) : ln c xs k x * b = ((f.sv c xs a b k : Int) : Rat) := by
  unfold ln f.sv
  rw [Rat.intCast_add, Rat.intCast_mul, Rat.intCast_mul, Rat.intCast_sub]
  grind
theorem rlt (a b : Rat) : a < b ∨ b ≤ a := by
  by_cases h : a < b
  · exact .inl h
  · exact .inr (Rat.not_lt.1 h)
theorem ipos {n : Int} (h : 0 < n) : (0 : Rat) < n := by have := Rat.intCast_lt_intCast.2 h; exact this
theorem cancel {a b t : Rat} (ht : 0 < t) (h : a * t ≤ b * t) : a ≤ b := Rat.le_of_mul_le_mul_right h ht
theorem up_all {c : Nat} {xs : List Int} (hc : 1 ≤ c) {a b : Int} (h0 : 0 ≤ a) (hab : a ≤ b) (hb : 1 ≤ b) {z : Q4} (hz : z.q = 0 ∨ Inv c xs z) :
    Inv c xs (up c xs a b z) ∧ (∀ x : Rat, x * b = a → Tr c xs (up c xs a b z) x) ∧ (Inv c xs z → ∀ y, Tr c xs z y → Tr c xs (up c xs a b z) y) := by
  obtain ⟨⟨j, hj, hL⟩, hmin⟩ := ls_spec c xs a b c hc
  have hbp := ipos (show 0 < b by omega)
  unfold up
  cases hbt : bt.sp (ls.sv c xs a b c) a b z
  · simp only [bt.sp, Bool.or_eq_false_iff, beq_eq_false_iff_ne, decide_eq_false_iff_not, Bool.and_eq_false_iff] at hbt
    obtain ⟨q0, n1, _⟩ := hbt
    have hI : Inv c xs z := by
      rcases hz with h | h
      · exact absurd h q0
      · exact h
    rw [cond_false]
    refine ⟨hI, fun x hx => ⟨j, hj, ?_⟩, fun _ y hy => hy⟩
    have e := lnb (c := c) (xs := xs) (k := j) hx
    rw [← hL] at e
    have n2 : ls.sv c xs a b c * z.w ≤ z.v * b := by omega
    have n3 := Rat.intCast_le_intCast.2 n2
    rw [Rat.intCast_mul, Rat.intCast_mul, ← e] at n3
    refine cancel hbp ?_
    rw [show ln c xs j x * (z.w : Rat) * b = ln c xs j x * b * z.w by grind]
    exact n3
  · rw [cond_true]
    generalize hLL : ls.sv c xs a b c = L at *
    obtain ⟨t, ht, e1, e2, e3, _, _⟩ := rd_spec (a := L) (b := b) (by omega)
    have htp : 0 < t := by
      rcases Int.lt_or_le 0 t with g | g
      · exact g
      · have := Int.mul_nonneg (show 0 ≤ rd.q.sv L b by omega) (show 0 ≤ -t by omega)
        rw [Int.mul_neg] at this
        omega
    have htr := ipos htp
    have f1 : (L : Rat) = (rd.p.sv L b : Int) * (t : Rat) := by rw [← Rat.intCast_mul, ← e1]
    have f2 : (b : Rat) = (rd.q.sv L b : Int) * (t : Rat) := by rw [← Rat.intCast_mul, ← e2]
    refine ⟨⟨hb, h0, hab, by show 1 ≤ rd.q.sv L b; omega, ?_⟩, fun x hx => ⟨j, hj, ?_⟩, fun hI y hy => ?_⟩
    · show rd.p.sv L b * b = rd.q.sv L b * ls.sv c xs a b c
      rw [hLL]
      generalize rd.p.sv L b = p' at *
      generalize rd.q.sv L b = q' at *
      rw [e1, e2]
      grind
    · show ln c xs j x * ((rd.q.sv L b : Int) : Rat) ≤ ((rd.p.sv L b : Int) : Rat)
      have e := lnb (c := c) (xs := xs) (k := j) hx
      rw [← hL, f2, f1] at e
      generalize ((rd.p.sv L b : Int) : Rat) = p' at *
      generalize ((rd.q.sv L b : Int) : Rat) = q' at *
      clear hLL hz hmin f1 f2
      exact cancel htr (by rw [Rat.mul_assoc, e]; exact Rat.le_refl)
    · obtain ⟨k, hk, g⟩ := hy
      refine ⟨k, hk, ?_⟩
      show ln c xs k y * ((rd.q.sv L b : Int) : Rat) ≤ ((rd.p.sv L b : Int) : Rat)
      have hwp := ipos (show 0 < z.w by have := hI.w1; omega)
      have n2 : z.v * b ≤ L * z.w := by
        simp only [bt.sp, Bool.or_eq_true, beq_iff_eq, decide_eq_true_eq, Bool.and_eq_true] at hbt
        have := hI.q1
        omega
      have n3 := Rat.intCast_le_intCast.2 n2
      rw [Rat.intCast_mul, Rat.intCast_mul, f1, f2] at n3
      generalize ((rd.p.sv L b : Int) : Rat) = p' at *
      generalize ((rd.q.sv L b : Int) : Rat) = q' at *
      have hq : 0 < q' := by
        rcases rlt 0 q' with h | h
        · exact h
        · have := Rat.mul_le_mul_of_nonneg_right h (Rat.le_of_lt htr)
          grind
      have g2 := Rat.mul_le_mul_of_nonneg_right g (Rat.le_of_lt (Rat.mul_pos hq htr))
      refine cancel htr (cancel hwp ?_)
      rw [show ln c xs k y * q' * (t : Rat) * (z.w : Rat) = ln c xs k y * z.w * (q' * t) by grind]
      exact Rat.le_trans g2 n3
theorem s_all {c : Nat} {xs : List Int} (hc : 1 ≤ c) (a b : Int) {z : Q4} (hz : Inv c xs z) : Inv c xs (s c xs a b z) ∧ (b ≠ 0 → ∀ x : Rat, 0 ≤ x → x ≤ 1 → x * b = a → Tr c xs (s c xs a b z) x) ∧ ∀ y, Tr c xs z y → Tr c xs (s c xs a b z) y := by
  unfold s
  cases ho : ok.sp a b
  · rw [cond_false]
    refine ⟨hz, fun hb x x0 x1 hx => ?_, fun y hy => hy⟩
    exfalso
    obtain ⟨t, ht, e1, e2, e3, _, _⟩ := rd_spec (a := a) hb
    have htr : (t : Rat) ≠ 0 := fun h => ht (Rat.intCast_inj.1 h)
    have hq := ipos e3
    have k1 : x * ((rd.q.sv a b : Int) : Rat) = ((rd.p.sv a b : Int) : Rat) := by
      have f1 : (a : Rat) = (rd.p.sv a b : Int) * (t : Rat) := by rw [← Rat.intCast_mul, ← e1]
      have f2 : (b : Rat) = (rd.q.sv a b : Int) * (t : Rat) := by rw [← Rat.intCast_mul, ← e2]
      rw [f1, f2] at hx
      have : (x * ((rd.q.sv a b : Int) : Rat) - ((rd.p.sv a b : Int) : Rat)) * t = 0 := by grind
      rcases Rat.mul_eq_zero.1 this with h | h
      · grind
      · exact absurd h htr
    have k2 := Rat.mul_nonneg x0 (Rat.le_of_lt hq)
    have k3 := Rat.mul_le_mul_of_nonneg_right x1 (Rat.le_of_lt hq)
    rw [k1] at k2 k3
    rw [Rat.one_mul] at k3
    have k4 := Rat.intCast_le_intCast.1 k3
    have k5 : 0 ≤ rd.p.sv a b := Rat.intCast_le_intCast.1 k2
    have : ok.sp a b = true := by
      unfold ok.sp
      rw [decide_eq_true k4, decide_eq_true k5]
      simp [hb]
    rw [this] at ho
    cases ho
  · rw [cond_true]
    simp only [ok.sp, Bool.and_eq_true, bne_iff_ne, ne_eq, decide_eq_true_eq] at ho
    obtain ⟨hb, h1, h2⟩ := ho
    obtain ⟨t, ht, e1, e2, e3, _, _⟩ := rd_spec (a := a) hb
    obtain ⟨g1, g2, g3⟩ := up_all (c := c) (xs := xs) hc h1 h2 (by omega) (z := z) (.inr hz)
    refine ⟨g1, fun _ x x0 x1 hx => g2 x ?_, g3 hz⟩
    have htr : (t : Rat) ≠ 0 := fun h => ht (Rat.intCast_inj.1 h)
    have f1 : (a : Rat) = (rd.p.sv a b : Int) * (t : Rat) := by rw [← Rat.intCast_mul, ← e1]
    have f2 : (b : Rat) = (rd.q.sv a b : Int) * (t : Rat) := by rw [← Rat.intCast_mul, ← e2]
    rw [f1, f2] at hx
    have : (x * ((rd.q.sv a b : Int) : Rat) - ((rd.p.sv a b : Int) : Rat)) * t = 0 := by grind
    rcases Rat.mul_eq_zero.1 this with h | h
    · grind
    · exact absurd h htr
theorem z0_all {c : Nat} {xs : List Int} (hc : 1 ≤ c) : Inv c xs (z0 c xs) ∧ Tr c xs (z0 c xs) 0 ∧ Tr c xs (z0 c xs) 1 := by
  have e : s c xs 0 1 ⟨0, 0, 0, 0⟩ = up c xs 0 1 ⟨0, 0, 0, 0⟩ := by
    have h1 : ok.sp 0 1 = true := by decide
    have h2 : rd.p.sv 0 1 = 0 := by decide
    have h3 : rd.q.sv 0 1 = 1 := by decide
    unfold s
    rw [h1, h2, h3, cond_true]
  obtain ⟨g1, g2, _⟩ := up_all (c := c) (xs := xs) hc (a := 0) (b := 1) (by omega) (by omega) (by omega) (z := ⟨0, 0, 0, 0⟩) (.inl rfl)
  rw [← e] at g1 g2
  obtain ⟨k1, k2, k3⟩ := s_all hc 1 1 g1
  exact ⟨k1, k3 0 (g2 0 (by simp)), k2 (by omega) 1 (by decide) (by decide) (by simp)⟩
/-- Where the lines of two columns cross, within the chances. -/
def Cr (c : Nat) (xs : List Int) (k l : Nat) (x : Rat) : Prop := D c xs k l ≠ 0 ∧ 0 ≤ x ∧ x ≤ 1 ∧ x * D c xs k l = N c xs k l
theorem il_all {c : Nat} {xs : List Int} (hc : 1 ≤ c) (k : Nat) {z : Q4} (hz : Inv c xs z) : ∀ m, Inv c xs (il c xs k m z) ∧ (∀ l, l < m → ∀ x, Cr c xs k l x → Tr c xs (il c xs k m z) x) ∧ ∀ y, Tr c xs z y → Tr c xs (il c xs k m z) y
  | 0 => ⟨hz, fun l hl => by omega, fun y hy => hy⟩
  | m + 1 => by
    obtain ⟨h1, h2, h3⟩ := il_all hc k hz m
    obtain ⟨g1, g2, g3⟩ := s_all hc (N c xs k m) (D c xs k m) h1
    refine ⟨g1, fun l hl x hx => ?_, fun y hy => g3 y (h3 y hy)⟩
    rcases Nat.lt_or_ge l m with g | g
    · exact g3 x (h2 l g x hx)
    · obtain rfl : l = m := by omega
      exact g2 hx.1 x hx.2.1 hx.2.2.1 hx.2.2.2
theorem ol_all {c : Nat} {xs : List Int} (hc : 1 ≤ c) : ∀ m, Inv c xs (ol c xs m) ∧ (∀ k l, l < k → k < m → ∀ x, Cr c xs k l x → Tr c xs (ol c xs m) x) ∧ Tr c xs (ol c xs m) 0 ∧ Tr c xs (ol c xs m) 1
  | 0 => by
    obtain ⟨h1, h2, h3⟩ := z0_all (xs := xs) hc
    exact ⟨h1, fun k l _ hk => by omega, h2, h3⟩
  | m + 1 => by
    obtain ⟨h1, h2, h3, h4⟩ := ol_all hc m
    obtain ⟨g1, g2, g3⟩ := il_all hc m h1 m
    refine ⟨g1, fun k l hl hk x hx => ?_, g3 _ h3, g3 _ h4⟩
    rcases Nat.lt_or_ge k m with g | g
    · exact g3 x (h2 k l hl g x hx)
    · obtain rfl : k = m := by omega
      exact g2 l hl x hx
/-- One of the greatest. -/
theorem greatest (P : Nat → Prop) [DecidablePred P] (g : Nat → Rat) : ∀ n, (∃ k, k < n ∧ P k) → ∃ k, k < n ∧ P k ∧ ∀ j, j < n → P j → g j ≤ g k
  | 0, ⟨k, hk, _⟩ => by omega
  | n + 1, h => by
    by_cases c : ∃ k, k < n ∧ P k
    · obtain ⟨k, hk, h1, h2⟩ := greatest P g n c
      by_cases c2 : P n ∧ g k < g n
      · refine ⟨n, by omega, c2.1, fun j hj hP => ?_⟩
        rcases Nat.lt_or_ge j n with e | e
        · have := h2 j e hP; grind
        · obtain rfl : j = n := by omega
          exact Rat.le_refl
      · refine ⟨k, by omega, h1, fun j hj hP => ?_⟩
        rcases Nat.lt_or_ge j n with e | e
        · exact h2 j e hP
        · obtain rfl : j = n := by omega
          have : ¬ g k < g j := fun h => c2 ⟨hP, h⟩
          grind
    · obtain ⟨k, hk, hP⟩ := h
      have hkn : k = n := by
        rcases Nat.lt_or_ge k n with e | e
        · exact absurd ⟨k, e, hP⟩ c
        · omega
      subst hkn
      refine ⟨k, hk, hP, fun j hj hPj => ?_⟩
      rcases Nat.lt_or_ge j k with e | e
      · exact absurd ⟨j, e, hPj⟩ c
      · obtain rfl : j = k := by omega
        exact Rat.le_refl
theorem lineA {α β p q m x0 x : Rat} (h1 : m < p + α * x0) (h2 : m < q + β * x0) (ha : 0 < α) (hb : β < 0) (hx : x * (α - β) = q - p) : 0 < (p - m) + α * x := by
  have hD : 0 < α - β := by grind
  have t1 := Rat.mul_lt_mul_of_pos_right h1 (show 0 < -β by grind)
  have t2 := Rat.mul_lt_mul_of_pos_right h2 ha
  have t4 : α * (x * (α - β)) = α * (q - p) := by rw [hx]
  have t3 : 0 < ((p - m) + α * x) * (α - β) := by grind
  rcases rlt 0 ((p - m) + α * x) with h | h
  · exact h
  · have := Rat.mul_le_mul_of_nonneg_right h (Rat.le_of_lt hD)
    grind
theorem lineB {α p r m x : Rat} (hr : r * α = m - p) (ha : 0 < α) (h : 0 < (p - m) + α * x) : r < x := by
  rcases rlt r x with g | g
  · exact g
  · have := Rat.mul_le_mul_of_nonneg_right g (Rat.le_of_lt ha)
    grind
theorem lineC {β q r m x : Rat} (hr : r * β = m - q) (hb : β < 0) (h : 0 < (q - m) + β * x) : x < r := by
  rcases rlt x r with g | g
  · exact g
  · have := Rat.mul_le_mul_of_nonneg_right g (show 0 ≤ -β by grind)
    grind
theorem lineD {α p r m x : Rat} (hr : r * α = m - p) (ha : 0 < α) (h : r < x) : m < p + α * x := by
  have := Rat.mul_lt_mul_of_pos_right h ha
  grind
theorem lineE {β q r m x : Rat} (hr : r * β = m - q) (hb : β < 0) (h : x < r) : m < q + β * x := by
  have := Rat.mul_lt_mul_of_pos_right h (show 0 < -β by grind)
  grind
theorem lineF {α p r m : Rat} (hr : r * α = m - p) (ha : 0 < α) (h : p ≤ m) : 0 ≤ r := by
  rcases rlt r 0 with g | g
  · have := Rat.mul_lt_mul_of_pos_right g ha
    grind
  · exact g
theorem lineG {β q r m : Rat} (hr : r * β = m - q) (hb : β < 0) (h : q + β ≤ m) : r ≤ 1 := by
  rcases rlt 1 r with g | g
  · have := Rat.mul_lt_mul_of_pos_right g (show 0 < -β by grind)
    grind
  · exact g
theorem lineH {α p m x0 : Rat} (h : m < p + α * x0) (x00 : 0 ≤ x0) (hp : p ≤ m) : 0 < α := by
  rcases rlt 0 α with g | g
  · exact g
  · have := Rat.mul_le_mul_of_nonneg_right g x00
    grind
theorem lineI {β q m x0 : Rat} (h : m < q + β * x0) (x01 : x0 ≤ 1) (hq : q + β ≤ m) : β < 0 := by
  rcases rlt β 0 with g | g
  · exact g
  · have := Rat.mul_nonneg g (show 0 ≤ 1 - x0 by grind)
    grind
/-- Lines: where all are above a mark, two of them cross above it, with all others above it too, unless a border is. -/
theorem lines {n : Nat} (B S : Nat → Rat) (m x0 : Rat) (h0 : ∃ k, k < n ∧ B k ≤ m) (h1 : ∃ k, k < n ∧ B k + S k ≤ m)
    (hx : ∀ i j, i < n → j < n → i ≠ j → ∀ x, S i - S j ≠ 0 → 0 ≤ x → x ≤ 1 → x * (S i - S j) = B j - B i → ∃ k, k < n ∧ B k + S k * x ≤ m)
    (x00 : 0 ≤ x0) (x01 : x0 ≤ 1) : ∃ k, k < n ∧ B k + S k * x0 ≤ m := by
  refine Classical.byContradiction fun hno => ?_
  have hab : ∀ k, k < n → m < B k + S k * x0 := fun k hk => by
    rcases rlt m (B k + S k * x0) with h | h
    · exact h
    · exact absurd ⟨k, hk, h⟩ hno
  -- where each line meets the mark
  obtain ⟨R, r'⟩ : ∃ R : Nat → Rat, ∀ k, S k ≠ 0 → R k * S k = m - B k := ⟨fun k => (m - B k) / S k, fun k h => Rat.div_mul_cancel h⟩
  obtain ⟨i0, hi0, e0⟩ := h0
  obtain ⟨j0, hj0, e1⟩ := h1
  have p0 := lineH (hab i0 hi0) x00 e0
  have p1 := lineI (hab j0 hj0) x01 e1
  obtain ⟨i, hi, hip, hi2⟩ := greatest (fun k => 0 < S k) R n ⟨i0, hi0, p0⟩
  obtain ⟨j, hj, hjp, hj2⟩ := greatest (fun k => S k < 0) (fun k => -R k) n ⟨j0, hj0, p1⟩
  have hij : i ≠ j := fun e => by subst e; exact absurd hip (Rat.not_lt.2 (Rat.le_of_lt hjp))
  have pos_ne : ∀ {q : Rat}, 0 < q → q ≠ 0 := fun h e => by subst e; exact absurd h (by decide)
  have neg_ne : ∀ {q : Rat}, q < 0 → q ≠ 0 := fun h e => by subst e; exact absurd h (by decide)
  -- the crossing
  have hDp : S i - S j ≠ 0 := pos_ne (by grind)
  obtain ⟨x, hxx⟩ : ∃ x : Rat, x * (S i - S j) = B j - B i := ⟨(B j - B i) / (S i - S j), Rat.div_mul_cancel hDp⟩
  have above := lineA (hab i hi) (hab j hj) hip hjp hxx
  have above2 : 0 < (B j - m) + S j * x := by grind
  have gi := lineB (r' i (pos_ne hip)) hip above
  have gj := lineC (r' j (neg_ne hjp)) hjp above2
  have l0 := lineF (r' i0 (pos_ne p0)) p0 e0
  have l1 := lineG (r' j0 (neg_ne p1)) p1 e1
  have m0 := hi2 i0 hi0 p0
  have m1 := hj2 j0 hj0 p1
  obtain ⟨k, hk, hkm⟩ := hx i j hi hj hij x hDp (by grind) (by grind) hxx
  have fin : m < B k + S k * x := by
    rcases rlt 0 (S k) with h | h
    · have q1 := hi2 k hk h
      exact lineD (r' k (pos_ne h)) h (by grind)
    · rcases rlt (S k) 0 with h' | h'
      · have q1 := hj2 k hk h'
        exact lineE (r' k (neg_ne h')) h' (by grind)
      · have e : S k = 0 := by grind
        have := hab k hk
        rw [e, Rat.zero_mul] at this ⊢
        exact this
  exact absurd fin (Rat.not_lt.2 hkm)
/-- What is kept as best is best. -/
theorem best {c : Nat} {xs : List Int} (hc : 1 ≤ c) : Inv c xs (ol c xs c) ∧ ∀ a b : Int, 0 ≤ a → a ≤ b → 0 < b → ls.sv c xs a b c * (ol c xs c).w ≤ (ol c xs c).v * b := by
  obtain ⟨h1, h2, h3, h4⟩ := ol_all (xs := xs) hc c
  refine ⟨h1, fun a b a0 ab b0 => ?_⟩
  generalize ol c xs c = z at *
  have hw := ipos (show 0 < z.w by have := h1.w1; omega)
  have hb := ipos b0
  obtain ⟨m, hm⟩ : ∃ m : Rat, m * z.w = z.v := ⟨(z.v : Rat) / z.w, Rat.div_mul_cancel (fun e => by rw [e] at hw; exact absurd hw (by decide))⟩
  have tr : ∀ x, Tr c xs z x → ∃ k, k < c ∧ (gz xs (c + k) : Rat) + ((gz xs k : Rat) - gz xs (c + k)) * x ≤ m := fun x ⟨k, hk, g⟩ => by
    refine ⟨k, hk, cancel hw ?_⟩
    rw [hm]
    unfold ln at g
    rw [show ((gz xs (c + k) : Rat) + ((gz xs k : Rat) - gz xs (c + k)) * x) = x * gz xs k + (1 - x) * gz xs (c + k) by grind]
    exact g
  obtain ⟨x0, hx0⟩ : ∃ x : Rat, x * b = a := ⟨(a : Rat) / b, Rat.div_mul_cancel (fun e => by rw [e] at hb; exact absurd hb (by decide))⟩
  have x00 : 0 ≤ x0 := by
    rcases rlt x0 0 with g | g
    · have := Rat.mul_lt_mul_of_pos_right g hb
      have a0' : (0 : Rat) ≤ a := Rat.intCast_le_intCast.2 a0
      grind
    · exact g
  have x01 : x0 ≤ 1 := by
    rcases rlt 1 x0 with g | g
    · have := Rat.mul_lt_mul_of_pos_right g hb
      have ab' := Rat.intCast_le_intCast.2 ab
      grind
    · exact g
  obtain ⟨k, hk, g⟩ := lines (n := c) (fun k => (gz xs (c + k) : Rat)) (fun k => (gz xs k : Rat) - gz xs (c + k)) m x0
    (by obtain ⟨k, hk, g⟩ := tr 0 h3; exact ⟨k, hk, by grind⟩) (by obtain ⟨k, hk, g⟩ := tr 1 h4; exact ⟨k, hk, by grind⟩)
    (fun i j hi hj hij x hD y0 y1 hxx => by
      refine tr x ?_
      have eD : ∀ k l : Nat, ((D c xs k l : Int) : Rat) = ((gz xs k : Rat) - gz xs (c + k)) - ((gz xs l : Rat) - gz xs (c + l)) := fun k l => by
        unfold D
        rw [Rat.intCast_add, Rat.intCast_sub, Rat.intCast_sub]
        grind
      have eN : ∀ k l : Nat, ((N c xs k l : Int) : Rat) = (gz xs (c + l) : Rat) - gz xs (c + k) := fun k l => by
        unfold N
        rw [Rat.intCast_sub]
      have ne : ∀ k l, ((D c xs k l : Int) : Rat) ≠ 0 → D c xs k l ≠ 0 := fun k l h e => h (by rw [e]; rfl)
      rcases Nat.lt_or_ge j i with c1 | c1
      · refine h2 i j c1 hi x ⟨ne i j (by rw [eD]; exact hD), y0, y1, ?_⟩
        rw [eD, eN]
        exact hxx
      · refine h2 j i (by omega) hj x ⟨ne j i (by rw [eD]; intro e; exact hD (by grind)), y0, y1, ?_⟩
        rw [eD, eN]
        grind) x00 x01
  obtain ⟨_, hmin⟩ := ls_spec c xs a b c hc
  have e := lnb (c := c) (xs := xs) (k := k) hx0
  have g2 : ((f.sv c xs a b k : Int) : Rat) * z.w ≤ (z.v : Rat) * b := by
    rw [← e, ← hm]
    have := Rat.mul_le_mul_of_nonneg_right (Rat.mul_le_mul_of_nonneg_right g (Rat.le_of_lt hb)) (Rat.le_of_lt hw)
    unfold ln
    grind
  have g3 : f.sv c xs a b k * z.w ≤ z.v * b := by
    rw [← Rat.intCast_mul, ← Rat.intCast_mul] at g2
    exact Rat.intCast_le_intCast.1 g2
  exact Int.le_trans (Int.mul_le_mul_of_nonneg_right (hmin k hk) (by have := h1.w1; omega)) g3
/-- It lies between what is safe for both. -/
theorem between {c : Nat} {xs : List Int} (hc : 1 ≤ c) (hl : xs.length = 2 * c) : sr.m.sv 2 c xs * (ol c xs c).w ≤ (ol c xs c).v ∧ (ol c xs c).v ≤ sc.m.sv 2 c xs * (ol c xs c).w := by
  obtain ⟨h1, _, h3, h4⟩ := ol_all (xs := xs) hc c
  generalize ol c xs c = z at *
  have hw1 := h1.w1
  constructor
  · obtain ⟨i, hi, e, _⟩ := an.sr_ok (r := 2) (c := c) (xs := xs) (by omega)
    obtain ⟨_, h5⟩ := an.low_ok hl (by omega) hi
    rw [e]
    have key : ∀ k, k < c → ((gz xs (i * c + k) : Int) : Rat) * z.w ≤ z.v → sr.f.sv c xs i * z.w ≤ z.v := fun k hk g => by
      rw [← Rat.intCast_mul] at g
      exact Int.le_trans (Int.mul_le_mul_of_nonneg_right (h5 k hk) (by omega)) (Rat.intCast_le_intCast.1 g)
    rcases Nat.lt_or_ge i 1 with c1 | c1
    · obtain rfl : i = 0 := by omega
      obtain ⟨k, hk, g⟩ := h4
      refine key k hk ?_
      unfold ln at g
      rw [show 0 * c + k = k by omega]
      grind
    · obtain rfl : i = 1 := by omega
      obtain ⟨k, hk, g⟩ := h3
      refine key k hk ?_
      unfold ln at g
      rw [show 1 * c + k = c + k by omega]
      grind
  · obtain ⟨k, hk, e, _⟩ := an.sc_ok (r := 2) (c := c) (xs := xs) (by omega)
    obtain ⟨_, h5⟩ := an.high_ok (r := 2) (c := c) (xs := xs) (by omega) (k := k)
    have a0 := h5 0 (by omega)
    have a1 := h5 1 (by omega)
    rw [show 0 * c + k = k by omega] at a0
    rw [show 1 * c + k = c + k by omega] at a1
    rw [e]
    generalize sc.f.sv 2 c xs k = H at *
    obtain ⟨_, hmin⟩ := ls_spec c xs z.p z.q c hc
    have h6 := hmin k hk
    have h7 : f.sv c xs z.p z.q k ≤ H * z.q := by
      unfold f.sv
      have b1 := Int.mul_le_mul_of_nonneg_left a0 h1.p0
      have b2 := Int.mul_le_mul_of_nonneg_left a1 (show 0 ≤ z.q - z.p by have := h1.pq; omega)
      have b3 : z.p * H + (z.q - z.p) * H = H * z.q := by grind
      omega
    have h8 : z.v * z.q ≤ (H * z.w) * z.q := by
      rw [h1.vw]
      have := Int.mul_le_mul_of_nonneg_left (Int.le_trans h6 h7) (show 0 ≤ z.w by omega)
      rw [show H * z.w * z.q = z.w * (H * z.q) by grind]
      exact this
    exact Int.le_of_mul_le_mul_right h8 (by have := h1.q1; omega)
end trv


namespace mix
open fp
/-- A quotient that is a chance. -/
def Gd (n d : Int) : Prop := ((0 ≤ n ∧ n ≤ d ∧ 0 < d) ∨ (n ≤ 0 ∧ d ≤ n ∧ d < 0)) ∧ -1000 ≤ d ∧ d ≤ 1000
theorem gd_ok {n d : Int} (h : Gd n d) : 0 ≤ rd.p.sv n d ∧ rd.p.sv n d ≤ rd.q.sv n d ∧ 0 < rd.q.sv n d ∧ rd.q.sv n d ≤ 1000 ∧ d ≠ 0 ∧ rd.p.sv n d * d = n * rd.q.sv n d := by
  obtain ⟨h, d1, d2⟩ := h
  have hd : d ≠ 0 := by omega
  obtain ⟨t, ht, e1, e2, e3, _, e5⟩ := trv.rd_spec (a := n) hd
  generalize rd.p.sv n d = p at *
  generalize rd.q.sv n d = q at *
  have e6 : p * d = n * q := by rw [e1, e2]; grind
  refine ⟨?_, ?_, e3, by omega, hd, e6⟩
  · rcases Int.lt_or_le p 0 with c | c
    · exfalso
      rcases h with h | h
      · have a := Int.mul_pos (show 0 < -p by omega) h.2.2
        have b := Int.mul_nonneg h.1 (Int.le_of_lt e3)
        rw [Int.neg_mul] at a
        omega
      · have a := Int.mul_pos (show 0 < -p by omega) (show 0 < -d by omega)
        have b := Int.mul_nonneg (show 0 ≤ -n by omega) (Int.le_of_lt e3)
        rw [Int.neg_mul_neg] at a
        rw [Int.neg_mul] at b
        omega
    · exact c
  · rcases Int.lt_or_le q p with c | c
    · exfalso
      rcases h with h | h
      · have a := Int.mul_pos (show 0 < p - q by omega) h.2.2
        have b := Int.mul_nonneg (show 0 ≤ d - n by omega) (Int.le_of_lt e3)
        rw [Int.sub_mul] at a b
        rw [Int.mul_comm q d] at a
        omega
      · have a := Int.mul_pos (show 0 < p - q by omega) (show 0 < -d by omega)
        have b := Int.mul_nonneg (show 0 ≤ n - d by omega) (Int.le_of_lt e3)
        rw [Int.mul_neg, Int.sub_mul] at a
        rw [Int.sub_mul] at b
        rw [Int.mul_comm q d] at a
        omega
    · exact c
/-- Small gains, four of them. -/
def Sm (xs : List Int) : Prop := ∀ i, i < 4 → -14 ≤ gz xs i ∧ gz xs i ≤ 14
/-- Where no pair of choices keeps both, both have even chances. -/
theorem even {xs ys : List Int} (hx : Sm xs) (hy : Sm ys) (h : pu.sv 2 2 xs ys = []) : Gd (ev.n ys) (ev.d ys) ∧ Gd (ev.n (tn.sv 2 2 xs)) (ev.d (tn.sv 2 2 xs)) := by
  have no : ∀ i k, i < 2 → k < 2 → ¬ an.PE 2 2 xs ys i k := fun i k hi hk hp => by
    have : ((i * 2 + k : Nat) : Int) ∈ pu.sv 2 2 xs ys := an.pu_iff.2 ⟨i, k, hi, hk, rfl, hp⟩
    rw [h] at this
    cases this
  have key : ∀ i k, i < 2 → k < 2 → gz xs (i * 2 + k) < gz xs ((1 - i) * 2 + k) ∨ gz ys (i * 2 + k) < gz ys (i * 2 + (1 - k)) := fun i k hi hk => by
    refine Classical.byContradiction fun hc => no i k hi hk ⟨fun j hj => ?_, fun l hl => ?_⟩
    · have hc := (not_or.1 hc).1
      rcases Nat.lt_or_ge i 1 with c | c <;> rcases Nat.lt_or_ge j 1 with c' | c'
      · obtain rfl : i = j := by omega
        exact Int.le_refl _
      · obtain rfl : i = 0 := by omega
        obtain rfl : j = 1 := by omega
        exact Int.not_lt.1 hc
      · obtain rfl : i = 1 := by omega
        obtain rfl : j = 0 := by omega
        exact Int.not_lt.1 hc
      · obtain rfl : i = j := by omega
        exact Int.le_refl _
    · have hc := (not_or.1 hc).2
      rcases Nat.lt_or_ge k 1 with c | c <;> rcases Nat.lt_or_ge l 1 with c' | c'
      · obtain rfl : k = l := by omega
        exact Int.le_refl _
      · obtain rfl : k = 0 := by omega
        obtain rfl : l = 1 := by omega
        exact Int.not_lt.1 hc
      · obtain rfl : k = 1 := by omega
        obtain rfl : l = 0 := by omega
        exact Int.not_lt.1 hc
      · obtain rfl : k = l := by omega
        exact Int.le_refl _
  have k0 := key 0 0 (by omega) (by omega)
  have k1 := key 0 1 (by omega) (by omega)
  have k2 := key 1 0 (by omega) (by omega)
  have k3 := key 1 1 (by omega) (by omega)
  obtain ⟨t0, t1, t2, t3⟩ := tb.tn4 xs
  have x0 := hx 0 (by omega)
  have x1 := hx 1 (by omega)
  have x2 := hx 2 (by omega)
  have x3 := hx 3 (by omega)
  have y0 := hy 0 (by omega)
  have y1 := hy 1 (by omega)
  have y2 := hy 2 (by omega)
  have y3 := hy 3 (by omega)
  unfold Gd ev.n ev.d
  rw [t0, t1, t2, t3]
  generalize gz xs 0 = a0 at *
  generalize gz xs 1 = a1 at *
  generalize gz xs 2 = a2 at *
  generalize gz xs 3 = a3 at *
  generalize gz ys 0 = b0 at *
  generalize gz ys 1 = b1 at *
  generalize gz ys 2 = b2 at *
  generalize gz ys 3 = b3 at *
  have k0' : a0 < a2 ∨ b0 < b1 := k0
  have k1' : a1 < a3 ∨ b1 < b0 := k1
  have k2' : a2 < a0 ∨ b2 < b3 := k2
  have k3' : a3 < a1 ∨ b3 < b2 := k3
  omega
theorem gd_ev {l : List Int} (h : Gd (ev.n l) (ev.d l)) : ev.ok.sp l = true := by
  obtain ⟨h1, h2, h3, h4, h5, h6⟩ := gd_ok h
  unfold ev.ok.sp ev.p.sv ev.q.sv
  rw [decide_eq_true h1, decide_eq_true h2]
  simp [h5]
/-- The word of a chance, and of what is left. -/
def P (n d : Int) : Nat := fdiv .f32 (FloatKind.f32.nearest (rd.p.sv n d)) (FloatKind.f32.nearest (rd.q.sv n d))
def P2 (n d : Int) : Nat := fsub .f32 1065353216 (P n d)
theorem ap_mono {w : Nat} {x : Rat} {k l : Nat} (h : Ap w x k) (hk : k ≤ l) : Ap w x l := by
  obtain ⟨z, v, h1, h2⟩ := h
  have := Rat.mul_le_mul_of_nonneg_right (Rat.natCast_le_natCast.2 hk) (Rat.le_of_lt u_pos)
  exact ⟨z, v, by grind, by grind⟩
theorem chance {n d : Int} (h : Gd n d) : ∃ p : Rat, 0 ≤ p ∧ p ≤ 1 ∧ p * d = n ∧ Ap (P n d) p 5 ∧ Ap (P2 n d) (1 - p) 5 ∧ flo.least.sp (P n d) = true ∧ flo.least.sp (P2 n d) = true := by
  obtain ⟨h1, h2, h3, h4, h5, h6⟩ := gd_ok h
  have hq := trv.ipos h3
  have hqn : ((rd.q.sv n d : Int) : Rat) ≠ 0 := fun e => by rw [e] at hq; exact absurd hq (by decide)
  obtain ⟨p, hp⟩ : ∃ p : Rat, p * (rd.q.sv n d : Int) = (rd.p.sv n d : Int) := ⟨_, Rat.div_mul_cancel hqn⟩
  have e6 : ((rd.p.sv n d : Int) : Rat) * d = n * (rd.q.sv n d : Int) := by rw [← Rat.intCast_mul, ← Rat.intCast_mul, h6]
  have hpd : p * d = n := by
    have : (p * d - n) * (rd.q.sv n d : Int) = 0 := by
      rw [← hp] at e6
      grind
    rcases Rat.mul_eq_zero.1 this with g | g
    · grind
    · exact absurd g hqn
  have p0' : (0 : Rat) ≤ (rd.p.sv n d : Int) := Rat.intCast_le_intCast.2 h1
  have p1' : ((rd.p.sv n d : Int) : Rat) ≤ (rd.q.sv n d : Int) := Rat.intCast_le_intCast.2 h2
  have p0 : 0 ≤ p := trv.cancel hq (by rw [hp, Rat.zero_mul]; exact p0')
  have p1 : p ≤ 1 := trv.cancel hq (by rw [hp, Rat.one_mul]; exact p1')
  obtain ⟨z, vz, z0, z1, z2, z3⟩ := ap_div (v_int (n := rd.p.sv n d) (by omega)) (v_int (n := rd.q.sv n d) (by omega)) hqn hp p0 p1
  have hu := u_pos
  have ti := tiny
  have c5 : ((5 : Nat) : Rat) = 5 := rfl
  have one : ((1 : Int) : Rat) = 1 := rfl
  have hB := big (n := 1) (by omega)
  have c1 : ((1 : Nat) : Rat) = 1 := rfl
  rw [c1] at hB
  obtain ⟨w, y, ew, vy, y1, y2, y3⟩ := sub_val rm_single v_one vz (B := 1) (by rw [one]; grind) (by rw [one]; grind) hB
  rw [frac, one] at y1 y2
  have e2 : P2 n d = w := by
    show (Ieee.single.sub 1065353216 (P n d)).getD (qnan .f32) = w
    unfold P
    rw [ew]; rfl
  have y0 : 0 ≤ y := by
    have t24 : (1 : Rat) < 16777216 := by decide
    rw [one] at y3
    have := (y3 (by rw [top24]; grind) (by rw [top24]; grind) 0).2 (by show ((0 : Int) : Rat) ≤ 1 - z; have : ((0 : Int) : Rat) = 0 := rfl; grind)
    have e : ((0 : Int) : Rat) = 0 := rfl
    rw [e] at this
    exact this
  refine ⟨p, p0, p1, hpd, ⟨z, vz, ?_, ?_⟩, ?_, v_least vz z0, ?_⟩
  · rw [c5]; grind
  · rw [c5]; grind
  · rw [e2]
    exact ⟨y, vy, by rw [c5]; grind, by rw [c5]; grind⟩
  · rw [e2]
    exact v_least vy y0
theorem ib {a : Int} (h : -14 ≤ a ∧ a ≤ 14) : -(14 : Rat) ≤ a ∧ (a : Rat) ≤ 14 := by
  have h1 := Rat.intCast_le_intCast.2 h.1
  have h2 := Rat.intCast_le_intCast.2 h.2
  exact ⟨h1, h2⟩
theorem c14 : ((14 : Nat) : Rat) = 14 := rfl
theorem c1' : ((1 : Nat) : Rat) = 1 := rfl
theorem term1 {c : Nat} {x : Rat} {a : Int} {k : Nat} (hk : k ≤ 13) (h : Ap c x k) (x0 : 0 ≤ x) (x1 : x ≤ 1) (ha : -14 ≤ a ∧ a ≤ 14) : Ap (fmul .f32 c (FloatKind.f32.nearest a)) (x * a) (k * 14 + 16) ∧ -14 ≤ x * a ∧ x * a ≤ 14 := by
  obtain ⟨a1, a2⟩ := ib ha
  have h1 := ap_mul 1 14 h (Ap.of (v_int (n := a) (by omega))) (by rw [c1']; grind) (by rw [c1']; exact x1) (by rw [c14]; exact a1) (by rw [c14]; exact a2) (by omega) (by omega) (by omega) (by omega)
  obtain ⟨b1, b2⟩ := mul_abs (p := x) (q := (a : Rat)) (P := 1) (Q := 14) (by decide) (by decide) (by grind) x1 a1 a2
  exact ⟨ap_mono h1 (by omega), by grind, by grind⟩
theorem term2 {c c' : Nat} {x y : Rat} {a : Int} (h : Ap c x 5) (h' : Ap c' y 5) (x0 : 0 ≤ x) (x1 : x ≤ 1) (y0 : 0 ≤ y) (y1 : y ≤ 1) (ha : -14 ≤ a ∧ a ≤ 14) : Ap (fmul .f32 (fmul .f32 c c') (FloatKind.f32.nearest a)) (x * y * a) 198 ∧ -14 ≤ x * y * a ∧ x * y * a ≤ 14 := by
  have h1 := ap_mul 1 1 h h' (by rw [c1']; grind) (by rw [c1']; exact x1) (by rw [c1']; grind) (by rw [c1']; exact y1) (by omega) (by omega) (by omega) (by omega)
  obtain ⟨b1, b2⟩ := mul_abs (p := x) (q := y) (P := 1) (Q := 1) (by decide) (by decide) (by grind) x1 (by grind) y1
  exact term1 (k := 13) (by omega) (ap_mono h1 (by omega)) (Rat.mul_nonneg x0 y0) (by grind) ha
theorem zero_ap : Ap 0 0 0 := Ap.of v_zero
theorem sum2 {s t : Nat} {x y : Rat} (h1 : Ap s x 86) (h2 : Ap t y 86) (x0 : -14 ≤ x) (x1 : x ≤ 14) (y0 : -14 ≤ y) (y1 : y ≤ 14) : Ap (fadd .f32 (fadd .f32 0 s) t) (0 + x + y) 216 := by
  have g1 := ap_add 14 zero_ap h1 (by rw [c14]; grind) (by rw [c14]; grind) (by omega) (by omega)
  have c28 : ((28 : Nat) : Rat) = 28 := rfl
  exact ap_mono (ap_add 28 g1 h2 (by rw [c28]; grind) (by rw [c28]; grind) (by omega) (by omega)) (by omega)
theorem sum4 {s t v w : Nat} {x y z r : Rat} (h1 : Ap s x 198) (h2 : Ap t y 198) (h3 : Ap v z 198) (h4 : Ap w r 198) (x0 : -14 ≤ x) (x1 : x ≤ 14) (y0 : -14 ≤ y) (y1 : y ≤ 14) (z0 : -14 ≤ z) (z1 : z ≤ 14) (r0 : -14 ≤ r) (r1 : r ≤ 14) :
    Ap (fadd .f32 (fadd .f32 (fadd .f32 (fadd .f32 0 s) t) v) w) (0 + x + y + z + r) 936 := by
  have c28 : ((28 : Nat) : Rat) = 28 := rfl
  have c42 : ((42 : Nat) : Rat) = 42 := rfl
  have c56 : ((56 : Nat) : Rat) = 56 := rfl
  have g1 := ap_add 14 zero_ap h1 (by rw [c14]; grind) (by rw [c14]; grind) (by omega) (by omega)
  have g2 := ap_add 28 g1 h2 (by rw [c28]; grind) (by rw [c28]; grind) (by omega) (by omega)
  have g3 := ap_add 42 g2 h3 (by rw [c42]; grind) (by rw [c42]; grind) (by omega) (by omega)
  exact ap_mono (ap_add 56 g3 h4 (by rw [c56]; grind) (by rw [c56]; grind) (by omega) (by omega)) (by omega)
theorem ap_fin {w : Nat} {x : Rat} {k : Nat} (h : Ap w x k) : flo.fin.sp w = true := by
  obtain ⟨z, v, _⟩ := h
  exact v_fin v
/-- The greatest of many near nought. -/
theorem most_ap {F : Nat → Nat} {K : Nat} : ∀ (l : List Nat) (m : Nat), (∀ i ∈ l, Ap (F i) 0 K) → (∃ z, V m z ∧ 0 ≤ z ∧ z ≤ (K : Rat) * u) → ∃ z, V (wg.most F l m) z ∧ 0 ≤ z ∧ z ≤ (K : Rat) * u
  | [], m, _, h => h
  | i :: l, m, hF, ⟨z, vz, z0, z1⟩ => by
    rw [wg.most]
    refine most_ap l _ (fun j hj => hF j (List.mem_cons_of_mem _ hj)) ?_
    obtain ⟨y, vy, y1, y2⟩ := hF i List.mem_cons_self
    obtain ⟨o, ho, _, _, h3⟩ := v_order vy vz
    unfold wg.gt.sp
    rw [ho]
    cases o
    · exact ⟨z, vz, z0, z1⟩
    · exact ⟨z, vz, z0, z1⟩
    · have := h3.1 rfl
      exact ⟨y, vy, by grind, by grind⟩
theorem fins_ap {F : Nat → Nat} {K : Nat} {l : List Nat} (h : ∀ i ∈ l, Ap (F i) 0 K) : wg.fins F l = true := by
  unfold wg.fins
  rw [List.all_eq_true]
  exact fun i hi => ap_fin (h i hi)
theorem small_le {K : Nat} (h : K ≤ 8388) : (K : Rat) * u ≤ ((8389 : Nat) : Rat) * u := Rat.mul_le_mul_of_nonneg_right (Rat.natCast_le_natCast.2 (by omega)) (Rat.le_of_lt u_pos)
/-- The mark. -/
theorem v_mark : V 981668463 (sg false * ((8589935 : Nat) * tw (-33))) := ⟨false, 8589935, -33, by rfl, by decide, rfl⟩
theorem mark {K : Nat} (h : K ≤ 8000) : (K : Rat) * u ≤ sg false * ((8589935 : Nat) * tw (-33)) := by
  have e : u = ((1024 : Nat) : Rat) * tw (-33) := by
    have := tw_add ((10 : Nat) : Int) (-33)
    rw [tw_nat] at this
    exact this
  have h1 : ((K * 1024 : Nat) : Rat) ≤ ((8589935 : Nat) : Rat) := Rat.natCast_le_natCast.2 (by omega)
  have h2 := Rat.mul_le_mul_of_nonneg_right h1 (Rat.le_of_lt (tw_pos (-33)))
  rw [e, ← Rat.mul_assoc, ← Rat.natCast_mul]
  simp only [sg, Bool.false_eq_true, if_false, Rat.one_mul]
  exact h2
theorem mixed {xs ys : List Int} (hx : Sm xs) (hy : Sm ys) (hv : gm.sp 2 2 xs ys = true) (h1 : Gd (ev.n ys) (ev.d ys)) (h2 : Gd (ev.n (tn.sv 2 2 xs)) (ev.d (tn.sv 2 2 xs))) :
    wg.sp 2 2 xs ys [P (ev.n ys) (ev.d ys), P2 (ev.n ys) (ev.d ys)] [P (ev.n (tn.sv 2 2 xs)) (ev.d (tn.sv 2 2 xs)), P2 (ev.n (tn.sv 2 2 xs)) (ev.d (tn.sv 2 2 xs))] = true ∧
    ∃ z, V (wg.v.sv 2 2 xs ys [P (ev.n ys) (ev.d ys), P2 (ev.n ys) (ev.d ys)] [P (ev.n (tn.sv 2 2 xs)) (ev.d (tn.sv 2 2 xs)), P2 (ev.n (tn.sv 2 2 xs)) (ev.d (tn.sv 2 2 xs))]) z ∧ 0 ≤ z ∧ z ≤ ((1153 : Nat) : Rat) * u := by
  obtain ⟨p, p0, p1, pe, ap, ap', lp, lp'⟩ := chance h1
  obtain ⟨r, r0, r1, re, ar, ar', lr, lr'⟩ := chance h2
  obtain ⟨t0, t1, t2, t3⟩ := tb.tn4 xs
  unfold ev.n ev.d at pe re
  rw [t0, t1, t2, t3] at re
  generalize P (ev.n ys) (ev.d ys) = A at *
  generalize P2 (ev.n ys) (ev.d ys) = A' at *
  generalize P (ev.n (tn.sv 2 2 xs)) (ev.d (tn.sv 2 2 xs)) = B at *
  generalize P2 (ev.n (tn.sv 2 2 xs)) (ev.d (tn.sv 2 2 xs)) = B' at *
  have q0 : 0 ≤ 1 - p := by grind
  have q1 : 1 - p ≤ 1 := by grind
  have s0 : 0 ≤ 1 - r := by grind
  have s1 : 1 - r ≤ 1 := by grind
  -- the mean of a list of gains
  have mean : ∀ l : List Int, Sm l → Ap (wg.g.sv 2 2 l [A, A'] [B, B']) (0 + p * r * gz l 0 + p * (1 - r) * gz l 1 + (1 - p) * r * gz l 2 + (1 - p) * (1 - r) * gz l 3) 936 := fun l hl => by
    obtain ⟨a1, a2, a3⟩ := term2 ap ar p0 p1 r0 r1 (hl 0 (by omega))
    obtain ⟨b1, b2, b3⟩ := term2 ap ar' p0 p1 s0 s1 (hl 1 (by omega))
    obtain ⟨c1, c2, c3⟩ := term2 ap' ar q0 q1 r0 r1 (hl 2 (by omega))
    obtain ⟨d1, d2, d3⟩ := term2 ap' ar' q0 q1 s0 s1 (hl 3 (by omega))
    exact sum4 a1 b1 c1 d1 a2 a3 b2 b3 c2 c3 d2 d3
  have gx := mean xs hx
  have gy := mean ys hy
  have rows : ∀ i, i < 2 → Ap (wg.rs.sv 2 xs [B, B'] i) (0 + r * gz xs (i * 2 + 0) + (1 - r) * gz xs (i * 2 + 1)) 216 := fun i hi => by
    obtain ⟨a1, a2, a3⟩ := term1 (by omega) ar r0 r1 (hx (i * 2 + 0) (by omega))
    obtain ⟨b1, b2, b3⟩ := term1 (by omega) ar' s0 s1 (hx (i * 2 + 1) (by omega))
    exact sum2 a1 b1 a2 a3 b2 b3
  have cols : ∀ k, k < 2 → Ap (wg.cs.sv 2 2 ys [A, A'] k) (0 + p * gz ys (0 * 2 + k) + (1 - p) * gz ys (1 * 2 + k)) 216 := fun k hk => by
    obtain ⟨a1, a2, a3⟩ := term1 (by omega) ap p0 p1 (hy (0 * 2 + k) (by omega))
    obtain ⟨b1, b2, b3⟩ := term1 (by omega) ap' q0 q1 (hy (1 * 2 + k) (by omega))
    exact sum2 a1 b1 a2 a3 b2 b3
  have ch : wg.ch.sp 2 2 xs ys [A, A'] [B, B'] = true := by
    unfold wg.ch.sp
    simp [hv, lp, lp', lr, lr']
  have gok : wg.gok.sp 2 2 xs ys [A, A'] [B, B'] = true := by
    unfold wg.gok.sp
    rw [ch]
    show (true && (flo.fin.sp (wg.g.sv 2 2 xs [A, A'] [B, B']) && flo.fin.sp (wg.g.sv 2 2 ys [A, A'] [B, B']))) = true
    rw [ap_fin gx, ap_fin gy]; rfl
  have ga : wg.ga.sv 2 2 xs ys [A, A'] [B, B'] = wg.g.sv 2 2 xs [A, A'] [B, B'] := by
    unfold wg.ga.sv; rw [gok]; rfl
  have gb : wg.gb.sv 2 2 xs ys [A, A'] [B, B'] = wg.g.sv 2 2 ys [A, A'] [B, B'] := by
    unfold wg.gb.sv; rw [gok]; rfl
  have cz : ((0 : Nat) : Rat) = 0 := rfl
  rw [Rat.intCast_sub] at pe re
  rw [Rat.intCast_add, Rat.intCast_sub, Rat.intCast_sub] at pe re
  have hy2 : p * gz ys 0 + (1 - p) * gz ys 2 = p * gz ys 1 + (1 - p) * gz ys 3 := by grind
  have hx2 : r * gz xs 0 + (1 - r) * gz xs 1 = r * gz xs 2 + (1 - r) * gz xs 3 := by grind
  have FRa : ∀ i ∈ List.range 2, Ap (wg.FR 2 xs [B, B'] (wg.g.sv 2 2 xs [A, A'] [B, B']) i) 0 1153 := fun i hi => by
    rw [List.mem_range] at hi
    have e : (0 + r * gz xs (i * 2 + 0) + (1 - r) * gz xs (i * 2 + 1) : Rat) - (0 + p * r * gz xs 0 + p * (1 - r) * gz xs 1 + (1 - p) * r * gz xs 2 + (1 - p) * (1 - r) * gz xs 3) = 0 := by
      have k1 : (0 + p * r * gz xs 0 + p * (1 - r) * gz xs 1 + (1 - p) * r * gz xs 2 + (1 - p) * (1 - r) * gz xs 3 : Rat) = p * (r * gz xs 0 + (1 - r) * gz xs 1) + (1 - p) * (r * gz xs 2 + (1 - r) * gz xs 3) := by grind
      rw [k1, ← hx2]
      rcases Nat.lt_or_ge i 1 with c | c
      · obtain rfl : i = 0 := by omega
        show (0 + r * gz xs 0 + (1 - r) * gz xs 1 : Rat) - _ = 0
        grind
      · obtain rfl : i = 1 := by omega
        show (0 + r * gz xs 2 + (1 - r) * gz xs 3 : Rat) - _ = 0
        grind
    have := ap_sub 0 (rows i hi) gx (by rw [e, cz]; decide) (by rw [e, cz]; decide) (by omega) (by omega)
    rw [e] at this
    exact this
  have FCa : ∀ k ∈ List.range 2, Ap (wg.FC 2 2 ys [A, A'] (wg.g.sv 2 2 ys [A, A'] [B, B']) k) 0 1153 := fun k hk => by
    rw [List.mem_range] at hk
    have e : (0 + p * gz ys (0 * 2 + k) + (1 - p) * gz ys (1 * 2 + k) : Rat) - (0 + p * r * gz ys 0 + p * (1 - r) * gz ys 1 + (1 - p) * r * gz ys 2 + (1 - p) * (1 - r) * gz ys 3) = 0 := by
      have k1 : (0 + p * r * gz ys 0 + p * (1 - r) * gz ys 1 + (1 - p) * r * gz ys 2 + (1 - p) * (1 - r) * gz ys 3 : Rat) = r * (p * gz ys 0 + (1 - p) * gz ys 2) + (1 - r) * (p * gz ys 1 + (1 - p) * gz ys 3) := by grind
      rw [k1, ← hy2]
      rcases Nat.lt_or_ge k 1 with c | c
      · obtain rfl : k = 0 := by omega
        show (0 + p * gz ys 0 + (1 - p) * gz ys 2 : Rat) - _ = 0
        grind
      · obtain rfl : k = 1 := by omega
        show (0 + p * gz ys 1 + (1 - p) * gz ys 3 : Rat) - _ = 0
        grind
    have := ap_sub 0 (cols k hk) gy (by rw [e, cz]; decide) (by rw [e, cz]; decide) (by omega) (by omega)
    rw [e] at this
    exact this
  have hsp : wg.sp 2 2 xs ys [A, A'] [B, B'] = true := by
    unfold wg.sp
    rw [gok, ga, gb]
    show (true && (wg.fins (wg.FR 2 xs [B, B'] (wg.g.sv 2 2 xs [A, A'] [B, B'])) (List.range 2) && wg.fins (wg.FC 2 2 ys [A, A'] (wg.g.sv 2 2 ys [A, A'] [B, B'])) (List.range 2))) = true
    rw [fins_ap FRa, fins_ap FCa]; rfl
  refine ⟨hsp, ?_⟩
  unfold wg.v.sv
  rw [hsp, cond_true, ga, gb]
  exact most_ap (List.range 2) _ FCa (most_ap (List.range 2) 0 FRa ⟨_, v_zero, by decide, ku0 _⟩)
/-- What the law asks of what would be gained. -/
theorem gain_ok {w : Nat} (h : ∃ z, V w z ∧ 0 ≤ z ∧ z ≤ ((1153 : Nat) : Rat) * u) : (FloatKind.f32.format.order w 0 == some Ordering.lt) = false ∧ (FloatKind.f32.format.order w 981668463 == some Ordering.gt) = false := by
  obtain ⟨z, vz, z0, z1⟩ := h
  obtain ⟨o, ho, h1, _, _⟩ := v_order vz v_zero
  obtain ⟨o', ho', _, _, h3⟩ := v_order vz v_mark
  rw [ho, ho']
  constructor
  · cases o
    · have := h1.1 rfl
      have e : ((0 : Int) : Rat) = 0 := rfl
      grind
    · rfl
    · rfl
  · cases o'
    · rfl
    · rfl
    · have := h3.1 rfl
      have := mark (K := 1153) (by omega)
      grind
/-! ### Chances that are nought or one -/
/-- Nought or one. -/
def Bi (e : Int) : Prop := e = 0 ∨ e = 1
theorem bi_mul {e a : Int} {N : Int} (h : Bi e) (hN : 0 ≤ N) (ha : -N ≤ a ∧ a ≤ N) : -N ≤ e * a ∧ e * a ≤ N := by
  rcases h with rfl | rfl <;> omega
theorem bi_bi {e f : Int} (h : Bi e) (g : Bi f) : Bi (e * f) := by
  rcases h with rfl | rfl <;> rcases g with rfl | rfl <;> simp [Bi]
theorem t1 {c : Nat} {e a : Int} (hc : V c e) (he : Bi e) (ha : -14 ≤ a ∧ a ≤ 14) : V (fmul .f32 c (FloatKind.f32.nearest a)) ((e * a : Int) : Rat) ∧ -14 ≤ e * a ∧ e * a ≤ 14 := by
  have b := bi_mul he (by omega) ha
  exact ⟨v_muli hc (v_int (by omega)) (by omega), b⟩
theorem t2 {c d : Nat} {e f a : Int} (hc : V c e) (he : Bi e) (hd : V d f) (hf : Bi f) (ha : -14 ≤ a ∧ a ≤ 14) : V (fmul .f32 (fmul .f32 c d) (FloatKind.f32.nearest a)) ((e * f * a : Int) : Rat) ∧ -14 ≤ e * f * a ∧ e * f * a ≤ 14 := by
  have b := bi_bi he hf
  have b' : -1 ≤ e * f ∧ e * f ≤ 1 := by rcases b with b | b <;> omega
  exact t1 (v_muli hc hd (by omega)) b ha
theorem mean_int {l : List Int} {a0 a1 b0 b1 : Nat} {e0 e1 f0 f1 : Int} (hl : Sm l) (v0 : V a0 e0) (v1 : V a1 e1) (w0 : V b0 f0) (w1 : V b1 f1) (h0 : Bi e0) (h1 : Bi e1) (g0 : Bi f0) (g1 : Bi f1) :
    V (wg.g.sv 2 2 l [a0, a1] [b0, b1]) ((0 + e0 * f0 * gz l 0 + e0 * f1 * gz l 1 + e1 * f0 * gz l 2 + e1 * f1 * gz l 3 : Int) : Rat) := by
  obtain ⟨p1, p2, p3⟩ := t2 v0 h0 w0 g0 (hl 0 (by omega))
  obtain ⟨q1, q2, q3⟩ := t2 v0 h0 w1 g1 (hl 1 (by omega))
  obtain ⟨r1, r2, r3⟩ := t2 v1 h1 w0 g0 (hl 2 (by omega))
  obtain ⟨s1, s2, s3⟩ := t2 v1 h1 w1 g1 (hl 3 (by omega))
  exact v_addi (v_addi (v_addi (v_addi v_zero p1 (by omega)) q1 (by omega)) r1 (by omega)) s1 (by omega)
theorem row_int {l : List Int} {b0 b1 : Nat} {f0 f1 : Int} (hl : Sm l) (w0 : V b0 f0) (w1 : V b1 f1) (g0 : Bi f0) (g1 : Bi f1) {i : Nat} (hi : i < 2) :
    V (wg.rs.sv 2 l [b0, b1] i) ((0 + f0 * gz l (i * 2 + 0) + f1 * gz l (i * 2 + 1) : Int) : Rat) := by
  obtain ⟨p1, p2, p3⟩ := t1 w0 g0 (hl (i * 2 + 0) (by omega))
  obtain ⟨q1, q2, q3⟩ := t1 w1 g1 (hl (i * 2 + 1) (by omega))
  exact v_addi (v_addi v_zero p1 (by omega)) q1 (by omega)
theorem col_int {l : List Int} {a0 a1 : Nat} {e0 e1 : Int} (hl : Sm l) (v0 : V a0 e0) (v1 : V a1 e1) (h0 : Bi e0) (h1 : Bi e1) {k : Nat} (hk : k < 2) :
    V (wg.cs.sv 2 2 l [a0, a1] k) ((0 + e0 * gz l (0 * 2 + k) + e1 * gz l (1 * 2 + k) : Int) : Rat) := by
  obtain ⟨p1, p2, p3⟩ := t1 v0 h0 (hl (0 * 2 + k) (by omega))
  obtain ⟨q1, q2, q3⟩ := t1 v1 h1 (hl (1 * 2 + k) (by omega))
  exact v_addi (v_addi v_zero p1 (by omega)) q1 (by omega)
theorem most_int {F : Nat → Nat} : ∀ (l : List Nat), (∀ i ∈ l, ∃ n : Int, V (F i) n ∧ n ≤ 0) → wg.most F l 0 = 0
  | [], _ => rfl
  | i :: l, hF => by
    rw [wg.most]
    obtain ⟨n, vn, hn⟩ := hF i List.mem_cons_self
    obtain ⟨o, ho, _, _, h3⟩ := v_order vn v_zero
    have : wg.gt.sp (F i) 0 = false := by
      unfold wg.gt.sp
      rw [ho]
      cases o
      · rfl
      · rfl
      · have h := Rat.intCast_lt_intCast.1 (h3.1 rfl)
        omega
    rw [this, cond_false]
    exact most_int l fun j hj => hF j (List.mem_cons_of_mem _ hj)
theorem fins_int {F : Nat → Nat} {l : List Nat} (h : ∀ i ∈ l, ∃ n : Int, V (F i) n ∧ n ≤ 0) : wg.fins F l = true := by
  unfold wg.fins
  rw [List.all_eq_true]
  exact fun i hi => by obtain ⟨n, v, _⟩ := h i hi; exact v_fin v
/-- The word of a chance that is nought or one. -/
def W (b : Bool) : Nat := bif b then 1065353216 else 0
def wi (b : Bool) : Int := bif b then 1 else 0
theorem v_W (b : Bool) : V (W b) (wi b) := by cases b with
  | false => exact v_zero
  | true => exact v_one
theorem bi_W (b : Bool) : Bi (wi b) := by cases b with
  | false => exact .inl rfl
  | true => exact .inr rfl
theorem least_W (b : Bool) : flo.least.sp (W b) = true := by cases b with
  | false => exact v_least v_zero (by decide)
  | true => exact v_least v_one (by decide)
/-- A pair of choices that nobody leaves, as chances. -/
theorem pure {xs ys : List Int} (hx : Sm xs) (hy : Sm ys) (hv : gm.sp 2 2 xs ys = true) {s t : Bool} (h : an.PE 2 2 xs ys s.toNat t.toNat) :
    wg.gok.sp 2 2 xs ys [W (!s), W s] [W (!t), W t] = true ∧ wg.sp 2 2 xs ys [W (!s), W s] [W (!t), W t] = true ∧ wg.v.sv 2 2 xs ys [W (!s), W s] [W (!t), W t] = 0 ∧
    V (wg.ga.sv 2 2 xs ys [W (!s), W s] [W (!t), W t]) (gz xs (s.toNat * 2 + t.toNat)) ∧ V (wg.gb.sv 2 2 xs ys [W (!s), W s] [W (!t), W t]) (gz ys (s.toNat * 2 + t.toNat)) := by
  have mean : ∀ l, Sm l → V (wg.g.sv 2 2 l [W (!s), W s] [W (!t), W t]) (gz l (s.toNat * 2 + t.toNat)) := fun l hl => by
    have := mean_int hl (v_W (!s)) (v_W s) (v_W (!t)) (v_W t) (bi_W _) (bi_W _) (bi_W _) (bi_W _)
    have e : (0 + wi (!s) * wi (!t) * gz l 0 + wi (!s) * wi t * gz l 1 + wi s * wi (!t) * gz l 2 + wi s * wi t * gz l 3) = gz l (s.toNat * 2 + t.toNat) := by
      cases s <;> cases t <;> simp [wi]
    rwa [e] at this
  have gx := mean xs hx
  have gy := mean ys hy
  have hb : ∀ i, i < 2 → s.toNat < 2 ∧ t.toNat < 2 := fun _ _ => by cases s <;> cases t <;> decide
  obtain ⟨hs, ht⟩ := hb 0 (by omega)
  have ch : wg.ch.sp 2 2 xs ys [W (!s), W s] [W (!t), W t] = true := by
    unfold wg.ch.sp
    simp [hv, least_W]
  have gok : wg.gok.sp 2 2 xs ys [W (!s), W s] [W (!t), W t] = true := by
    unfold wg.gok.sp
    rw [ch]
    show (true && (flo.fin.sp (wg.g.sv 2 2 xs [W (!s), W s] [W (!t), W t]) && flo.fin.sp (wg.g.sv 2 2 ys [W (!s), W s] [W (!t), W t]))) = true
    rw [v_fin gx, v_fin gy]; rfl
  have ga : wg.ga.sv 2 2 xs ys [W (!s), W s] [W (!t), W t] = wg.g.sv 2 2 xs [W (!s), W s] [W (!t), W t] := by
    unfold wg.ga.sv; rw [gok]; rfl
  have gb : wg.gb.sv 2 2 xs ys [W (!s), W s] [W (!t), W t] = wg.g.sv 2 2 ys [W (!s), W s] [W (!t), W t] := by
    unfold wg.gb.sv; rw [gok]; rfl
  have FRa : ∀ i ∈ List.range 2, ∃ n : Int, V (wg.FR 2 xs [W (!t), W t] (wg.g.sv 2 2 xs [W (!s), W s] [W (!t), W t]) i) n ∧ n ≤ 0 := fun i hi => by
    rw [List.mem_range] at hi
    have hr := row_int hx (v_W (!t)) (v_W t) (bi_W _) (bi_W _) hi
    have e : (0 + wi (!t) * gz xs (i * 2 + 0) + wi t * gz xs (i * 2 + 1)) = gz xs (i * 2 + t.toNat) := by
      cases t <;> simp [wi]
    rw [e] at hr
    have a := hx (i * 2 + t.toNat) (by omega)
    have b := hx (s.toNat * 2 + t.toNat) (by omega)
    have c := h.1 i hi
    exact ⟨_, v_subi hr gx (by omega), by omega⟩
  have FCa : ∀ k ∈ List.range 2, ∃ n : Int, V (wg.FC 2 2 ys [W (!s), W s] (wg.g.sv 2 2 ys [W (!s), W s] [W (!t), W t]) k) n ∧ n ≤ 0 := fun k hk => by
    rw [List.mem_range] at hk
    have hr := col_int hy (v_W (!s)) (v_W s) (bi_W _) (bi_W _) hk
    have e : (0 + wi (!s) * gz ys (0 * 2 + k) + wi s * gz ys (1 * 2 + k)) = gz ys (s.toNat * 2 + k) := by
      cases s <;> simp [wi]
    rw [e] at hr
    have a := hy (s.toNat * 2 + k) (by omega)
    have b := hy (s.toNat * 2 + t.toNat) (by omega)
    have c := h.2 k hk
    exact ⟨_, v_subi hr gy (by omega), by omega⟩
  have hsp : wg.sp 2 2 xs ys [W (!s), W s] [W (!t), W t] = true := by
    unfold wg.sp
    rw [gok, ga, gb]
    show (true && (wg.fins (wg.FR 2 xs [W (!t), W t] (wg.g.sv 2 2 xs [W (!s), W s] [W (!t), W t])) (List.range 2) && wg.fins (wg.FC 2 2 ys [W (!s), W s] (wg.g.sv 2 2 ys [W (!s), W s] [W (!t), W t])) (List.range 2))) = true
    rw [fins_int FRa, fins_int FCa]; rfl
  refine ⟨gok, hsp, ?_, by rw [ga]; exact gx, by rw [gb]; exact gy⟩
  unfold wg.v.sv
  rw [hsp, cond_true, ga, gb]
  show wg.most (wg.FC 2 2 ys [W (!s), W s] (wg.g.sv 2 2 ys [W (!s), W s] [W (!t), W t])) (List.range 2) (wg.most (wg.FR 2 xs [W (!t), W t] (wg.g.sv 2 2 xs [W (!s), W s] [W (!t), W t])) (List.range 2) 0) = 0
  rw [most_int _ FRa, most_int _ FCa]
theorem same {w : Nat} {a : Int} (h : V w a) (ha : -14 ≤ a ∧ a ≤ 14) : (FloatKind.f32.format.order w (FloatKind.f32.nearest a) == some Ordering.eq) = true := by
  obtain ⟨o, ho, _, h2, _⟩ := v_order h (v_int (n := a) (by omega))
  rw [ho, h2.2 rfl]
  rfl
end mix

end Go.Proofs.Ytgblgofmdhekiaa.Ab
