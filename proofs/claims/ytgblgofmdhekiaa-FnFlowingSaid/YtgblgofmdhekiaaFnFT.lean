/-
  Functions: even flows and their sum.
-/
import Derived.Test.YtgblgofmdhekiaaFnFS
namespace Go.Proofs.Ytgblgofmdhekiaa.Ab
open Go
set_option linter.unusedVariables false
set_option linter.unusedSimpArgs false
set_option maxRecDepth 100000

namespace flw
open fp
theorem rlt (a b : Rat) : a < b ∨ b ≤ a := by
  by_cases c : a < b
  · exact .inl c
  · exact .inr (Rat.not_lt.1 c)
/-- A flow by the level: nought where the road is no cheaper, or what makes it as dear. -/
def Fl (z sl ba F : Rat) : Prop := 0 ≤ F ∧ ((F = 0 ∧ z ≤ ba) ∨ (ba ≤ z ∧ sl * F ≤ (z - ba) + (4 * u * z + u / 100000) ∧ z - ba ≤ sl * F + (4 * u * z + u / 100000)))
section
variable {az ys : List Nat} {n : Nat} {s b r : Nat → Rat} {R : Nat}
theorem Rd.v_val (h : Rd az ys n s b r R) {l : Nat} {z : Rat} (vz : V l z) (z0 : 0 ≤ z) (z1 : z ≤ 1000) {i : Nat} (hi : i < n) : ∃ F, V (ev.v.sv az ys l i) F ∧ Fl z (s i) (b i) F := by
  obtain ⟨s0, s4, s1, b0, r0⟩ := h.s0 hi
  have b1 := h.b1 i hi
  have hrs := h.rs i hi
  have hu := u_pos
  have t2 := tiny2
  have tp := tw_pos Ieee.single.leastPlace
  have hB : (2000 : Rat) ≤ tw 100 := big (n := 2000) (by omega)
  generalize hd : z - b i = d at *
  -- the difference
  obtain ⟨w1, y, e1, vy, y1, y2, yw⟩ := sub_val rm_single vz (h.vb i hi) (B := if 0 ≤ d then d else -d) (by rw [hd]; split <;> grind) (by rw [hd]; split <;> grind) (by split <;> grind)
  rw [hd] at y1 y2 yw
  have sgn : (0 ≤ d → 0 ≤ y) ∧ (d ≤ 0 → y ≤ 0) := by
    have hw := yw (by rw [top24]; grind) (by rw [top24]; grind) 0
    have c0 : ((0 : Int) : Rat) = 0 := rfl
    rw [c0] at hw
    exact ⟨hw.2, hw.1⟩
  -- the quotient
  have hsn : s i ≠ 0 := fun e => by rw [e] at s0; exact absurd s0 (by decide)
  have hyb : -2000 ≤ y ∧ y ≤ 2000 := by
    rw [frac] at y1 y2
    have u1 := u_small
    rcases rlt d 0 with c | c
    · rw [if_neg (by grind)] at y1 y2
      have := Rat.mul_le_mul_of_nonneg_right u1 (show 0 ≤ -d by grind)
      constructor <;> grind
    · rw [if_pos c] at y1 y2
      have := Rat.mul_le_mul_of_nonneg_right u1 c
      constructor <;> grind
  have hq : (y * r i) * s i = y := by rw [Rat.mul_assoc, hrs, Rat.mul_one]
  have r4 : r i ≤ 4 := Rat.le_trans (h.r1 i hi) h.R4'
  obtain ⟨q1, q2⟩ := mul_abs (p := y) (q := r i) (P := 2000) (Q := 4) (by decide) (by decide) hyb.1 hyb.2 (by grind) r4
  have hB2 : (16000 : Rat) ≤ tw 100 := big (n := 16000) (by omega)
  obtain ⟨w, x, e2, vx, x1, x2, _, x3, x4⟩ := div_val rm_single vy (h.vs i hi) hsn hq (B := if 0 ≤ y * r i then y * r i else -(y * r i)) (by split <;> grind) (by split <;> grind) (by split <;> grind)
  have ew : ev.x.sv az ys l i = w := by
    unfold ev.x.sv
    have : fsub .f32 l (gn ys i) = w1 := by show (Ieee.single.sub l (gn ys i)).getD (qnan .f32) = w1; rw [e1]; rfl
    rw [this]
    show (Ieee.single.div w1 (gn az i)).getD (qnan .f32) = w
    rw [e2]; rfl
  have c0 : ((0 : Int) : Rat) = 0 := rfl
  obtain ⟨o, ho, h1, _, _⟩ := v_order vx v_zero
  rw [c0] at h1
  have uz := Rat.mul_nonneg (Rat.le_of_lt hu) z0
  rcases rlt d 0 with c | c
  · -- dearer
    have ya := sgn.2 (Rat.le_of_lt c)
    have ym : y * r i ≤ 0 := by
      have := Rat.mul_nonneg (show 0 ≤ -y by grind) (Rat.le_of_lt r0)
      grind
    have xa := x4 ym
    refine ⟨0, ?_, Rat.le_refl, .inl ⟨rfl, by grind⟩⟩
    unfold ev.v.sv ev.neg.sp
    rw [ew, ho]
    cases o
    · exact v_zero
    · have : x = 0 := by
        rcases rlt x 0 with g | g
        · have := h1.2 g; cases this
        · grind
      rw [this] at vx
      exact vx
    · have : x = 0 := by
        rcases rlt x 0 with g | g
        · have := h1.2 g; cases this
        · grind
      rw [this] at vx
      exact vx
  · -- cheaper
    have ya := sgn.1 c
    have ym : 0 ≤ y * r i := Rat.mul_nonneg ya (Rat.le_of_lt r0)
    have xa := x3 ym
    refine ⟨x, ?_, xa, .inr ⟨by grind, ?_⟩⟩
    · unfold ev.v.sv ev.neg.sp
      rw [ew, ho]
      cases o
      · have := h1.1 rfl; grind
      · exact vx
      · exact vx
    · rw [if_pos c] at y1 y2
      rw [if_pos ym] at x1 x2
      rw [frac] at y1 y2 x1 x2
      have m1 := Rat.mul_le_mul_of_nonneg_right x1 (Rat.le_of_lt s0)
      have m2 := Rat.mul_le_mul_of_nonneg_right x2 (Rat.le_of_lt s0)
      have e3 : y * r i * u * s i = y * u := by rw [show y * r i * u * s i = (y * r i * s i) * u by grind, hq]
      have u1 := Rat.mul_le_mul_of_nonneg_right u_small c
      have du := Rat.mul_nonneg c (Rat.le_of_lt hu)
      have dz := Rat.mul_le_mul_of_nonneg_right (show d ≤ z by grind) (Rat.le_of_lt hu)
      have yu := Rat.mul_le_mul_of_nonneg_right (show y ≤ d * 2 + u by grind) (Rat.le_of_lt hu)
      have uu := Rat.mul_le_mul_of_nonneg_right u_small (Rat.le_of_lt hu)
      have ts := Rat.mul_le_mul_of_nonneg_left s4 (Rat.le_of_lt tp)
      generalize tw Ieee.single.leastPlace = ti at *
      have yu2 : y * u ≤ d * u * (11 / 10) + u * u := by
        have : y ≤ d * (11 / 10) + u := by grind
        have := Rat.mul_le_mul_of_nonneg_right this (Rat.le_of_lt hu)
        grind
      have f1 : 2 * (s i * x) ≤ 2 * y + (4 * (y * u) + ti * 4) := by grind
      have f2 : 2 * y ≤ 2 * (s i * x) + (4 * (y * u) + ti * 4) := by grind
      constructor
      · grind
      · grind
theorem fill_miss (az ys : List Nat) (os : List Int) (l : Nat) {i : Nat} : ∀ (d t : Nat) (out : List Nat), i < out.length → (∀ t', t ≤ t' → t' < t + d → (gz os t').toNat ≠ i) → gn (ev.fill az ys os l d t out) i = gn out i
  | 0, t, out, _, _ => rfl
  | d + 1, t, out, hi, h => by
    simp only [ev.fill]
    rw [fill_miss az ys os l d (t + 1) _ (by simpa using hi) fun q g1 g2 => h q (by omega) (by omega)]
    rw [gn_eq (by simpa using hi), List.getElem_set_ne (h t (Nat.le_refl _) (by omega)), ← gn_eq]
theorem fill_hit (az ys : List Nat) (os : List Int) (l : Nat) {i : Nat} : ∀ (d t : Nat) (out : List Nat), i < out.length → (∃ t', t ≤ t' ∧ t' < t + d ∧ (gz os t').toNat = i) → gn (ev.fill az ys os l d t out) i = ev.v.sv az ys l i
  | 0, t, out, _, ⟨t', h1, h2, _⟩ => by omega
  | d + 1, t, out, hi, ⟨t', h1, h2, h3⟩ => by
    simp only [ev.fill]
    by_cases c : ∃ t', t + 1 ≤ t' ∧ t' < t + 1 + d ∧ (gz os t').toNat = i
    · exact fill_hit az ys os l d (t + 1) _ (by simpa using hi) c
    · have : t' = t := by
        rcases Nat.lt_or_ge t t' with g | g
        · exact absurd ⟨t', by omega, by omega, h3⟩ c
        · omega
      subst this
      rw [fill_miss az ys os l d (t' + 1) _ (by simpa using hi) fun q g1 g2 g3 => c ⟨q, g1, g2, g3⟩]
      rw [h3, gn_eq (by simpa using hi), List.getElem_set_self]
/-- The flows: words, what they stand for, and the level. -/
structure Ev (az ys : List Nat) (n : Nat) (s b : Nat → Rat) (T K : Rat) (out : List Nat) (lw : Nat) (z : Rat) (F : Nat → Rat) : Prop where
  len : out.length = n
  vz : V lw z
  z0 : 0 ≤ z
  z1 : z ≤ 4 * T + 5
  vF : ∀ i, i < n → V (gn out i) (F i)
  fl : ∀ i, i < n → Fl z (s i) (b i) (F i)
  t1 : sm F n ≤ T + K * u
  t2 : T ≤ sm F n + K * u
theorem Rd.even (h : Rd az ys n s b r R) {Tw : Nat} {T : Rat} (hT : Tt Tw T) : ∃ z F, Ev az ys n s b T (40 * (T + 20 * R) + 1) (ev.o.sv az ys Tw) (ev.l.sv az ys Tw) z F := by
  have l := h.ly
  have zz : Rl 0 0 0 := Rl.of v_zero ⟨.inl rfl, by decide⟩
  obtain ⟨z, L, hL⟩ := h.lev_ok hT n 0 0 0 0 (by omega) (rl_mono zz (by omega)) (rl_mono zz (by omega)) (.inl rfl)
  have T0 := hT.nonneg
  have T1 := hT.t1
  have hu := u_pos
  have u1 := u_small
  have n5 := h.n5
  have Rn : (0 : Rat) ≤ (R : Rat) := Rat.natCast_nonneg
  have R4 := h.R4'
  generalize hm : (ev.lev az ys (ev.os ys) Tw n 0 0 0 0).1 = m at hL
  have el : ev.l.sv az ys Tw = (ev.lev az ys (ev.os ys) Tw n 0 0 0 0).2 := by unfold ev.l.sv; rw [l]
  have eu : ev.u az ys Tw = m := by unfold ev.u; rw [l, hm]
  rw [← el] at hL
  obtain ⟨hp, m1, mn, hhi⟩ := hL
  obtain ⟨A1, A0⟩ := h.A_in mn
  have A0 := A0 m1
  obtain ⟨B0, B1, B2, B3⟩ := h.B_in mn
  have Ln := hp.Lnn
  have hAp : 0 < A ys r m := by grind
  have cm : (m : Rat) ≤ 5 := Rat.natCast_le_natCast.2 (show m ≤ 5 by omega)
  have cm0 : (0 : Rat) ≤ (m : Rat) := Rat.natCast_nonneg
  have Lle : L ≤ 4 * T + 4 := by
    rcases rlt (4 * T + 4) L with g | g
    · have k1 := Rat.mul_lt_mul_of_pos_right g hAp
      rw [hp.eq] at k1
      have k2 := Rat.mul_le_mul_of_nonneg_left A0 T0
      grind
    · exact g
  have kL := Rat.mul_le_mul_of_nonneg_right u1 Ln
  have z0 : 0 ≤ z := by have := hp.z2; grind
  have zL : z ≤ L * (11 / 10) := by have := hp.z1; grind
  have z1 : z ≤ 4 * T + 5 := by have := hp.z1; grind
  -- the flows
  have ex : ∀ i, i < n → ∃ F, V (gn (ev.o.sv az ys Tw) i) F ∧ Fl z (s i) (b i) F ∧ ((∀ t, t < m → ix ys t ≠ i) → F = 0) := fun i hi => by
    have la := h.la
    by_cases c : ∃ t, 0 ≤ t ∧ t < 0 + m ∧ (gz (ev.os ys) t).toNat = i
    · obtain ⟨F, v, f⟩ := h.v_val hp.v z0 (by grind) hi
      refine ⟨F, ?_, f, fun hno => ?_⟩
      · unfold ev.o.sv
        rw [eu, fill_hit az ys (ev.os ys) _ m 0 _ (by simp; omega) c]
        exact v
      · obtain ⟨t, _, ht, e⟩ := c
        exact absurd e (hno t (by omega))
    · have hno : ∀ t, t < m → ix ys t ≠ i := fun t ht e => c ⟨t, by omega, by omega, e⟩
      have hg : gn (ev.o.sv az ys Tw) i = 0 := by
        unfold ev.o.sv
        rw [eu, fill_miss az ys (ev.os ys) _ m 0 _ (by simp; omega) fun t _ ht => hno t (by omega)]
        rw [gn_eq (by simp; omega)]; simp
      have hb : z ≤ b i := by
        -- it is one of the others
        have key := h.perm fun j => if j = i then 1 else 0
        by_cases d : ∃ t, t < n ∧ ix ys t = i
        · obtain ⟨t, ht, e⟩ := d
          rcases Nat.lt_or_ge t m with g | g
          · exact absurd e (hno t g)
          · rw [← e]; exact hhi t g ht
        · exfalso
          have e0 : sm (fun t => if ix ys t = i then (1 : Rat) else 0) n = sm (fun _ => 0) n := sm_congr n fun t ht => if_neg fun e => d ⟨t, ht, e⟩
          have e1 := sm_ge (f := fun j => if j = i then (1 : Rat) else 0) (n := n) (i := i) (fun j _ => by split <;> decide) hi
          rw [← key, e0, sm_const] at e1
          simp only [if_true] at e1
          grind
      refine ⟨0, by rw [hg]; exact v_zero, ⟨Rat.le_refl, .inl ⟨rfl, hb⟩⟩, fun _ => rfl⟩
  obtain ⟨F, hF⟩ : ∃ F : Nat → Rat, ∀ i, i < n → V (gn (ev.o.sv az ys Tw) i) (F i) ∧ Fl z (s i) (b i) (F i) ∧ ((∀ t, t < m → ix ys t ≠ i) → F i = 0) :=
    ⟨fun i => if hi : i < n then (ex i hi).choose else 0, fun i hi => by simp only [dif_pos hi]; exact (ex i hi).choose_spec⟩
  -- their sum
  have tail : ∀ k, m ≤ k → k ≤ n → sm (fun t => F (ix ys t)) k = sm (fun t => F (ix ys t)) m := fun k h1 h2 => by
    induction k with
    | zero => obtain rfl : m = 0 := by omega
              rfl
    | succ k ih =>
      rcases Nat.lt_or_ge k m with c | c
      · obtain rfl : m = k + 1 := by omega
        rfl
      · rw [sm, ih c (by omega)]
        have hx := h.ix_lt (show k < n by omega)
        have := (hF _ hx).2.2 fun t ht e => by
          have := h.inj (show t < n by omega) (show k < n by omega) e
          omega
        rw [this]; grind
  have hsum : sm F n = sm (fun t => F (ix ys t)) m := (h.perm F).symm.trans (tail n mn (Nat.le_refl _))
  have hT2 : sm (fun t => L * r (ix ys t) - b (ix ys t) * r (ix ys t)) m = T := by
    have e : sm (fun t => L * r (ix ys t) + (-1) * (b (ix ys t) * r (ix ys t))) m = L * A ys r m + (-1) * B ys b r m := by
      rw [sm_add, sm_mul, sm_mul]; rfl
    rw [sm_congr m (g := fun t => L * r (ix ys t) + (-1) * (b (ix ys t) * r (ix ys t))) fun t _ => by grind, e, hp.eq]
    grind
  have uL := Rat.mul_nonneg (Rat.le_of_lt hu) Ln
  have near : ∀ t, t < m → F (ix ys t) ≤ (L * r (ix ys t) - b (ix ys t) * r (ix ys t)) + (36 * u * L + u / 100000) * r (ix ys t) ∧ L * r (ix ys t) - b (ix ys t) * r (ix ys t) ≤ F (ix ys t) + (36 * u * L + u / 100000) * r (ix ys t) := fun t ht => by
    have hx := h.ix_lt (show t < n by omega)
    obtain ⟨s0, s4, s1, b0, r0⟩ := h.s0 hx
    have hrs := h.rs _ hx
    obtain ⟨F0, hf⟩ := (hF _ hx).2.1
    have lo := hp.lo t ht
    have za := hp.z1
    have zb := hp.z2
    have uz : u * z ≤ u * (L * (11 / 10)) := Rat.mul_le_mul_of_nonneg_left zL (Rat.le_of_lt hu)
    generalize F (ix ys t) = f at *
    generalize s (ix ys t) = sl at *
    generalize b (ix ys t) = ba at *
    generalize r (ix ys t) = ri at *
    have e : f = sl * f * ri := by rw [show sl * f * ri = (ri * sl) * f by grind, hrs]; grind
    have k1 : sl * f ≤ (L - ba) + (36 * u * L + u / 100000) := by
      rcases hf with ⟨g1, g2⟩ | ⟨g1, g2, g3⟩
      · rw [g1]; grind
      · grind
    have k2 : L - ba ≤ sl * f + (36 * u * L + u / 100000) := by
      rcases hf with ⟨g1, g2⟩ | ⟨g1, g2, g3⟩
      · rw [g1]; grind
      · grind
    have k3 := Rat.mul_le_mul_of_nonneg_right k1 (Rat.le_of_lt r0)
    have k4 := Rat.mul_le_mul_of_nonneg_right k2 (Rat.le_of_lt r0)
    constructor <;> grind
  have eE : sm (fun t => (36 * u * L + u / 100000) * r (ix ys t)) m = (36 * u * L + u / 100000) * A ys r m := sm_mul _ m
  have A20 : A ys r m ≤ 20 := by
    have := mul_abs (p := (m : Rat)) (q := (R : Rat)) (P := 5) (Q := 4) (by decide) (by decide) (by grind) cm (by grind) R4
    grind
  have B20 : B ys b r m ≤ 20 * R := by
    have := Rat.mul_le_mul_of_nonneg_right cm (show (0 : Rat) ≤ 4 * R by grind)
    grind
  have uTB := Rat.mul_nonneg (Rat.le_of_lt hu) (show 0 ≤ T + B ys b r m by grind)
  have Kb : (36 * u * L + u / 100000) * A ys r m ≤ (40 * (T + 20 * R) + 1) * u := by
    have e : (36 * u * L + u / 100000) * A ys r m = 36 * u * (L * A ys r m) + u / 100000 * A ys r m := by grind
    rw [e, hp.eq]
    have c1 := Rat.mul_le_mul_of_nonneg_left A20 (Rat.le_of_lt hu)
    have c2 := Rat.mul_le_mul_of_nonneg_left B20 (Rat.le_of_lt hu)
    have c3 := Rat.mul_nonneg (Rat.le_of_lt hu) T0
    have c4 := Rat.mul_nonneg (Rat.le_of_lt hu) Rn
    grind
  refine ⟨z, F, ⟨by rw [ev.o_length, h.la], hp.v, z0, z1, fun i hi => (hF i hi).1, fun i hi => (hF i hi).2.1, ?_, ?_⟩⟩
  · rw [hsum]
    have := sm_le m fun t ht => (near t ht).1
    rw [sm_add, hT2, eE] at this
    grind
  · rw [hsum]
    have := sm_le m fun t ht => (near t ht).2
    rw [sm_add, hT2, eE] at this
    grind
end
end flw

end Go.Proofs.Ytgblgofmdhekiaa.Ab
