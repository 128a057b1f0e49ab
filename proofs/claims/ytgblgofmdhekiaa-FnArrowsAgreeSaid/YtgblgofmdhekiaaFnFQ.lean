/-
  Functions: how far double floats are from what they stand for.
-/
import Derived.Test.YtgblgofmdhekiaaFnFP
namespace Go.Proofs.Ytgblgofmdhekiaa.Ab
open Go
set_option linter.unusedVariables false
set_option linter.unusedSimpArgs false
set_option maxRecDepth 100000

namespace fp
open Ieee
theorem near_exact {f : Format} (R : Rm f) (neg : Bool) {m : Nat} {p : Int} (hb : (m : Rat) * tw p ≤ tw 100) (hL : m ≠ 0 → lst f m p ≤ p) : Vl f (f.nearest neg m p) (sg neg * ((m : Rat) * tw p)) := by
  by_cases hm : m = 0
  · subst hm
    obtain ⟨x, h1, h2, h3, h4, h5⟩ := write_val R neg (m := 0) (p := p) hb
    have e : ((0 : Nat) : Rat) * tw p = 0 := by have : ((0 : Nat) : Rat) = 0 := rfl; rw [this, Rat.zero_mul]
    rw [e] at h5 ⊢
    obtain ⟨a, _⟩ := h5 (tw_pos _) 0
    have a' := a (by decide)
    have c0 : ((0 : Nat) : Rat) = 0 := rfl
    rw [c0] at a'
    have : x = 0 := by grind
    rw [this] at h1
    exact h1
  · have hl := log2_le hm
    have hfit : p + m.log2 ≤ 100 := by
      rw [← tw_le_iff, tw_add, tw_nat]
      have h1 : ((2 ^ m.log2 : Nat) : Rat) ≤ (m : Rat) := Rat.natCast_le_natCast.2 hl
      have h2 := Rat.mul_le_mul_of_nonneg_right h1 (Rat.le_of_lt (tw_pos p))
      rw [Rat.mul_comm (tw p)]
      exact Rat.le_trans h2 hb
    obtain ⟨M, j, h1, h2⟩ := near_read (f := f) (neg := neg) (p := p) hm (by have := R.top; omega) R.lo R.hs
    have hL1 := hL hm
    have hL0 : f.leastPlace ≤ lst f m p := by unfold lst; omega
    have ek : kep f neg m p = m * 2 ^ (p - lst f m p).toNat := by
      unfold kep
      rw [show (lst f m p - p).toNat = 0 by omega, shl]
      have := cut_exact neg (m * 2 ^ (p - lst f m p).toNat) 0
      simpa using this
    refine ⟨neg, M, _, h1, by omega, ?_⟩
    have e1 : (M : Rat) * tw (f.leastPlace + j) = (m : Rat) * tw p := by
      rw [← shift_cast M (p := f.leastPlace + j) (b := f.leastPlace) (by omega), ← shift_cast m (p := p) (b := f.leastPlace) (by omega)]
      rw [show (f.leastPlace + j - f.leastPlace).toNat = j by omega, h2, ek, Nat.mul_assoc, ← Nat.pow_add]
      congr 4
      omega
    rw [e1]
theorem read_small {f : Format} {w : Nat} {neg : Bool} {m : Nat} {e : Int} (h : f.read w = .number neg m e) : m < 2 * f.binade := by
  have hb : 0 < f.binade := Nat.two_pow_pos _
  unfold Format.read at h
  simp only [] at h
  split at h
  · simp only [Datum.number.injEq] at h
    omega
  · split at h
    · simp only [Datum.number.injEq] at h
      have := Nat.mod_lt (w % f.signWeight) hb
      omega
    · split at h <;> cases h
/-! ### Double words -/
abbrev D (w : Nat) (x : Rat) : Prop := Vl double w x
theorem fracD : tw (-(double.fractionBits : Int)) ≤ u := tw_mono (by decide)
theorem tinyD : tw double.leastPlace ≤ u := tw_mono (by decide)
def ApD (w : Nat) (x : Rat) (k : Nat) : Prop := ∃ z, D w z ∧ z ≤ x + (k : Rat) * u ∧ x ≤ z + (k : Rat) * u
theorem ApD.of {w : Nat} {x : Rat} (h : D w x) : ApD w x 0 := ⟨x, h, by simp; grind, by simp; grind⟩
theorem ApD.mono {w : Nat} {x : Rat} {k l : Nat} (h : ApD w x k) (hk : k ≤ l) : ApD w x l := by
  obtain ⟨z, v, h1, h2⟩ := h
  have := Rat.mul_le_mul_of_nonneg_right (Rat.natCast_le_natCast.2 hk) (Rat.le_of_lt u_pos)
  exact ⟨z, v, by grind, by grind⟩
theorem apd_add {a b : Nat} {x y : Rat} {i j : Nat} (N : Nat) (ha : ApD a x i) (hb : ApD b y j) (h1 : -(N : Rat) ≤ x + y) (h2 : x + y ≤ N) (hij : i + j ≤ 8388608) (hN : N ≤ 1000000) : ApD (fadd .f64 a b) (x + y) (i + j + N + 1) := by
  obtain ⟨p, vp, p1, p2⟩ := ha
  obtain ⟨q, vq, q1, q2⟩ := hb
  have k1 := ku hij
  have t := tinyD
  have hu := u_pos
  have c1 : ((1 : Nat) : Rat) = 1 := rfl
  have i0 := ku0 i
  have j0 := ku0 j
  rw [Rat.natCast_add, Rat.add_mul] at k1
  have hB := big (n := N + 1) (by omega)
  rw [Rat.natCast_add, c1] at hB
  obtain ⟨w, z, e, vz, z1, z2, _⟩ := add_val rm_double vp vq (B := (N : Rat) + 1) (by grind) (by grind) hB
  have hfr := Rat.mul_le_mul_of_nonneg_left fracD (show (0 : Rat) ≤ (N : Rat) + 1 by have : (0 : Rat) ≤ (N : Rat) := Rat.natCast_nonneg; grind)
  refine ⟨z, ?_, ?_, ?_⟩
  · show Vl double ((double.add a b).getD (qnan .f64)) z
    rw [e]; exact vz
  · rw [Rat.natCast_add, Rat.natCast_add, Rat.natCast_add, c1, Rat.add_mul, Rat.add_mul, Rat.add_mul]
    have := ku0 N
    grind
  · rw [Rat.natCast_add, Rat.natCast_add, Rat.natCast_add, c1, Rat.add_mul, Rat.add_mul, Rat.add_mul]
    have := ku0 N
    grind
theorem apd_sub {a b : Nat} {x y : Rat} {i j : Nat} (N : Nat) (ha : ApD a x i) (hb : ApD b y j) (h1 : -(N : Rat) ≤ x - y) (h2 : x - y ≤ N) (hij : i + j ≤ 8388608) (hN : N ≤ 1000000) : ApD (fsub .f64 a b) (x - y) (i + j + N + 1) := by
  obtain ⟨p, vp, p1, p2⟩ := ha
  obtain ⟨q, vq, q1, q2⟩ := hb
  have k1 := ku hij
  have t := tinyD
  have hu := u_pos
  have c1 : ((1 : Nat) : Rat) = 1 := rfl
  have i0 := ku0 i
  have j0 := ku0 j
  rw [Rat.natCast_add, Rat.add_mul] at k1
  have hB := big (n := N + 1) (by omega)
  rw [Rat.natCast_add, c1] at hB
  obtain ⟨w, z, e, vz, z1, z2, _⟩ := sub_val rm_double vp vq (B := (N : Rat) + 1) (by grind) (by grind) hB
  have hfr := Rat.mul_le_mul_of_nonneg_left fracD (show (0 : Rat) ≤ (N : Rat) + 1 by have : (0 : Rat) ≤ (N : Rat) := Rat.natCast_nonneg; grind)
  refine ⟨z, ?_, ?_, ?_⟩
  · show Vl double ((double.sub a b).getD (qnan .f64)) z
    rw [e]; exact vz
  · rw [Rat.natCast_add, Rat.natCast_add, Rat.natCast_add, c1, Rat.add_mul, Rat.add_mul, Rat.add_mul]
    have := ku0 N
    grind
  · rw [Rat.natCast_add, Rat.natCast_add, Rat.natCast_add, c1, Rat.add_mul, Rat.add_mul, Rat.add_mul]
    have := ku0 N
    grind
theorem apd_mul {a b : Nat} {x y : Rat} {i j : Nat} (X Y : Nat) (ha : ApD a x i) (hb : ApD b y j) (h1 : -(X : Rat) ≤ x) (h2 : x ≤ X) (h3 : -(Y : Rat) ≤ y) (h4 : y ≤ Y) (hi : i ≤ 2000) (hj : j ≤ 2000) (hX : X ≤ 1000) (hY : Y ≤ 1000) : ApD (fmul .f64 a b) (x * y) (i * Y + X * j + X * Y + 2) := by
  obtain ⟨p, vp, p1, p2⟩ := ha
  obtain ⟨q, vq, q1, q2⟩ := hb
  have t := tinyD
  have hu := u_pos
  have c1 : ((1 : Nat) : Rat) = 1 := rfl
  have c2 : ((2 : Nat) : Rat) = 2 := rfl
  have i0 := ku0 i
  have j0 := ku0 j
  have X0 : 0 ≤ (X : Rat) := Rat.natCast_nonneg
  have Y0 : 0 ≤ (Y : Rat) := Rat.natCast_nonneg
  have b1 : i * Y ≤ 2000 * 1000 := Nat.mul_le_mul hi hY
  have b2 : X * j ≤ 1000 * 2000 := Nat.mul_le_mul hX hj
  have b3 : X * Y ≤ 1000 * 1000 := Nat.mul_le_mul hX hY
  have b4 : i * j ≤ 2000 * 2000 := Nat.mul_le_mul hi hj
  have k1 := ku (k := i * Y + X * j + 1) (by omega)
  have k2 := ku (k := i * j) (by omega)
  -- the product of the errors
  have k3 : ((i * j : Nat) : Rat) * u * u ≤ 1 * u := Rat.mul_le_mul_of_nonneg_right k2 (Rat.le_of_lt hu)
  rw [Rat.natCast_mul] at k3
  rw [Rat.natCast_add, Rat.natCast_add, Rat.natCast_mul, Rat.natCast_mul, c1, Rat.add_mul, Rat.add_mul] at k1
  obtain ⟨m1, m2⟩ := mul_abs (p := p - x) (q := y) i0 Y0 (by grind) (by grind) h3 h4
  obtain ⟨m3, m4⟩ := mul_abs (p := p - x) (q := q - y) i0 j0 (by grind) (by grind) (by grind) (by grind)
  obtain ⟨m5, m6⟩ := mul_abs (p := x) (q := q - y) X0 j0 h1 h2 (by grind) (by grind)
  obtain ⟨m7, m8⟩ := mul_abs (p := x) (q := y) X0 Y0 h1 h2 h3 h4
  have e0 : p * q = x * y + (p - x) * y + (p - x) * (q - y) + x * (q - y) := by grind
  have hB := big (n := X * Y + 1) (by omega)
  rw [Rat.natCast_add, Rat.natCast_mul, c1] at hB
  have d1 : p * q ≤ x * y + ((i : Rat) * Y * u + X * j * u + u) := by grind
  have d2 : x * y ≤ p * q + ((i : Rat) * Y * u + X * j * u + u) := by grind
  obtain ⟨w, z, e, vz, z1, z2, _⟩ := mul_val rm_double vp vq (B := (X : Rat) * Y + 1) (by grind) (by grind) hB
  have hXY : 0 ≤ (X : Rat) * Y := Rat.mul_nonneg X0 Y0
  have hfr := Rat.mul_le_mul_of_nonneg_left fracD (show (0 : Rat) ≤ (X : Rat) * Y + 1 by grind)
  have XY0 : 0 ≤ (X : Rat) * Y * u := Rat.mul_nonneg (Rat.mul_nonneg X0 Y0) (Rat.le_of_lt hu)
  refine ⟨z, ?_, ?_, ?_⟩
  · show Vl double ((double.mul a b).getD (qnan .f64)) z
    rw [e]; exact vz
  · rw [Rat.natCast_add, Rat.natCast_add, Rat.natCast_add, Rat.natCast_mul, Rat.natCast_mul, Rat.natCast_mul, c2]
    grind
  · rw [Rat.natCast_add, Rat.natCast_add, Rat.natCast_add, Rat.natCast_mul, Rat.natCast_mul, Rat.natCast_mul, c2]
    grind
theorem d_order {a b : Nat} {x y : Rat} (ha : D a x) (hb : D b y) : ∃ o, FloatKind.f64.format.order a b = some o ∧ (o = .lt ↔ x < y) ∧ (o = .eq ↔ x = y) ∧ (o = .gt ↔ y < x) := order_val ha hb
/-- From single to double nothing is lost. -/
theorem v_wide {w : Nat} {x : Rat} (h : V w x) (h1 : -tw 99 ≤ x) (h2 : x ≤ tw 99) : D (fwid.sv w) x := by
  obtain ⟨neg, m, e, hr, he, hx⟩ := h
  have hd : FloatKind.f32.decode w = .number neg m e := hr
  have ew : fwid.sv w = double.nearest neg m e := by unfold fwid.sv; rw [hd]; rfl
  have hm := read_small hr
  have hp := tw_pos e
  have h0 : (0 : Rat) ≤ (m : Rat) * tw e := Rat.mul_nonneg Rat.natCast_nonneg (Rat.le_of_lt hp)
  have hle : (m : Rat) * tw e ≤ tw 100 := by
    have := tw_mono (show (99 : Int) ≤ 100 by decide)
    cases neg
    · simp only [sg, Bool.false_eq_true, if_false] at hx; grind
    · simp only [sg, if_true] at hx; grind
  rw [ew, hx]
  refine near_exact rm_double neg hle fun hm0 => ?_
  have hl : m.log2 < 24 := (Nat.log2_lt hm0).2 hm
  have e1 : double.leastPlace ≤ e := by
    have a : single.leastPlace = -149 := rfl
    have b : double.leastPlace = -1074 := rfl
    omega
  have e2 : double.fractionBits = 52 := rfl
  unfold lst
  omega
theorem apd_wide {w : Nat} {x : Rat} {k : Nat} (h : Ap w x k) (hk : k ≤ 8388608) (h1 : -1000000 ≤ x) (h2 : x ≤ 1000000) : ApD (fwid.sv w) x k := by
  obtain ⟨z, v, a, b⟩ := h
  have := ku hk
  have e : (1000001 : Rat) ≤ tw 99 := by
    have e := tw_nat 99
    rw [show ((99 : Nat) : Int) = 99 from rfl] at e
    rw [e]
    exact Rat.natCast_le_natCast.2 (show 1000001 ≤ 2 ^ 99 by decide)
  exact ⟨z, v_wide v (by grind) (by grind), a, b⟩
theorem d_max {a b : Nat} {x y : Rat} (ha : D a x) (hb : D b y) : ord.sp .f64 a b = true ∧ ∃ z, D (fmax.sv .f64 a b) z ∧ x ≤ z ∧ y ≤ z ∧ (z = x ∨ z = y) := by
  obtain ⟨o, ho, h1, h2, h3⟩ := d_order ha hb
  have hs : ord.sp .f64 a b = true := by unfold ord.sp; rw [ho]; rfl
  refine ⟨hs, ?_⟩
  unfold fmax.sv
  rw [ho]
  cases o
  · have := h1.1 rfl
    exact ⟨y, hb, by grind, Rat.le_refl, .inr rfl⟩
  · have := h2.1 rfl
    simp only []
    split
    · exact ⟨y, hb, by grind, Rat.le_refl, .inr rfl⟩
    · exact ⟨x, ha, Rat.le_refl, by grind, .inl rfl⟩
  · have := h3.1 rfl
    exact ⟨x, ha, Rat.le_refl, by grind, .inl rfl⟩
/-! ### Relative errors -/
theorem div_nought {f : Format} (R : Rm f) {a b : Nat} {y : Rat} (ha : Vl f a 0) (hb : Vl f b y) (hy : y ≠ 0) : ∃ w, f.div a b = some w ∧ Vl f w 0 := by
  obtain ⟨s, m, i, r1, l1, h1⟩ := ha
  obtain ⟨t, n, j, r2, l2, rfl⟩ := hb
  have hn : n ≠ 0 := by rintro rfl; exact hy (by simp)
  have hm : m = 0 := by
    have hp := tw_pos i
    rcases Nat.eq_zero_or_pos m with h | h
    · exact h
    · exfalso
      have h2 := Rat.mul_pos (Rat.natCast_pos.2 h) hp
      cases s
      · simp only [sg, Bool.false_eq_true, if_false] at h1; grind
      · simp only [sg, if_true] at h1; grind
  subst hm
  unfold Format.div
  rw [r1, r2]
  simp only [Datum.quotient, if_neg hn, Option.map_some]
  have e0 : (0 <<< (f.fractionBits + 2 + n.log2 - Nat.log2 0) : Nat) = 0 := by rw [shl]; simp
  simp only [e0, Nat.zero_div, Nat.zero_mod, Nat.mul_zero, bne_self_eq_false, Bool.toNat_false, Nat.add_zero]
  refine ⟨_, rfl, ?_⟩
  have h := near_exact R (s ^^ t) (m := 0) (p := i - j - (f.fractionBits + 2 + n.log2 - Nat.log2 0 : Nat) - 1) (by
    have : ((0 : Nat) : Rat) = 0 := rfl
    rw [this, Rat.zero_mul]
    exact Rat.le_of_lt (tw_pos _)) (fun h => absurd rfl h)
  have c0 : ((0 : Nat) : Rat) = 0 := rfl
  rw [c0, Rat.zero_mul, Rat.mul_zero] at h
  exact h
/-- Nought, or not all too small; not great. -/
def Md (x : Rat) : Prop := (x = 0 ∨ 1 ≤ 1000 * x) ∧ x ≤ 100000
theorem Md.nonneg {x : Rat} (h : Md x) : 0 ≤ x := by
  rcases h.1 with h | h <;> grind
/-- So near to a number, in its own size. -/
def Rl (w : Nat) (x : Rat) (k : Nat) : Prop := (∃ z, V w z ∧ z ≤ x + (k : Rat) * u * x ∧ x ≤ z + (k : Rat) * u * x) ∧ Md x
theorem Rl.of {w : Nat} {x : Rat} (h : V w x) (hx : Md x) : Rl w x 0 := ⟨⟨x, h, by simp; grind, by simp; grind⟩, hx⟩
theorem tiny2 : tw single.leastPlace * 1000000 ≤ u := by
  have h1 := tw_mono (show (-149 : Int) + ((20 : Nat) : Int) ≤ -23 by decide)
  rw [tw_add, tw_nat] at h1
  have c : (((2 ^ 20 : Nat) : Nat) : Rat) = 1048576 := rfl
  rw [c] at h1
  have hp := tw_pos (-149)
  show tw (-149) * 1000000 ≤ tw (-23)
  grind
theorem u_small : u * 1000000 ≤ 1 := by have := u_one; have := u_pos; grind
theorem ku1000 {k : Nat} (h : k ≤ 8000) : (k : Rat) * u * 1000 ≤ 1 := by
  have k1 := ku (k := k * 1000) (by omega)
  rw [Rat.natCast_mul] at k1
  have c1000 : ((1000 : Nat) : Rat) = 1000 := rfl
  rw [c1000] at k1
  grind
theorem big5 : (400000 : Rat) ≤ tw 100 := big (n := 400000) (by omega)
theorem rl_add {a b : Nat} {x y : Rat} {i j : Nat} (k : Nat) (ha : Rl a x i) (hb : Rl b y j) (hi : i ≤ k) (hj : j ≤ k) (hk : k ≤ 1000) (hs : x + y ≤ 100000) : Rl (fadd .f32 a b) (x + y) (k + 1) := by
  have x0 := ha.2.nonneg
  have y0 := hb.2.nonneg
  obtain ⟨⟨p, vp, p1, p2⟩, hx, _⟩ := ha
  obtain ⟨⟨q, vq, q1, q2⟩, hy, _⟩ := hb
  have c1 : ((1 : Nat) : Rat) = 1 := rfl
  have hu := u_pos
  have k1 := ku1000 (k := k) (by omega)
  have ki := Rat.mul_le_mul_of_nonneg_right (Rat.natCast_le_natCast.2 hi) (Rat.mul_nonneg (Rat.le_of_lt hu) x0)
  have kj := Rat.mul_le_mul_of_nonneg_right (Rat.natCast_le_natCast.2 hj) (Rat.mul_nonneg (Rat.le_of_lt hu) y0)
  have ks := Rat.mul_le_mul_of_nonneg_right k1 (show 0 ≤ x + y by grind)
  -- the exact sum of both
  have e1 : p + q ≤ (x + y) + (k : Rat) * u * (x + y) := by grind
  have e2 : (x + y) ≤ (p + q) + (k : Rat) * u * (x + y) := by grind
  have hz : x + y = 0 ∨ 1 ≤ 1000 * (x + y) := by
    rcases hx with h | h
    · rcases hy with g | g
      · left; grind
      · right; grind
    · right; grind
  clear p1 p2 q1 q2 ki kj hx hy
  generalize x + y = s at *
  rcases hz with hz | hz
  · subst hz
    have ez : p + q = ((0 : Int) : Rat) := by have : ((0 : Int) : Rat) = 0 := rfl; grind
    obtain ⟨w, z, g, vz, _, _, hw⟩ := add_val rm_single vp vq (B := 16777216) (by rw [ez]; exact (ibig (n := 0) (by omega)).1) (by rw [ez]; exact (ibig (n := 0) (by omega)).2) big24
    rw [whole hw ez (by omega)] at vz
    have ew : fadd .f32 a b = w := by show (single.add a b).getD (qnan .f32) = w; rw [g]; rfl
    rw [ew]
    have c0 : ((0 : Int) : Rat) = 0 := rfl
    rw [c0] at vz
    exact ⟨⟨0, vz, by grind, by grind⟩, .inl rfl, by decide⟩
  · have hv : p + q ≤ s * (101 / 100) := by grind
    have hv2 : -(s * (101 / 100)) ≤ p + q := by grind
    obtain ⟨w, z, g, vz, z1, z2, _⟩ := add_val rm_single vp vq (B := s * (101 / 100)) hv2 hv (by have := big5; grind)
    have ew : fadd .f32 a b = w := by show (single.add a b).getD (qnan .f32) = w; rw [g]; rfl
    rw [frac] at z1 z2
    have t := tiny2
    have hz2 := Rat.mul_le_mul_of_nonneg_left hz (Rat.le_of_lt hu)
    have hs0 : 0 ≤ s * u := Rat.mul_nonneg (by grind) (Rat.le_of_lt hu)
    rw [ew]
    refine ⟨⟨z, vz, ?_, ?_⟩, .inr hz, hs⟩
    · rw [Rat.natCast_add, c1]; grind
    · rw [Rat.natCast_add, c1]; grind
theorem quo_near {α β p q r v y e : Rat} (ha : 0 ≤ α) (hb : 0 ≤ β) (he : 0 ≤ e) (h1 : (α + β + e) * β ≤ e) (h2 : (α + β + e) * 100 ≤ 1) (hv : 0 ≤ v) (hy : 0 < y) (p1 : p ≤ v * y + α * (v * y)) (p2 : v * y ≤ p + α * (v * y)) (q1 : q ≤ y + β * y) (q2 : y ≤ q + β * y) (hr : r * q = p) :
    0 < q ∧ r ≤ v + (α + β + e) * v ∧ v ≤ r + (α + β + e) * v := by
  have m := Rat.mul_nonneg hv (Rat.le_of_lt hy)
  have by1 := Rat.mul_le_mul_of_nonneg_right (show β * 100 ≤ 1 by grind) (Rat.le_of_lt hy)
  have hq0 : 0 < q := by grind
  generalize hg : α + β + e = γ at *
  have g0 : 0 ≤ γ := by grind
  have c := Rat.mul_le_mul_of_nonneg_right h1 m
  have c0 := Rat.mul_nonneg (Rat.mul_nonneg g0 hb) m
  have hgm : γ * (v * y) = α * (v * y) + β * (v * y) + e * (v * y) := by rw [← hg]; grind
  refine ⟨hq0, Rat.le_of_mul_le_mul_right (c := q) ?_ hq0, Rat.le_of_mul_le_mul_right (c := q) ?_ hq0⟩
  · rw [hr]
    have b := Rat.mul_le_mul_of_nonneg_left (show y - β * y ≤ q by grind) (show 0 ≤ v + γ * v by have := Rat.mul_nonneg g0 hv; grind)
    grind
  · rw [Rat.add_mul, hr]
    have gv := Rat.mul_le_mul_of_nonneg_right h2 hv
    have b := Rat.mul_le_mul_of_nonneg_left q1 (show 0 ≤ v - γ * v by grind)
    have em := Rat.mul_nonneg he m
    grind
theorem rl_div {a b : Nat} {x y v : Rat} {i j : Nat} (ha : Rl a x i) (hb : Rl b y j) (hy : 1 ≤ 1000 * y) (hv : v * y = x) (hi : i ≤ 100) (hj : j ≤ 100) (hm : Md v) : Rl (fdiv .f32 a b) v (i + j + 4) := by
  obtain ⟨⟨p, vp, p1, p2⟩, _⟩ := ha
  obtain ⟨⟨q, vq, q1, q2⟩, _⟩ := hb
  have hu := u_pos
  have y0 : 0 < y := by grind
  have v0 := hm.nonneg
  subst hv
  have iu := ku0 i
  have ju := ku0 j
  have h2 := ku (k := (i + j + 1) * 100) (by omega)
  have h1 : ((i : Rat) * u + (j : Rat) * u + u) * ((j : Rat) * u) ≤ u := by
    have c : (((i + j + 1) * j : Nat) : Rat) * u ≤ 1 := ku (by
      have := Nat.mul_le_mul (show i + j + 1 ≤ 201 by omega) hj
      omega)
    have d := Rat.mul_le_mul_of_nonneg_right c (Rat.le_of_lt hu)
    have cc : ((1 : Nat) : Rat) = 1 := rfl
    rw [Rat.natCast_mul, Rat.natCast_add, Rat.natCast_add, cc] at d
    grind
  have c1 : ((1 : Nat) : Rat) = 1 := rfl
  have c100 : ((100 : Nat) : Rat) = 100 := rfl
  rw [Rat.natCast_mul, Rat.natCast_add, Rat.natCast_add, c1, c100] at h2
  have h2' : ((i : Rat) * u + (j : Rat) * u + u) * 100 ≤ 1 := by grind
  have hq0 : 0 < q := by
    have := Rat.mul_le_mul_of_nonneg_right (show ((j : Rat) * u) * 100 ≤ 1 by grind) (Rat.le_of_lt y0)
    grind
  have hqn : q ≠ 0 := fun e => by rw [e] at hq0; exact absurd hq0 (by decide)
  obtain ⟨r, hr⟩ : ∃ r : Rat, r * q = p := ⟨p / q, Rat.div_mul_cancel hqn⟩
  obtain ⟨_, k1, k2⟩ := quo_near iu ju (Rat.le_of_lt hu) h1 h2' v0 y0 p1 p2 q1 q2 hr
  have gv := Rat.mul_le_mul_of_nonneg_right h2' v0
  have c4 : ((4 : Nat) : Rat) = 4 := rfl
  have hm' := hm
  obtain ⟨hz, hs⟩ := hm'
  rcases hz with h | h
  · subst h
    have hr0 : r = 0 := by grind
    have hp0 : p = 0 := by grind
    subst hp0
    obtain ⟨w, g, vz⟩ := div_nought rm_single vp vq hqn
    have ew : fdiv .f32 a b = w := by show (single.div a b).getD (qnan .f32) = w; rw [g]; rfl
    rw [ew]
    exact ⟨⟨0, vz, by grind, by grind⟩, hm⟩
  · obtain ⟨w, z, g, vz, z1, z2, _⟩ := div_val rm_single vp vq hqn hr (B := v * (101 / 100)) (by grind) (by grind) (by have := big5; grind)
    have ew : fdiv .f32 a b = w := by show (single.div a b).getD (qnan .f32) = w; rw [g]; rfl
    rw [frac] at z1 z2
    rw [ew]
    have t := tiny2
    have hz2 := Rat.mul_le_mul_of_nonneg_left h (Rat.le_of_lt hu)
    refine ⟨⟨z, vz, ?_, ?_⟩, hm⟩
    · rw [Rat.natCast_add, Rat.natCast_add, c4]; grind
    · rw [Rat.natCast_add, Rat.natCast_add, c4]; grind
end fp

end Go.Proofs.Ytgblgofmdhekiaa.Ab
