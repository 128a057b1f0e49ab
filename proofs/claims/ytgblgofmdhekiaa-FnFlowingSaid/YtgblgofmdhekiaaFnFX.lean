/-
  Functions: the law of flows, its tests.
-/
import Derived.Test.YtgblgofmdhekiaaFnFY
namespace Go.Proofs.Ytgblgofmdhekiaa.Ab
open Go
set_option linter.unusedVariables false
set_option linter.unusedSimpArgs false
set_option maxRecDepth 100000

namespace flw
open fp
/-! ### Tests in double words -/
def gap.sv (a b : Nat) : Nat := fmax.sv .f64 (fsub .f64 a b) (fsub .f64 b a)
def gap.ok.sp (a b : Nat) : Bool := ord.sp .f64 (fsub .f64 a b) (fsub .f64 b a)
theorem gap_le {a b i j : Nat} {x y E : Rat} (N : Nat) (ha : ApD a x i) (hb : ApD b y j) (h1 : x - y ≤ E) (h2 : y - x ≤ E) (hN : E ≤ N) (hij : i + j ≤ 100000) (hN2 : N ≤ 1000) : gap.ok.sp a b = true ∧ ∃ z, D (gap.sv a b) z ∧ z ≤ E + ((i + j + N + 1 : Nat) : Rat) * u := by
  obtain ⟨p, vp, _, p2⟩ := apd_sub N ha hb (by grind) (by grind) (by omega) (by omega)
  obtain ⟨q, vq, q1, q2⟩ := apd_sub N hb ha (by grind) (by grind) (by omega) (by omega)
  obtain ⟨p, vp, p1, p2⟩ := apd_sub N ha hb (by grind) (by grind) (by omega) (by omega)
  obtain ⟨ho, z, vz, _, _, hz⟩ := d_max vp vq
  refine ⟨ho, z, vz, ?_⟩
  rw [show j + i + N + 1 = i + j + N + 1 by omega] at q1
  rcases hz with e | e <;> rw [e] <;> grind
def c01 : Nat := 4576918229304087675
def c05 : Nat := 4587366580439587226
theorem dec_d {w m d : Nat} {p : Nat} {lo hi : Rat} (hr : Ieee.double.read w = .number false m (-(p : Int))) (hp : p ≤ 1000) (hlo : lo * ((2 ^ p : Nat) : Rat) ≤ (m : Rat)) (hhi : (m : Rat) ≤ hi * ((2 ^ p : Nat) : Rat)) : ∃ x, D w x ∧ lo ≤ x ∧ x ≤ hi := by
  have e := tw_add (-(p : Int)) (p : Int)
  rw [tw_nat, show -(p : Int) + (p : Int) = 0 by omega, tw_zero] at e
  have tp := tw_pos (-(p : Int))
  have a := Rat.mul_le_mul_of_nonneg_right hlo (Rat.le_of_lt tp)
  have b := Rat.mul_le_mul_of_nonneg_right hhi (Rat.le_of_lt tp)
  refine ⟨(m : Rat) * tw (-(p : Int)), ⟨false, m, _, hr, by show (-1074 : Int) ≤ _; omega, by simp only [sg, Bool.false_eq_true, if_false, Rat.one_mul]⟩, ?_, ?_⟩
  · rw [Rat.mul_assoc, Rat.mul_comm _ (tw (-(p : Int))), ← e, Rat.mul_one] at a
    exact a
  · rw [Rat.mul_assoc hi, Rat.mul_comm ((2 ^ p : Nat) : Rat) (tw (-(p : Int))), ← e, Rat.mul_one] at b
    exact b
theorem v01 : ∃ x, D 4576918229304087675 x ∧ 1 / 100 ≤ x ∧ x ≤ 11 / 1000 := by
  have c1 : (((2 ^ 59 : Nat) : Nat) : Rat) = 576460752303423488 := rfl
  have c2 : ((5764607523034235 : Nat) : Rat) = 5764607523034235 := rfl
  refine dec_d (m := 5764607523034235) (p := 59) (d := 0) (by rfl) (by omega) ?_ ?_
  · rw [c1, c2]; grind
  · rw [c1, c2]; grind
theorem v05 : ∃ x, D 4587366580439587226 x ∧ 1 / 20 ≤ x ∧ x ≤ 1 / 10 := by
  have c1 : (((2 ^ 57 : Nat) : Nat) : Rat) = 144115188075855872 := rfl
  have c2 : ((7205759403792794 : Nat) : Rat) = 7205759403792794 := rfl
  refine dec_d (m := 7205759403792794) (p := 57) (d := 0) (by rfl) (by omega) ?_ ?_
  · rw [c1, c2]; grind
  · rw [c1, c2]; grind
theorem v1d : D 4607182418800017408 1 := ⟨false, 4503599627370496, -52, by rfl, by decide, by
  have e := tw_add (-52) ((52 : Nat) : Int)
  rw [tw_nat, show (-52 : Int) + ((52 : Nat) : Int) = 0 by omega, tw_zero] at e
  have c : (((2 ^ 52 : Nat) : Nat) : Rat) = ((4503599627370496 : Nat) : Rat) := rfl
  rw [c] at e
  simp only [sg, Bool.false_eq_true, if_false, Rat.one_mul]
  rw [e]; grind⟩
theorem v0d : D 0 0 := ⟨false, 0, -1074, by rfl, by decide, by simp⟩
theorem lt_of {a b i j : Nat} {x y : Rat} (ha : ApD a x i) (hb : ApD b y j) (h : x + ((i : Rat) + j) * u < y) : (FloatKind.f64.format.order a b == some Ordering.lt) = true := by
  obtain ⟨p, vp, p1, p2⟩ := ha
  obtain ⟨q, vq, q1, q2⟩ := hb
  obtain ⟨o, ho, h1, _, _⟩ := d_order vp vq
  rw [ho, h1.2 (by grind)]
  rfl
/-- The words that the law adds up. -/
def su.sv (X : List Nat) : Nat → Nat
  | 0 => 0
  | i + 1 => fadd .f64 (su.sv X i) (fwid.sv (gn X i))
def cs.sv (A B X : List Nat) (i : Nat) : Nat := fadd .f64 (fmul .f64 (fwid.sv (gn A i)) (fwid.sv (gn X i))) (fwid.sv (gn B i))
theorem c9' : ((9 : Nat) : Rat) = 9 := rfl
theorem wide {w : Nat} {x : Rat} (h : V w x) (h1 : -1000000 ≤ x) (h2 : x ≤ 1000000) : ApD (fwid.sv w) x 0 := apd_wide (Ap.of h) (by omega) h1 h2
theorem su_ap {X : List Nat} {F : Nat → Rat} {n : Nat} (h : ∀ i, i < n → V (gn X i) (F i) ∧ 0 ≤ F i) (h9 : sm F n ≤ 9) (h5 : n ≤ 5) : ∀ i, i ≤ n → ApD (su.sv X i) (sm F i) (10 * i)
  | 0, _ => ApD.of v0d
  | i + 1, hi => by
    have ih := su_ap h h9 h5 i (by omega)
    obtain ⟨v, f0⟩ := h i (by omega)
    have mono : ∀ k, i + 1 ≤ k → k ≤ n → sm F (i + 1) ≤ sm F k := fun k h1 h2 => by
      induction k with
      | zero => omega
      | succ k ihk =>
        rcases Nat.lt_or_ge k (i + 1) with c | c
        · obtain rfl : k = i := by omega
          exact Rat.le_refl
        · have := ihk c (by omega)
          have fk := (h k (by omega)).2
          rw [sm.eq_2 F k]; grind
    have m := mono n hi (Nat.le_refl _)
    have p := sm_nonneg i fun t ht => (h t (by omega)).2
    have e : sm F (i + 1) = sm F i + F i := rfl
    have := apd_add 9 ih (wide v (by grind) (by grind)) (by rw [c9']; grind) (by rw [c9']; grind) (by omega) (by omega)
    exact ApD.mono this (by omega)
theorem cs_ap {A B X : List Nat} {n : Nat} {s b F : Nat → Rat} (h : Cf A B X n s b F) {i : Nat} (hi : i < n) : ApD (cs.sv A B X i) (s i * F i + b i) 43 := by
  obtain ⟨vs, s0, s1⟩ := h.vs i hi
  obtain ⟨vb, b0, b1⟩ := h.vb i hi
  obtain ⟨vF, F0, F1⟩ := h.vF i hi
  have c2 : ((2 : Nat) : Rat) = 2 := rfl
  have c22 : ((22 : Nat) : Rat) = 22 := rfl
  obtain ⟨m1, m2⟩ := mul_abs (p := s i) (q := F i) (P := 2) (Q := 9) (by decide) (by decide) (by grind) s1 (by grind) F1
  have m3 := Rat.mul_nonneg s0 F0
  have d1 := apd_mul 2 9 (wide vs (by grind) (by grind)) (wide vF (by grind) (by grind)) (by rw [c2]; grind) (by rw [c2]; exact s1) (by rw [c9']; grind) (by rw [c9']; exact F1) (by omega) (by omega) (by omega) (by omega)
  have d2 := apd_add 22 d1 (wide vb (by grind) (by grind)) (by rw [c22]; grind) (by rw [c22]; grind) (by omega) (by omega)
  exact d2
theorem test_sum {S Tw : Nat} {x T : Rat} (hS : ApD S x 50) (hT : Tt Tw T) (x0 : 0 ≤ x) (x9 : x ≤ 9) (h1 : x ≤ T + 3522 * u) (h2 : T ≤ x + 3522 * u) : gap.ok.sp S (fwid.sv Tw) = true ∧ (FloatKind.f64.format.order (gap.sv S (fwid.sv Tw)) 4576918229304087675 == some Ordering.lt) = true := by
  have T0 := hT.nonneg
  have T1 := hT.t1
  have u1 := u_one
  obtain ⟨g1, z, vz, g2⟩ := gap_le 9 hS (wide hT.v (by grind) (by grind)) (E := 3522 * u) (by grind) (by grind) (by rw [c9']; grind) (by omega) (by omega)
  obtain ⟨c, vc, c1, _⟩ := v01
  refine ⟨g1, lt_of (ApD.of vz) (ApD.of vc) ?_⟩
  have cc : ((50 + 0 + 9 + 1 : Nat) : Rat) = 60 := rfl
  have c0 : ((0 : Nat) : Rat) = 0 := rfl
  rw [cc] at g2
  rw [c0]
  grind
theorem test_neg {w : Nat} {x : Rat} (h : V w x) (h0 : 0 ≤ x) : (FloatKind.f32.format.order w 0 == some Ordering.lt) = false := by
  obtain ⟨o, ho, h1, _, _⟩ := v_order h v_zero
  have e : ((0 : Int) : Rat) = 0 := rfl
  rw [e] at h1
  rw [ho]
  cases o
  · have := h1.1 rfl; grind
  · rfl
  · rfl
theorem v_mark0 : ∃ x, V 981668463 x ∧ 0 ≤ x := ⟨_, ⟨false, 8589935, -33, by rfl, by decide, rfl⟩, by
  simp only [sg, Bool.false_eq_true, if_false, Rat.one_mul]
  exact Rat.mul_nonneg Rat.natCast_nonneg (Rat.le_of_lt (tw_pos _))⟩
/-- A road that is used costs as much as the level, and others no less. -/
theorem test_road {A B X : List Nat} {n : Nat} {s b F : Nat → Rat} (h : Cf A B X n s b F) {lw : Nat} {z : Rat} (vz : V lw z) (z0 : 0 ≤ z) (z1 : z ≤ 37) {i : Nat} (hi : i < n) (hf : Fl z (s i) (b i) (F i)) :
    gap.ok.sp (cs.sv A B X i) (fwid.sv lw) = true ∧ ((FloatKind.f32.format.order (gn X i) 981668463 == some Ordering.gt) = true → (FloatKind.f64.format.order (gap.sv (cs.sv A B X i) (fwid.sv lw)) 4576918229304087675 == some Ordering.gt) = false) ∧
    (FloatKind.f64.format.order (cs.sv A B X i) (fsub .f64 (fwid.sv lw) 4576918229304087675) == some Ordering.lt) = false := by
  have hc := cs_ap h hi
  obtain ⟨vs, s0, s1⟩ := h.vs i hi
  obtain ⟨vb, b0, b1⟩ := h.vb i hi
  obtain ⟨vF, F0, F1⟩ := h.vF i hi
  have u1 := u_one
  have hu := u_pos
  have hl := wide vz (by grind) (by grind)
  have c60 : ((60 : Nat) : Rat) = 60 := rfl
  have c38 : ((38 : Nat) : Rat) = 38 := rfl
  obtain ⟨m1, m2⟩ := mul_abs (p := s i) (q := F i) (P := 2) (Q := 9) (by decide) (by decide) (by grind) s1 (by grind) F1
  have m3 := Rat.mul_nonneg s0 F0
  have uz := Rat.mul_le_mul_of_nonneg_left z1 (Rat.le_of_lt hu)
  obtain ⟨c, vc, cl, ch⟩ := v01
  have ok := (gap_le 60 hc hl (E := 60) (by grind) (by grind) (by rw [c60]; exact Rat.le_refl) (by omega) (by omega)).1
  refine ⟨ok, fun hgt => ?_, ?_⟩
  · rcases hf.2 with ⟨f1, f2⟩ | ⟨f1, f2, f3⟩
    · exfalso
      rw [f1] at vF
      obtain ⟨x, vx, x0⟩ := v_mark0
      obtain ⟨o, ho, _, _, h3⟩ := v_order vF vx
      rw [ho] at hgt
      cases o
      · cases hgt
      · cases hgt
      · have := h3.1 rfl; grind
    · obtain ⟨_, y, vy, g2⟩ := gap_le 60 hc hl (E := 149 * u) (by grind) (by grind) (by rw [c60]; grind) (by omega) (by omega)
      obtain ⟨o, ho, _, _, h3⟩ := d_order vy vc
      rw [ho]
      have cc : ((43 + 0 + 60 + 1 : Nat) : Rat) = 104 := rfl
      rw [cc] at g2
      cases o
      · rfl
      · rfl
      · have := h3.1 rfl; grind
  · obtain ⟨q, vq, q1, q2⟩ := hc
    obtain ⟨y, vy, y1, y2⟩ := apd_sub 38 hl (ApD.of vc) (by rw [c38]; grind) (by rw [c38]; grind) (by omega) (by omega)
    obtain ⟨o, ho, h1, _, _⟩ := d_order vq vy
    rw [ho]
    have cc : ((0 + 0 + 38 + 1 : Nat) : Rat) = 39 := rfl
    have c43 : ((43 : Nat) : Rat) = 43 := rfl
    rw [cc] at y1 y2
    rw [c43] at q1 q2
    cases o
    · exfalso
      have hlt := h1.1 rfl
      rcases hf.2 with ⟨f1, f2⟩ | ⟨f1, f2, f3⟩
      · grind
      · grind
    · rfl
    · rfl
/-- Costs, and flows times the level. -/
theorem test_cost {a S lw : Nat} {ca x z : Rat} (ha : Ap a ca 3930) (a0 : 0 ≤ ca) (a1 : ca ≤ 198) (hS : ApD S x 50) (x0 : 0 ≤ x) (x9 : x ≤ 9) (vz : V lw z) (z0 : 0 ≤ z) (z1 : z ≤ 37) (h1 : ca ≤ z * x + de z * x) (h2 : z * x ≤ ca + de z * x) :
    gap.ok.sp (fwid.sv a) (fmul .f64 S (fwid.sv lw)) = true ∧ (FloatKind.f64.format.order (gap.sv (fwid.sv a) (fmul .f64 S (fwid.sv lw))) (fmul .f64 4587366580439587226 (fadd .f64 4607182418800017408 (fwid.sv a))) == some Ordering.lt) = true := by
  have u1 := u_one
  have hu := u_pos
  have hl := wide vz (by grind) (by grind)
  have hA := apd_wide ha (by omega) (by grind) (by grind)
  have c37 : ((37 : Nat) : Rat) = 37 := rfl
  have c199 : ((199 : Nat) : Rat) = 199 := rfl
  have c334 : ((334 : Nat) : Rat) = 334 := rfl
  have c1 : ((1 : Nat) : Rat) = 1 := rfl
  have m := apd_mul 9 37 hS hl (by rw [c9']; grind) (by rw [c9']; exact x9) (by rw [c37]; grind) (by rw [c37]; exact z1) (by omega) (by omega) (by omega) (by omega)
  rw [Rat.mul_comm x z] at m
  obtain ⟨m1, m2⟩ := mul_abs (p := z) (q := x) (P := 37) (Q := 9) (by decide) (by decide) (by grind) z1 (by grind) x9
  have m3 := Rat.mul_nonneg z0 x0
  have uz := Rat.mul_le_mul_of_nonneg_left z1 (Rat.le_of_lt hu)
  have dx := Rat.mul_le_mul_of_nonneg_left x9 (de0 z0)
  have dd : de z * 9 ≤ 1342 * u := by unfold de; grind
  obtain ⟨g1, y, vy, g2⟩ := gap_le 334 hA m (E := 1342 * u) (by grind) (by grind) (by rw [c334]; grind) (by omega) (by omega)
  obtain ⟨c, vc, cl, ch⟩ := v05
  have s1 := apd_add 199 (ApD.of v1d) hA (by rw [c199]; grind) (by rw [c199]; grind) (by omega) (by omega)
  have s2 : ApD (fmul .f64 4587366580439587226 (fadd .f64 4607182418800017408 (fwid.sv a))) (c * (1 + ca)) 5000 := by
    obtain ⟨t, vt, t1, t2⟩ := s1
    -- 4130 units are too many for the product's rule: do it from the value
    have cc : ((0 + 3930 + 199 + 1 : Nat) : Rat) = 4130 := rfl
    rw [cc] at t1 t2
    have t0 : 0 ≤ t := by grind
    have hv := apd_mul 1 200 (ApD.of vc) (ApD.of vt) (by rw [c1]; grind) (by rw [c1]; grind) (by have : ((200 : Nat) : Rat) = 200 := rfl; rw [this]; grind) (by have : ((200 : Nat) : Rat) = 200 := rfl; rw [this]; grind) (by omega) (by omega) (by omega) (by omega)
    obtain ⟨w, vw, w1, w2⟩ := hv
    have cc2 : ((0 * 200 + 1 * 0 + 1 * 200 + 2 : Nat) : Rat) = 202 := rfl
    rw [cc2] at w1 w2
    have c5 : ((5000 : Nat) : Rat) = 5000 := rfl
    have k1 := Rat.mul_le_mul_of_nonneg_left t1 (show 0 ≤ c by grind)
    have k2 := Rat.mul_le_mul_of_nonneg_left t2 (show 0 ≤ c by grind)
    have k3 := Rat.mul_le_mul_of_nonneg_right ch (Rat.le_of_lt hu)
    exact ⟨w, vw, by rw [c5]; grind, by rw [c5]; grind⟩
  refine ⟨g1, lt_of (ApD.of vy) s2 ?_⟩
  have c0 : ((0 : Nat) : Rat) = 0 := rfl
  have c5 : ((5000 : Nat) : Rat) = 5000 := rfl
  have cc : ((3930 + (50 * 37 + 9 * 0 + 9 * 37 + 2) + 334 + 1 : Nat) : Rat) = 6450 := rfl
  rw [cc] at g2
  rw [c0, c5]
  have k := Rat.mul_le_mul_of_nonneg_right cl (show 0 ≤ 1 + ca by grind)
  grind
/-- One costs less than another, nearly. -/
theorem test_le {a b : Nat} {ca cb : Rat} (ha : Ap a ca 3930) (hb : Ap b cb 3930) (a0 : 0 ≤ ca) (a1 : ca ≤ 198) (b0 : 0 ≤ cb) (b1 : cb ≤ 198) (h : cb + 13000 * u ≤ ca + (1 + ca) / 100) :
    ∃ o, FloatKind.f64.format.order (fwid.sv b) (fadd .f64 (fwid.sv a) (fmul .f64 4576918229304087675 (fadd .f64 4607182418800017408 (fwid.sv a)))) = some o ∧ o ≠ Ordering.gt := by
  have u1 := u_one
  have hu := u_pos
  have hA := apd_wide ha (by omega) (by grind) (by grind)
  have hB := apd_wide hb (by omega) (by grind) (by grind)
  have c199 : ((199 : Nat) : Rat) = 199 := rfl
  have c202 : ((202 : Nat) : Rat) = 202 := rfl
  have c1 : ((1 : Nat) : Rat) = 1 := rfl
  obtain ⟨c, vc, cl, ch⟩ := v01
  have s1 := apd_add 199 (ApD.of v1d) hA (by rw [c199]; grind) (by rw [c199]; grind) (by omega) (by omega)
  have s2 : ApD (fmul .f64 4576918229304087675 (fadd .f64 4607182418800017408 (fwid.sv a))) (c * (1 + ca)) 300 := by
    obtain ⟨t, vt, t1, t2⟩ := s1
    have cc : ((0 + 3930 + 199 + 1 : Nat) : Rat) = 4130 := rfl
    rw [cc] at t1 t2
    have hv := apd_mul 1 200 (ApD.of vc) (ApD.of vt) (by rw [c1]; grind) (by rw [c1]; grind) (by have : ((200 : Nat) : Rat) = 200 := rfl; rw [this]; grind) (by have : ((200 : Nat) : Rat) = 200 := rfl; rw [this]; grind) (by omega) (by omega) (by omega) (by omega)
    obtain ⟨w, vw, w1, w2⟩ := hv
    have cc2 : ((0 * 200 + 1 * 0 + 1 * 200 + 2 : Nat) : Rat) = 202 := rfl
    rw [cc2] at w1 w2
    have c5 : ((300 : Nat) : Rat) = 300 := rfl
    have k1 := Rat.mul_le_mul_of_nonneg_left t1 (show 0 ≤ c by grind)
    have k2 := Rat.mul_le_mul_of_nonneg_left t2 (show 0 ≤ c by grind)
    have k3 := Rat.mul_le_mul_of_nonneg_right ch (Rat.le_of_lt hu)
    exact ⟨w, vw, by rw [c5]; grind, by rw [c5]; grind⟩
  have k0 := Rat.mul_le_mul_of_nonneg_right cl (show 0 ≤ 1 + ca by grind)
  have k1 := Rat.mul_le_mul_of_nonneg_right ch (show 0 ≤ 1 + ca by grind)
  obtain ⟨p, vp, p1, p2⟩ := apd_add 202 hA s2 (by rw [c202]; grind) (by rw [c202]; grind) (by omega) (by omega)
  obtain ⟨q, vq, q1, q2⟩ := hB
  obtain ⟨o, ho, _, _, h3⟩ := d_order vq vp
  refine ⟨o, ho, fun e => ?_⟩
  have := h3.1 e
  have cc : ((3930 + 300 + 202 + 1 : Nat) : Rat) = 4433 := rfl
  have c39 : ((3930 : Nat) : Rat) = 3930 := rfl
  rw [cc] at p1 p2
  rw [c39] at q1 q2
  grind
end flw

end Go.Proofs.Ytgblgofmdhekiaa.Ab
