/-
  Functions: the polynomial of the sine, and the cross product of two arrows.
-/
import Derived.Test.YtgblgofmdhekiaaFnA
import Derived.Test.YtgblgofmdhekiaaFnFQ
import Derived.Test.YtgblgofmdhekiaaFnML
namespace Go.Proofs.Ytgblgofmdhekiaa.Ab
open Go
set_option linter.unusedVariables false
set_option linter.unusedSimpArgs false
set_option maxRecDepth 100000

namespace agr
theorem mn {a b : Rat} (ha : 0 ≤ a) (hb : 0 ≤ b) : 0 ≤ a * b := Rat.mul_nonneg ha hb
/-- A function that falls slowly. -/
structure G (q : Rat → Rat) : Prop where
  low : ∀ u, 0 ≤ u → 2 * u ≤ 5 → 6 - u ≤ 6 * q u
  one : ∀ u, 0 ≤ u → 2 * u ≤ 5 → q u ≤ 1
  fall : ∀ u v, 0 ≤ v → v ≤ u → 2 * u ≤ 5 → q u ≤ q v ∧ 6 * q v ≤ 6 * q u + (u - v)
theorem G.const : G (fun _ => 1) := ⟨fun _ _ _ => by grind, fun _ _ _ => by grind, fun _ _ _ _ _ => by grind⟩
theorem G.pos {q : Rat → Rat} (g : G q) {u : Rat} (h : 0 ≤ u) (h2 : 2 * u ≤ 5) : 0 ≤ q u := by
  have := g.low u h h2; grind
def nx (d : Rat) (q : Rat → Rat) : Rat → Rat := fun u => 1 - u * q u / d
theorem nx_eq {d : Rat} (hd : 6 ≤ d) (q : Rat → Rat) (u : Rat) : d * nx d q u = d - u * q u := by
  unfold nx; rw [Rat.div_def]
  have : d * d⁻¹ = 1 := Rat.mul_inv_cancel d (by grind)
  grind
theorem six {d a b : Rat} (hd : 6 ≤ d) (ha : 0 ≤ a) (h : d * a ≤ b) : 6 * a ≤ b := by
  have := mn (a := d - 6) (b := a) (by grind) ha
  grind
theorem dpos {d a : Rat} (hd : 6 ≤ d) (h : 0 ≤ d * a) : 0 ≤ a := by
  rcases (Rat.le_total : 0 ≤ a ∨ a ≤ 0) with h1 | h1
  · exact h1
  · have h2 : 0 ≤ (d - 6) * (-a) := mn (by grind) (by grind)
    grind
theorem G.next {q : Rat → Rat} (g : G q) {d : Rat} (hd : 6 ≤ d) : G (nx d q) := by
  have up : ∀ u, 0 ≤ u → 2 * u ≤ 5 → 0 ≤ u * q u ∧ u * q u ≤ u := by
    intro u h h2
    have h3 := g.pos h h2
    have h4 := g.one u h h2
    have := mn h h3
    have := mn (a := u) (b := 1 - q u) h (by grind)
    grind
  refine ⟨?_, ?_, ?_⟩
  · intro u h h2
    have e := nx_eq hd q u
    have := up u h h2
    have h5 : 0 ≤ 1 - nx d q u := dpos hd (by grind)
    have := six (a := 1 - nx d q u) (b := u) hd h5 (by grind)
    grind
  · intro u h h2
    have e := nx_eq hd q u
    have := up u h h2
    have h5 : 0 ≤ 1 - nx d q u := dpos hd (by grind)
    grind
  · intro u v h hv h2
    have e := nx_eq hd q u
    have e2 := nx_eq hd q v
    obtain ⟨f1, f2⟩ := g.fall u v h hv h2
    have l := g.low u (by grind) h2
    have o := g.one u (by grind) h2
    have m1 : 0 ≤ (u - v) * (6 * q u - v) := mn (by grind) (by grind)
    have m2 : 0 ≤ v * (6 * q u + (u - v) - 6 * q v) := mn h (by grind)
    have m3 : 0 ≤ v * (q v - q u) := mn h (by grind)
    have m4 : 0 ≤ (u - v) * (1 - q u) := mn (by grind) (by grind)
    have k1 : 0 ≤ u * q u - v * q v := by grind
    have k2 : u * q u - v * q v ≤ u - v := by grind
    have h5 : 0 ≤ nx d q v - nx d q u := dpos hd (by grind)
    have h6 := six (a := nx d q v - nx d q u) (b := u - v) hd h5 (by grind)
    exact ⟨by grind, by grind⟩
def p3 : Rat → Rat := nx 42 (nx 72 (nx 110 (nx 156 (nx 210 (nx 272 (fun _ => 1))))))
def p1 : Rat → Rat := nx 6 (nx 20 p3)
theorem g3 : G p3 := (((((G.const.next (d := 272) (by grind)).next (d := 210) (by grind)).next (d := 156) (by grind)).next (d := 110) (by grind)).next (d := 72) (by grind)).next (d := 42) (by grind)
theorem p1_eq (u : Rat) : 120 * p1 u = 120 - 20 * u + u * u * p3 u := by
  unfold p1 nx
  rw [Rat.div_def, Rat.div_def]
  have : (6 : Rat)⁻¹ = 1 / 6 := by rw [Rat.div_def]; grind
  have : (20 : Rat)⁻¹ = 1 / 20 := by rw [Rat.div_def]; grind
  grind
/-- The polynomial of the sine. -/
def sn (z : Rat) : Rat := z * p1 (z * z)
theorem p1_low {u : Rat} (h : 0 ≤ u) (h2 : 2 * u ≤ 5) : 6 - u ≤ 6 * p1 u := by
  have := p1_eq u
  have := mn (mn h h) (g3.pos h h2)
  grind
theorem p1_up {u : Rat} (h : 0 ≤ u) (h2 : 2 * u ≤ 5) : 120 * p1 u ≤ 120 - 20 * u + u * u := by
  have := p1_eq u
  have o := g3.one u h h2
  have := mn (a := u * u) (b := 1 - p3 u) (mn h h) (by grind)
  grind
theorem p1_fall {u v : Rat} (h : 0 ≤ v) (hv : v ≤ u) (h2 : 2 * u ≤ 5) : 20 * (u - v) - (u * u - v * v) ≤ 120 * (p1 v - p1 u) ∧ 6 * (p1 v - p1 u) ≤ u - v := by
  have e1 := p1_eq u
  have e2 := p1_eq v
  obtain ⟨f1, f2⟩ := g3.fall u v h hv h2
  have l := g3.low u (by grind) h2
  have o := g3.one u (by grind) h2
  have a1 : 0 ≤ (u - v) * (u + v) := mn (by grind) (by grind)
  have a2 := mn a1 (b := 1 - p3 u) (by grind)
  have a3 := mn (mn h h) (b := p3 v - p3 u) (by grind)
  have b1 : 0 ≤ (u - v) * ((u + v) * (6 * p3 u - (6 - u))) := mn (by grind) (mn (by grind) (by grind))
  have b2 : 0 ≤ (v * v) * (6 * p3 u + (u - v) - 6 * p3 v) := mn (mn h h) (by grind)
  have b3 : 0 ≤ (u - v) * (v * (5 - 2 * v)) := mn (by grind) (mn h (by grind))
  have b4 : 0 ≤ (u - v) * ((u + v) * (5 - 2 * u)) := mn (by grind) (mn (by grind) (by grind))
  have b5 : 0 ≤ (u - v) * (u + v) := a1
  have b6 : 0 ≤ (u - v) * u := mn (by grind) (by grind)
  refine ⟨by grind, by grind⟩
/-- Bounds of slopes. -/
theorem sn_slope {z w : Rat} (h : 0 ≤ w) (hw : w ≤ z) (h2 : 50 * z ≤ 79) :
    6 * (sn z - sn w) ≥ (z - w) * (6 - (z * z + z * w + w * w)) ∧
    120 * (sn z - sn w) ≤ (z - w) * (120 - 20 * (z * z + z * w + w * w) + (z * z * z * z + z * z * z * w + z * z * w * w + z * w * w * w + w * w * w * w)) := by
  have hz : 0 ≤ z := by grind
  have zz : 2 * (z * z) ≤ 5 := by
    have := mn (a := 79 / 50 - z) (b := 79 / 50 + z) (by grind) (by grind)
    grind
  have ww : w * w ≤ z * z := by
    have := mn (a := z - w) (b := z + w) (by grind) (by grind)
    grind
  have lo := p1_low (mn hz hz) zz
  have up := p1_up (mn hz hz) zz
  obtain ⟨f1, f2⟩ := p1_fall (mn h h) ww zz
  unfold sn
  have c1 := mn (a := z - w) (b := 6 * p1 (z * z) - (6 - z * z)) (by grind) (by grind)
  have c2 := mn (a := w) (b := (z * z - w * w) - 6 * (p1 (w * w) - p1 (z * z))) h (by grind)
  have c3 := mn (a := z - w) (b := 120 - 20 * (z * z) + z * z * (z * z) - 120 * p1 (z * z)) (by grind) (by grind)
  have c4 := mn (a := w) (b := 120 * (p1 (w * w) - p1 (z * z)) - (20 * (z * z - w * w) - (z * z * (z * z) - w * w * (w * w)))) h (by grind)
  refine ⟨by grind, by grind⟩
theorem sn_zero : sn 0 = 0 := by unfold sn; grind
theorem sn_up {z : Rat} (h : 0 ≤ z) (h2 : 50 * z ≤ 79) : 120 * sn z ≤ 120 * z - 20 * (z * z * z) + z * z * z * z * z := by
  have := (sn_slope (z := z) (w := 0) (by grind) h h2).2
  rw [sn_zero] at this
  grind
theorem sn_low {z : Rat} (h : 0 ≤ z) (h2 : 50 * z ≤ 79) : 6 * z - z * z * z ≤ 6 * sn z := by
  have := (sn_slope (z := z) (w := 0) (by grind) h h2).1
  rw [sn_zero] at this
  grind
/-- The upper bound of the sine grows. -/
def su (z : Rat) : Rat := 120 * z - 20 * (z * z * z) + z * z * z * z * z
theorem su_mono {z w : Rat} (h : 0 ≤ w) (hw : w ≤ z) (h2 : 50 * z ≤ 79) : su w ≤ su z := by
  have hz : 0 ≤ z := by grind
  have a := mn (mn h hz) (mn h hz)
  have q1 : 0 ≤ (z - w) * (z - w) * (4 * (z * z) + 7 * (z * w) + 4 * (w * w)) := mn (mn (by grind) (by grind)) (by have := mn hz hz; have := mn hz h; have := mn h h; grind)
  have zz : z * z ≤ 6241 / 2500 := by
    have := mn (a := 79 / 50 - z) (b := 79 / 50 + z) (by grind) (by grind)
    grind
  have ww : w * w ≤ z * z := by
    have := mn (a := z - w) (b := z + w) (by grind) (by grind)
    grind
  have zw : z * w ≤ z * z := by
    have := mn (a := z) (b := z - w) (by grind) (by grind)
    grind
  generalize hh : z * z + z * w + w * w = g at *
  have hg : 100 * g ≤ 749 := by grind
  have key : 0 ≤ 9 * 120 - 9 * 20 * g + 5 * (g * g) := by
    have := mn (a := 749 / 100 - g) (b := 749 / 100 - g) (by grind) (by grind)
    grind
  have h4 : 5 * (g * g) ≤ 9 * (z * z * z * z + z * z * z * w + z * z * w * w + z * w * w * w + w * w * w * w) := by
    rw [← hh]; grind
  have fin := mn (a := z - w) (b := 9 * 120 - 9 * 20 * g + 9 * (z * z * z * z + z * z * z * w + z * z * w * w + z * w * w * w + w * w * w * w)) (by grind) (by grind)
  unfold su
  rw [← hh] at fin
  grind
theorem sq_le {x y : Rat} (h : 0 ≤ x) (hxy : x ≤ y) : x * x ≤ y * y := by
  have := mn (a := y - x) (b := y + x) (by grind) (by grind)
  grind
theorem sn_steep {z w : Rat} (h : 0 ≤ w) (hw : w ≤ z) (h2 : 50 * z ≤ 79) : 120 * (sn z - sn w) ≤ (z - w) * (120 - 60 * (w * w) + 5 * (w * w * w * w)) := by
  have s := (sn_slope h hw h2).2
  have hz : 0 ≤ z := by grind
  have zz : z * z ≤ 3 := by have := sq_le hz (y := 79 / 50) (by grind); grind
  have ww : w * w ≤ z * z := sq_le h hw
  have wz : w * z ≤ 3 := by
    have := mn (a := z) (b := z - w) hz (by grind)
    grind
  have a1 := mn hz (b := 3 - z * z) (by grind)
  have a2 := mn h (b := 3 - z * z) (by grind)
  have a3 := mn h (b := 3 - w * z) (by grind)
  have a4 := mn h (b := 3 - w * w) (by grind)
  have := mn (mn (a := z - w) (b := z - w) (by grind) (by grind)) (b := 20 * (z + 2 * w) - (z * z * z + 2 * (z * z * w) + 3 * (z * w * w) + 4 * (w * w * w))) (by grind)
  grind
theorem sn_pos {z : Rat} (h : 0 ≤ z) (h2 : 50 * z ≤ 79) : 0 ≤ sn z := by
  have := sn_low h h2
  have : z * z ≤ 6 := by have := sq_le h (y := 79 / 50) (by grind); grind
  have := mn h (b := 6 - z * z) (by grind)
  grind
def qd (w : Rat) : Rat := 120 - 60 * (w * w) + 5 * (w * w * w * w)
theorem qd_mono {x y : Rat} (h : 0 ≤ x) (hxy : x ≤ y) (h2 : 50 * y ≤ 79) : qd y ≤ qd x := by
  have a := sq_le h hxy
  have b : y * y ≤ 3 := by have := sq_le (x := y) (y := 79 / 50) (by grind) (by grind); grind
  have := mn (a := y * y - x * x) (b := 60 - 5 * (x * x) - 5 * (y * y)) (by grind) (by grind)
  unfold qd; grind
theorem qd_pos {x : Rat} (h : 0 ≤ x) (h2 : 50 * x ≤ 51) : 0 ≤ qd x := by
  have b : x * x ≤ 3 / 2 := by have := sq_le (x := x) (y := 51 / 50) (by grind) (by grind); grind
  have := mn (mn h h) (mn h h)
  unfold qd; grind
theorem cell_of (x : Rat) (h : 0 ≤ x) : ∀ n : Nat, x ≤ (n : Rat) + 1 → ∃ k : Nat, k ≤ n ∧ (k : Rat) ≤ x ∧ x ≤ (k : Rat) + 1
  | 0, hn => ⟨0, by omega, by simpa using h, hn⟩
  | n + 1, hn => by
    by_cases h1 : x ≤ (n : Rat) + 1
    · obtain ⟨k, a, b, c⟩ := cell_of x h n h1
      exact ⟨k, by omega, b, c⟩
    · refine ⟨n + 1, by omega, ?_, hn⟩
      have : ((n + 1 : Nat) : Rat) = (n : Rat) + 1 := by simp
      grind
def cel (k : Nat) : Bool := decide (qd ((k : Rat) / 20) * su (15708 / 10000 - (k : Rat) / 20) + su (((k : Rat) + 1) / 20) * (10231 / 100) ≤ 18288)
theorem cells : (List.range 21).all cel = true := by decide +kernel
theorem cell {k : Nat} (h : k ≤ 20) : qd ((k : Rat) / 20) * su (15708 / 10000 - (k : Rat) / 20) + su (((k : Rat) + 1) / 20) * (10231 / 100) ≤ 18288 := by
  have := List.all_eq_true.mp cells k (List.mem_range.mpr (by omega))
  simpa [cel] using this
/-- The cross product of two arrows. -/
def cr (H X Y : Rat) : Rat := sn X * sn (H - Y) - sn (H - X) * sn Y
theorem cr_up {H X Y : Rat} (h : 0 ≤ Y) (hw : Y ≤ X) (h2 : 50 * X ≤ 51) (h3 : 15707 ≤ 10000 * H) (h4 : 10000 * H ≤ 15708) : 100 * cr H X Y ≤ 127 * (X - Y) := by
  have s1 := sn_steep h hw (by grind)
  have s2 := sn_steep (z := H - Y) (w := H - X) (by grind) (by grind) (by grind)
  have c0 := sn_pos (z := H - Y) (by grind) (by grind)
  have s0 := sn_pos (z := Y) h (by grind)
  have c1 := sn_up (z := H - Y) (by grind) (by grind)
  have s3 := sn_up (z := Y) h (by grind)
  have q1 := qd_mono (x := 55 / 100) (y := H - X) (by grind) (by grind) (by grind)
  obtain ⟨k, k1, k2, k3⟩ := cell_of (20 * Y) (by grind) 20 (by have : ((20 : Nat) : Rat) = 20 := rfl; grind)
  have kk : (k : Rat) ≤ 20 := by
    have : (k : Rat) ≤ ((20 : Nat) : Rat) := Rat.natCast_le_natCast.mpr k1
    simpa using this
  have k0 : (0 : Rat) ≤ (k : Rat) := Rat.natCast_nonneg
  have c := cell k1
  have e1 : (k : Rat) / 20 = (k : Rat) * (1 / 20) := by grind
  have e2 : ((k : Rat) + 1) / 20 = ((k : Rat) + 1) * (1 / 20) := by grind
  rw [e1, e2] at c
  generalize (k : Rat) = j at *
  have m1 := qd_mono (x := j * (1 / 20)) (y := Y) (by grind) (by grind) (by grind)
  have m2 := su_mono (z := 15708 / 10000 - j * (1 / 20)) (w := H - Y) (by grind) (by grind) (by grind)
  have m3 := su_mono (z := (j + 1) * (1 / 20)) (w := Y) h (by grind) (by grind)
  have p0 := qd_pos (x := Y) h (by grind)
  have p1' := qd_pos (x := j * (1 / 20)) (by grind) (by grind)
  have q55 : qd (55 / 100) ≤ 10231 / 100 := by decide +kernel
  change 120 * (sn X - sn Y) ≤ (X - Y) * qd Y at s1
  change 120 * (sn (H - Y) - sn (H - X)) ≤ (H - Y - (H - X)) * qd (H - X) at s2
  change 120 * sn (H - Y) ≤ su (H - Y) at c1
  change 120 * sn Y ≤ su Y at s3
  generalize qd (H - X) = Q at *
  generalize qd (55 / 100) = Q5 at *
  generalize qd Y = QY at *
  generalize qd (j * (1 / 20)) = Qj at *
  generalize su (H - Y) = SU at *
  generalize su (15708 / 10000 - j * (1 / 20)) = SV at *
  generalize su Y = UY at *
  generalize su ((j + 1) * (1 / 20)) = UJ at *
  unfold cr
  generalize sn (H - Y) = b at *
  generalize sn (H - X) = a at *
  generalize sn X = x at *
  generalize sn Y = y at *
  -- x b - a y = (x - y) b + y (b - a)
  have d : 0 ≤ X - Y := by grind
  have t1 := mn c0 (b := (X - Y) * QY - 120 * (x - y)) (by grind)
  have t2 := mn s0 (b := (X - Y) * Q - 120 * (b - a)) (by grind)
  have t3 := mn (mn d s0) (b := 10231 / 100 - Q) (by grind)
  have t4 := mn (mn d c0) (b := Qj - QY) (by grind)
  have t5 := mn (mn d p1') (b := SV - 120 * b) (by grind)
  have t6 := mn d (b := UJ - 120 * y) (by grind)
  have t7 := mn d (b := 18288 - (Qj * SV + UJ * (10231 / 100))) (by grind)
  grind
theorem h2_le {z w c : Rat} (h : 0 ≤ w) (hw : w ≤ z) (hc : z ≤ c) : z * z + z * w + w * w ≤ 3 * (c * c) := by
  have hz : 0 ≤ z := by grind
  have := sq_le hz hc
  have := sq_le h hw
  have := mn hz (b := z - w) (by grind)
  grind
theorem cr_low {H X Y : Rat} (h : 0 ≤ Y) (hw : Y ≤ X) (h2 : 50 * X ≤ 51) (h3 : 15707 ≤ 10000 * H) (h4 : 10000 * H ≤ 15708) : 3 * (X - Y) ≤ 10 * cr H X Y := by
  have s1 := (sn_slope h hw (by grind)).1
  have s2 := (sn_slope (z := H - Y) (w := H - X) (by grind) (by grind) (by grind)).1
  have c0 := sn_pos (z := H - Y) (by grind) (by grind)
  have s0 := sn_pos (z := Y) h (by grind)
  have c1 := sn_low (z := H - Y) (by grind) (by grind)
  have s3 := sn_low (z := Y) h (by grind)
  have y1 := (sn_slope (z := Y) (w := 0) (by grind) h (by grind)).2
  have hx := h2_le h hw (c := 51 / 50) (by grind)
  have d : 0 ≤ X - Y := by grind
  rw [sn_zero] at y1
  generalize X * X + X * Y + Y * Y = g at *
  have t1 := mn (mn d c0) (b := 3122 / 1000 - g) (by grind)
  have t0 := mn c0 (b := 6 * (sn X - sn Y) - (X - Y) * (6 - g)) (by grind)
  have w1 : 0 ≤ X - Y - 0 := by grind
  unfold cr
  by_cases y5 : 1 ≤ 2 * Y
  · have ha := h2_le (z := H - Y) (w := H - X) (c := 10708 / 10000) (by grind) (by grind) (by grind)
    have b1 : 522 ≤ 1000 * sn (H - Y) := by
      have c2 : 55 / 100 ≤ H - Y := by grind
      have c3 : H - Y ≤ 108 / 100 := by grind
      generalize H - Y = c at *
      have q1 := sq_le (x := 55 / 100) (y := c) (by grind) (by grind)
      have q2 := sq_le (x := c) (y := 108 / 100) (by grind) (by grind)
      have := mn (a := c - 55 / 100) (b := 6 - (c * c + c * (55 / 100) + (55 / 100) * (55 / 100))) (by grind) (by grind)
      grind
    have b2 : 479 ≤ 1000 * sn Y := by
      have q1 := sq_le (x := 1 / 2) (y := Y) (by grind) (by grind)
      have q2 := sq_le (x := Y) (y := 51 / 50) (by grind) (by grind)
      have := mn (a := Y - 1 / 2) (b := 6 - (Y * Y + Y * (1 / 2) + (1 / 2) * (1 / 2))) (by grind) (by grind)
      grind
    generalize (H - Y) * (H - Y) + (H - Y) * (H - X) + (H - X) * (H - X) = g2 at *
    generalize sn (H - Y) = b at *
    generalize sn (H - X) = a at *
    generalize sn X = x at *
    generalize sn Y = y at *
    have t2 := mn s0 (b := 6 * (b - a) - (H - Y - (H - X)) * (6 - g2)) (by grind)
    have t3 := mn (mn d s0) (b := 344 / 100 - g2) (by grind)
    have t4 := mn d (b := b - 522 / 1000) (by grind)
    have t5 := mn d (b := y - 479 / 1000) (by grind)
    grind
  · by_cases y4 : 1 ≤ 4 * Y
    · have ha := h2_le (z := H - Y) (w := H - X) (c := 13208 / 10000) (by grind) (by grind) (by grind)
      have b1 : 86 ≤ 100 * sn (H - Y) := by
        have c2 : 107 / 100 ≤ H - Y := by grind
        have c3 : H - Y ≤ 13208 / 10000 := by grind
        generalize H - Y = c at *
        have q2 := sq_le (x := c) (y := 13208 / 10000) (by grind) (by grind)
        have := mn (a := c - 107 / 100) (b := 6 - (c * c + c * (107 / 100) + (107 / 100) * (107 / 100))) (by grind) (by grind)
        grind
      generalize (H - Y) * (H - Y) + (H - Y) * (H - X) + (H - X) * (H - X) = g2 at *
      generalize sn (H - Y) = b at *
      generalize sn (H - X) = a at *
      generalize sn X = x at *
      generalize sn Y = y at *
      have t2 := mn s0 (b := 6 * (b - a) - (H - Y - (H - X)) * (6 - g2)) (by grind)
      have t3 := mn (mn d s0) (b := 6 - g2) (by grind)
      have t4 := mn d (b := b - 86 / 100) (by grind)
      grind
    · have ha := h2_le (z := H - Y) (w := H - X) (c := 15708 / 10000) (by grind) (by grind) (by grind)
      have b1 : 776 ≤ 1000 * sn (H - Y) := by
        have c2 : 132 / 100 ≤ H - Y := by grind
        have c3 : H - Y ≤ 15708 / 10000 := by grind
        generalize H - Y = c at *
        have q2 := sq_le (x := c) (y := 15708 / 10000) (by grind) (by grind)
        have := mn (a := c - 132 / 100) (b := 6 - c * c) (by grind) (by grind)
        grind
      have b2 : sn Y ≤ Y := by
        have q2 := sq_le (x := Y) (y := 1) (by grind) (by grind)
        have := mn (mn (mn h h) h) (b := 20 - Y * Y) (by grind)
        grind
      generalize (H - Y) * (H - Y) + (H - Y) * (H - X) + (H - X) * (H - X) = g2 at *
      generalize sn (H - Y) = b at *
      generalize sn (H - X) = a at *
      generalize sn X = x at *
      generalize sn Y = y at *
      have t2 := mn s0 (b := 6 * (b - a) - (H - Y - (H - X)) * (6 - g2)) (by grind)
      have t3 := mn (mn d s0) (b := 741 / 100 - g2) (by grind)
      have t4 := mn d (b := b - 776 / 1000) (by grind)
      have t5 := mn d (b := 1 / 4 - y) (by grind)
      grind
end agr


namespace agr
open Ieee fp
def e : Rat := 1 / 1000000000000
def e7 : Rat := 1 / 10000000
theorem tw52 : tw (-(double.fractionBits : Int)) * 4503599627370496 = 1 := by
  have h := tw_add (-52) ((52 : Nat) : Int)
  rw [tw_nat, show (-52 : Int) + ((52 : Nat) : Int) = 0 by omega, tw_zero] at h
  have c : (((2 ^ 52 : Nat) : Nat) : Rat) = (4503599627370496 : Rat) := rfl
  rw [c] at h
  exact h.symm
theorem twd : tw double.leastPlace ≤ tw (-(double.fractionBits : Int)) := tw_mono (by decide)
theorem tws : tw single.leastPlace * 1000000000000 ≤ 1 := by
  have h1 : tw single.leastPlace ≤ tw (-(double.fractionBits : Int)) := tw_mono (by decide)
  have := tw52
  grind
theorem dbnd {t : Rat} (h : t * 4503599627370496 = 1) {l : Rat} (hl : l ≤ t) : 32 * t + l ≤ e := by unfold e; grind
theorem dadd {a b : Nat} {x y : Rat} (ha : D a x) (hb : D b y) (h1 : -8 ≤ x + y) (h2 : x + y ≤ 8) : ∃ z, D (fadd .f64 a b) z ∧ z ≤ x + y + e ∧ x + y ≤ z + e ∧ (0 ≤ x + y → 0 ≤ z) ∧ (x + y ≤ 0 → z ≤ 0) := by
  obtain ⟨w, z, hw, vz, l1, l2, wh⟩ := add_val rm_double ha hb h1 h2 (by have := big (n := 8) (by omega); exact this)
  have bb := dbnd tw52 twd
  have t0 := tw_pos (-(double.fractionBits : Int))
  have l0 := tw_pos double.leastPlace
  have top : (100 : Rat) ≤ tw ((double.fractionBits : Int) + 1) := by
    have : tw ((double.fractionBits : Int) + 1) = ((2 ^ 53 : Nat) : Rat) := tw_nat 53
    rw [this]; have c : (((2 ^ 53 : Nat) : Nat) : Rat) = 9007199254740992 := rfl
    rw [c]; grind
  have w0 := wh (by grind) (by grind) 0
  refine ⟨z, ?_, by grind, by grind, fun h => by have := w0.2 (by simpa using h); simpa using this, fun h => by have := w0.1 (by simpa using h); simpa using this⟩
  have e1 : fadd .f64 a b = w := by show (double.add a b).getD _ = w; rw [hw]; rfl
  rw [e1]; exact vz
theorem dsub {a b : Nat} {x y : Rat} (ha : D a x) (hb : D b y) (h1 : -8 ≤ x - y) (h2 : x - y ≤ 8) : ∃ z, D (fsub .f64 a b) z ∧ z ≤ x - y + e ∧ x - y ≤ z + e ∧ (0 ≤ x - y → 0 ≤ z) ∧ (x - y ≤ 0 → z ≤ 0) := by
  obtain ⟨w, z, hw, vz, l1, l2, wh⟩ := sub_val rm_double ha hb h1 h2 (by have := big (n := 8) (by omega); exact this)
  have bb := dbnd tw52 twd
  have t0 := tw_pos (-(double.fractionBits : Int))
  have l0 := tw_pos double.leastPlace
  have top : (100 : Rat) ≤ tw ((double.fractionBits : Int) + 1) := by
    have : tw ((double.fractionBits : Int) + 1) = ((2 ^ 53 : Nat) : Rat) := tw_nat 53
    rw [this]; have c : (((2 ^ 53 : Nat) : Nat) : Rat) = 9007199254740992 := rfl
    rw [c]; grind
  have w0 := wh (by grind) (by grind) 0
  refine ⟨z, ?_, by grind, by grind, fun h => by have := w0.2 (by simpa using h); simpa using this, fun h => by have := w0.1 (by simpa using h); simpa using this⟩
  have e1 : fsub .f64 a b = w := by show (double.sub a b).getD _ = w; rw [hw]; rfl
  rw [e1]; exact vz
theorem dmul {a b : Nat} {x y : Rat} (ha : D a x) (hb : D b y) (h1 : -8 ≤ x * y) (h2 : x * y ≤ 8) : ∃ z, D (fmul .f64 a b) z ∧ z ≤ x * y + e ∧ x * y ≤ z + e ∧ (0 ≤ x * y → 0 ≤ z) := by
  obtain ⟨w, z, hw, vz, l1, l2, wh⟩ := mul_val rm_double ha hb h1 h2 (by have := big (n := 8) (by omega); exact this)
  have bb := dbnd tw52 twd
  have t0 := tw_pos (-(double.fractionBits : Int))
  have l0 := tw_pos double.leastPlace
  have top : (100 : Rat) ≤ tw ((double.fractionBits : Int) + 1) := by
    have : tw ((double.fractionBits : Int) + 1) = ((2 ^ 53 : Nat) : Rat) := tw_nat 53
    rw [this]; have c : (((2 ^ 53 : Nat) : Nat) : Rat) = 9007199254740992 := rfl
    rw [c]; grind
  have w0 := wh (by grind) (by grind) 0
  refine ⟨z, ?_, by grind, by grind, fun h => by have := w0.2 (by simpa using h); simpa using this⟩
  have e1 : fmul .f64 a b = w := by show (double.mul a b).getD _ = w; rw [hw]; rfl
  rw [e1]; exact vz
theorem ddiv {a b : Nat} {x y v : Rat} (ha : D a x) (hb : D b y) (hy : y ≠ 0) (hv : v * y = x) (h1 : -8 ≤ v) (h2 : v ≤ 8) : ∃ z, D (fdiv .f64 a b) z ∧ z ≤ v + e ∧ v ≤ z + e ∧ (0 ≤ v → 0 ≤ z) := by
  obtain ⟨w, z, hw, vz, l1, l2, _, p, _⟩ := div_val rm_double ha hb hy hv h1 h2 (by have := big (n := 16) (by omega); have c : ((16 : Nat) : Rat) = 16 := rfl; rw [c] at this; grind)
  have bb := dbnd tw52 twd
  have t0 := tw_pos (-(double.fractionBits : Int))
  have l0 := tw_pos double.leastPlace
  refine ⟨z, ?_, by grind, by grind, p⟩
  have e1 : fdiv .f64 a b = w := by show (double.div a b).getD _ = w; rw [hw]; rfl
  rw [e1]; exact vz
theorem tw23 : tw (-(single.fractionBits : Int)) * 8388608 = 1 := by
  have := u_one; exact this
theorem sbnd {t : Rat} (h : t * 8388608 = 1) {l : Rat} (hl : l * 1000000000000 ≤ 1) {B : Rat} (hB : 1 ≤ B) : B * t + l ≤ 2 * (B * e7) := by
  have : 0 ≤ (B - 1) * (2 / 10000000 - t) := mn (by grind) (by grind)
  unfold e7; grind
theorem sbig {B : Rat} (h : B ≤ 100000) : B ≤ tw 100 := by
  have := big (n := 100000) (by omega)
  have c : ((100000 : Nat) : Rat) = 100000 := rfl
  rw [c] at this; grind
theorem sadd {a b : Nat} {x y : Rat} (B : Rat) (ha : V a x) (hb : V b y) (h1 : -B ≤ x + y) (h2 : x + y ≤ B) (h3 : 1 ≤ B) (h4 : B ≤ 100000) : ∃ z, V (fadd .f32 a b) z ∧ z ≤ x + y + B * e7 ∧ x + y ≤ z + B * e7 := by
  obtain ⟨w, z, hw, vz, l1, l2, wh⟩ := add_val rm_single ha hb h1 h2 (sbig h4)
  have bb := sbnd tw23 tws h3
  refine ⟨z, ?_, by grind, by grind⟩
  have e1 : fadd .f32 a b = w := by show (single.add a b).getD _ = w; rw [hw]; rfl
  rw [e1]; exact vz
theorem ssub {a b : Nat} {x y : Rat} (B : Rat) (ha : V a x) (hb : V b y) (h1 : -B ≤ x - y) (h2 : x - y ≤ B) (h3 : 1 ≤ B) (h4 : B ≤ 100000) : ∃ z, V (fsub .f32 a b) z ∧ z ≤ x - y + B * e7 ∧ x - y ≤ z + B * e7 := by
  obtain ⟨w, z, hw, vz, l1, l2, wh⟩ := sub_val rm_single ha hb h1 h2 (sbig h4)
  have bb := sbnd tw23 tws h3
  refine ⟨z, ?_, by grind, by grind⟩
  have e1 : fsub .f32 a b = w := by show (single.sub a b).getD _ = w; rw [hw]; rfl
  rw [e1]; exact vz
theorem smul {a b : Nat} {x y : Rat} (B : Rat) (ha : V a x) (hb : V b y) (h1 : -B ≤ x * y) (h2 : x * y ≤ B) (h3 : 1 ≤ B) (h4 : B ≤ 100000) : ∃ z, V (fmul .f32 a b) z ∧ z ≤ x * y + B * e7 ∧ x * y ≤ z + B * e7 := by
  obtain ⟨w, z, hw, vz, l1, l2, wh⟩ := mul_val rm_single ha hb h1 h2 (sbig h4)
  have bb := sbnd tw23 tws h3
  refine ⟨z, ?_, by grind, by grind⟩
  have e1 : fmul .f32 a b = w := by show (single.mul a b).getD _ = w; rw [hw]; rfl
  rw [e1]; exact vz
theorem sdiv {a b : Nat} {x y v : Rat} (ha : V a x) (hb : V b y) (hy : y ≠ 0) (hv : v * y = x) (h1 : -2 ≤ v) (h2 : v ≤ 2) : ∃ z, V (fdiv .f32 a b) z ∧ z ≤ v + 8 * e7 ∧ v ≤ z + 8 * e7 := by
  obtain ⟨w, z, hw, vz, l1, l2, _⟩ := div_val rm_single ha hb hy hv h1 h2 (sbig (by grind))
  have bb := sbnd tw23 tws (B := 8) (by grind)
  refine ⟨z, ?_, by grind, by grind⟩
  have e1 : fdiv .f32 a b = w := by show (single.div a b).getD _ = w; rw [hw]; rfl
  rw [e1]; exact vz
theorem sg_abs (s : Bool) : (sg s = 1 ∨ sg s = -1) := by cases s <;> simp [sg] <;> grind
/-- From double to single. -/
theorem dnar {a : Nat} {x : Rat} (ha : D a x) (h1 : -4 ≤ x) (h2 : x ≤ 4) : ∃ z, V (nar.sv a) z ∧ z ≤ x + 4 * e7 ∧ x ≤ z + 4 * e7 := by
  obtain ⟨s, m, p, hr, hp, rfl⟩ := ha
  have m0 : (0 : Rat) ≤ (m : Rat) * tw p := mn Rat.natCast_nonneg (Rat.le_of_lt (tw_pos p))
  have hb : (m : Rat) * tw p ≤ 4 := by rcases sg_abs s with h | h <;> rw [h] at h1 h2 <;> grind
  obtain ⟨z, vz, z0, l1, l2, _⟩ := write_val rm_single s (m := m) (p := p) (Rat.le_trans hb (sbig (by grind)))
  have bb := sbnd tw23 tws (B := 4) (by grind)
  have t0 := tw_pos (-(single.fractionBits : Int))
  have k : 0 ≤ (4 - (m : Rat) * tw p) * tw (-(single.fractionBits : Int)) := mn (by grind) (Rat.le_of_lt t0)
  refine ⟨sg s * z, ?_, ?_, ?_⟩
  · show V (FloatKind.f32.encode (FloatKind.f64.decode a)) _
    have : FloatKind.f64.decode a = .number s m p := hr
    rw [this]; exact vz
  · rcases sg_abs s with h | h <;> rw [h] <;> grind
  · rcases sg_abs s with h | h <;> rw [h] <;> grind
end agr

namespace agr
open Ieee fp
theorem dlit {w m p : Nat} (h : double.read w = .number false m (-(p : Int)) ∧ p ≤ 1074) : D w ((m : Rat) * tw (-(p : Int))) :=
  ⟨false, m, -(p : Int), h.1, by show (-1074 : Int) ≤ _; omega, by simp only [sg, Bool.false_eq_true, if_false, Rat.one_mul]⟩
theorem dtw {p : Nat} {q : Rat} (h : ((2 ^ p : Nat) : Rat) = q) : tw (-(p : Int)) = 1 / q := by
  have e1 := tw_add (-(p : Int)) (p : Int)
  rw [tw_nat, show (-(p : Int)) + (p : Int) = 0 by omega, tw_zero, h] at e1
  have q0 : q ≠ 0 := by intro h0; rw [h0] at e1; grind
  have := Rat.mul_inv_cancel q q0
  rw [Rat.div_def]; grind
theorem d_one : D 4607182418800017408 (1) := by
  have := dlit (w := 4607182418800017408) (m := 4503599627370496) (p := 52) (by decide +kernel)
  have c2 : (((4503599627370496 : Nat) : Rat)) = 4503599627370496 := rfl
  rw [c2, dtw (p := 52) (q := 4503599627370496) rfl] at this
  have e1 : (4503599627370496 : Rat) * (1 / 4503599627370496) = 1 := by grind
  rw [e1] at this; exact this
theorem d_half : D 4602678819172646912 (1 / 2) := by
  have := dlit (w := 4602678819172646912) (m := 4503599627370496) (p := 53) (by decide +kernel)
  have c2 : (((4503599627370496 : Nat) : Rat)) = 4503599627370496 := rfl
  rw [c2, dtw (p := 53) (q := 9007199254740992) rfl] at this
  have e1 : (4503599627370496 : Rat) * (1 / 9007199254740992) = 1 / 2 := by grind
  rw [e1] at this; exact this
theorem d_quarter : D 4598175219545276416 (1 / 4) := by
  have := dlit (w := 4598175219545276416) (m := 4503599627370496) (p := 54) (by decide +kernel)
  have c2 : (((4503599627370496 : Nat) : Rat)) = 4503599627370496 := rfl
  rw [c2, dtw (p := 54) (q := 18014398509481984) rfl] at this
  have e1 : (4503599627370496 : Rat) * (1 / 18014398509481984) = 1 / 4 := by grind
  rw [e1] at this; exact this
def TT : Rat := 7074237752028440 / 1125899906842624
theorem d_turn0 : D 4618760256179416344 (7074237752028440 / 1125899906842624) := by
  have := dlit (w := 4618760256179416344) (m := 7074237752028440) (p := 50) (by decide +kernel)
  have c2 : (((7074237752028440 : Nat) : Rat)) = 7074237752028440 := rfl
  rw [c2, dtw (p := 50) (q := 1125899906842624) rfl] at this
  have e1 : (7074237752028440 : Rat) * (1 / 1125899906842624) = 7074237752028440 / 1125899906842624 := by grind
  rw [e1] at this; exact this
theorem d_turn : D 4618760256179416344 TT := d_turn0
theorem TT_low : 62830 ≤ 10000 * TT := by unfold TT; grind
theorem TT_up : 10000 * TT ≤ 62832 := by unfold TT; grind
theorem TT_low2 : 15707 ≤ 10000 * (TT / 4) := by unfold TT; grind
theorem TT_up2 : 10000 * (TT / 4) ≤ 15708 := by unfold TT; grind
theorem den1 : D (fl.den 1) 6 := by
  have := dlit (w := fl.den 1) (m := 6755399441055744) (p := 50) (by decide +kernel)
  have c : (((1125899906842624 : Nat) : Rat)) = 1125899906842624 := rfl
  have c2 : (((6755399441055744 : Nat) : Rat)) = 6755399441055744 := rfl
  rw [c2, dtw (p := 50) (q := 1125899906842624) rfl] at this
  have e1 : (6755399441055744 : Rat) * (1 / 1125899906842624) = 6 := by grind
  rw [e1] at this; exact this
theorem den2 : D (fl.den 2) 20 := by
  have := dlit (w := fl.den 2) (m := 5629499534213120) (p := 48) (by decide +kernel)
  have c : (((281474976710656 : Nat) : Rat)) = 281474976710656 := rfl
  have c2 : (((5629499534213120 : Nat) : Rat)) = 5629499534213120 := rfl
  rw [c2, dtw (p := 48) (q := 281474976710656) rfl] at this
  have e1 : (5629499534213120 : Rat) * (1 / 281474976710656) = 20 := by grind
  rw [e1] at this; exact this
theorem den3 : D (fl.den 3) 42 := by
  have := dlit (w := fl.den 3) (m := 5910974510923776) (p := 47) (by decide +kernel)
  have c : (((140737488355328 : Nat) : Rat)) = 140737488355328 := rfl
  have c2 : (((5910974510923776 : Nat) : Rat)) = 5910974510923776 := rfl
  rw [c2, dtw (p := 47) (q := 140737488355328) rfl] at this
  have e1 : (5910974510923776 : Rat) * (1 / 140737488355328) = 42 := by grind
  rw [e1] at this; exact this
theorem den4 : D (fl.den 4) 72 := by
  have := dlit (w := fl.den 4) (m := 5066549580791808) (p := 46) (by decide +kernel)
  have c : (((70368744177664 : Nat) : Rat)) = 70368744177664 := rfl
  have c2 : (((5066549580791808 : Nat) : Rat)) = 5066549580791808 := rfl
  rw [c2, dtw (p := 46) (q := 70368744177664) rfl] at this
  have e1 : (5066549580791808 : Rat) * (1 / 70368744177664) = 72 := by grind
  rw [e1] at this; exact this
theorem den5 : D (fl.den 5) 110 := by
  have := dlit (w := fl.den 5) (m := 7740561859543040) (p := 46) (by decide +kernel)
  have c : (((70368744177664 : Nat) : Rat)) = 70368744177664 := rfl
  have c2 : (((7740561859543040 : Nat) : Rat)) = 7740561859543040 := rfl
  rw [c2, dtw (p := 46) (q := 70368744177664) rfl] at this
  have e1 : (7740561859543040 : Rat) * (1 / 70368744177664) = 110 := by grind
  rw [e1] at this; exact this
theorem den6 : D (fl.den 6) 156 := by
  have := dlit (w := fl.den 6) (m := 5488762045857792) (p := 45) (by decide +kernel)
  have c : (((35184372088832 : Nat) : Rat)) = 35184372088832 := rfl
  have c2 : (((5488762045857792 : Nat) : Rat)) = 5488762045857792 := rfl
  rw [c2, dtw (p := 45) (q := 35184372088832) rfl] at this
  have e1 : (5488762045857792 : Rat) * (1 / 35184372088832) = 156 := by grind
  rw [e1] at this; exact this
theorem den7 : D (fl.den 7) 210 := by
  have := dlit (w := fl.den 7) (m := 7388718138654720) (p := 45) (by decide +kernel)
  have c : (((35184372088832 : Nat) : Rat)) = 35184372088832 := rfl
  have c2 : (((7388718138654720 : Nat) : Rat)) = 7388718138654720 := rfl
  rw [c2, dtw (p := 45) (q := 35184372088832) rfl] at this
  have e1 : (7388718138654720 : Rat) * (1 / 35184372088832) = 210 := by grind
  rw [e1] at this; exact this
theorem den8 : D (fl.den 8) 272 := by
  have := dlit (w := fl.den 8) (m := 4785074604081152) (p := 44) (by decide +kernel)
  have c : (((17592186044416 : Nat) : Rat)) = 17592186044416 := rfl
  have c2 : (((4785074604081152 : Nat) : Rat)) = 4785074604081152 := rfl
  rw [c2, dtw (p := 44) (q := 17592186044416) rfl] at this
  have e1 : (4785074604081152 : Rat) * (1 / 17592186044416) = 272 := by grind
  rw [e1] at this; exact this
theorem e_eq : e * 1000000000000 = 1 := by unfold e; grind
theorem pstep {u p k : Nat} {x y d : Rat} {q : Rat → Rat} (g : G q) (hd : D (fl.den k) d) (h6 : 6 ≤ d) (hu : D u x) (h0 : 0 ≤ x) (h5 : 2 * x ≤ 5) (hp : D p y) (h1 : y ≤ q x + 10 * e) (h2 : q x ≤ y + 10 * e) :
    ∃ z, D (fsub .f64 4607182418800017408 (fdiv .f64 (fmul .f64 u p) (fl.den k))) z ∧ z ≤ nx d q x + 10 * e ∧ nx d q x ≤ z + 10 * e := by
  have ee := e_eq
  have q0 := g.pos h0 h5
  have q1 := g.one x h0 h5
  have a1 := mn h0 (b := q x + 10 * e - y) (by grind)
  have a2 := mn h0 (b := y + 10 * e - q x) (by grind)
  have a3 := mn h0 q0
  have a4 := mn h0 (b := 1 - q x) (by grind)
  have e0 : 0 ≤ e := by grind
  have a5 := mn e0 (b := 5 - 2 * x) (by grind)
  have a6 := mn e0 h0
  have lo : -8 ≤ x * y := by clear hu hp hd; grind
  have up : x * y ≤ 8 := by clear hu hp hd; grind
  have k1 : x * y ≤ x * q x + 25 * e := by clear hu hp hd; grind
  have k2 : x * q x ≤ x * y + 25 * e := by clear hu hp hd; grind
  obtain ⟨z1, v1, b1, b2, _⟩ := dmul hu hp lo up
  have d0 : d ≠ 0 := by intro h; grind
  have di : d * d⁻¹ = 1 := Rat.mul_inv_cancel d d0
  have i0 : 0 ≤ d⁻¹ := dpos h6 (by grind)
  have i1 := six h6 i0 (b := 1) (by grind)
  have c1 := mn i0 (b := 25 * e + e + x * q x - z1) (by grind)
  have c2 := mn i0 (b := 25 * e + e + z1 - x * q x) (by grind)
  have c3 : 0 ≤ e * (1 - 6 * d⁻¹) := mn (by grind) (by grind)
  have c4 : 0 ≤ d⁻¹ * (3 - z1) := mn i0 (by grind)
  have c5 : 0 ≤ d⁻¹ * (3 + z1) := mn i0 (by grind)
  obtain ⟨z2, v2, b3, b4, _⟩ := ddiv (v := z1 * d⁻¹) v1 hd d0 (by grind) (by grind) (by grind)
  obtain ⟨z3, v3, b5, b6, _⟩ := dsub d_one v2 (by grind) (by grind)
  refine ⟨z3, v3, ?_, ?_⟩
  · unfold nx; rw [Rat.div_def]; grind
  · unfold nx; rw [Rat.div_def]; grind
theorem series {u : Nat} {x : Rat} (hu : D u x) (h0 : 0 ≤ x) (h5 : 2 * x ≤ 5) : ∃ z, D (fl.pk.sv u 8 4607182418800017408) z ∧ z ≤ p1 x + 10 * e ∧ p1 x ≤ z + 10 * e := by
  have ee := e_eq
  obtain ⟨z8, v8, a8, b8⟩ := pstep G.const den8 (by grind) hu h0 h5 d_one (by grind) (by grind)
  have g8 := G.const.next (d := 272) (by grind)
  obtain ⟨z7, v7, a7, b7⟩ := pstep g8 den7 (by grind) hu h0 h5 v8 a8 b8
  have g7 := g8.next (d := 210) (by grind)
  obtain ⟨z6, v6, a6, b6⟩ := pstep g7 den6 (by grind) hu h0 h5 v7 a7 b7
  have g6 := g7.next (d := 156) (by grind)
  obtain ⟨z5, v5, a5, b5⟩ := pstep g6 den5 (by grind) hu h0 h5 v6 a6 b6
  have g5 := g6.next (d := 110) (by grind)
  obtain ⟨z4, v4, a4, b4⟩ := pstep g5 den4 (by grind) hu h0 h5 v5 a5 b5
  have g4 := g5.next (d := 72) (by grind)
  obtain ⟨z3, v3, a3, b3⟩ := pstep g4 den3 (by grind) hu h0 h5 v4 a4 b4
  have g3 := g4.next (d := 42) (by grind)
  obtain ⟨z2, v2, a2, b2⟩ := pstep g3 den2 (by grind) hu h0 h5 v3 a3 b3
  have g2 := g3.next (d := 20) (by grind)
  obtain ⟨z1, v1, a1, b1⟩ := pstep g2 den1 (by grind) hu h0 h5 v2 a2 b2
  exact ⟨z1, v1, a1, b1⟩
theorem p1_lip {u v t : Rat} (h : 0 ≤ u) (h2 : 2 * u ≤ 5) (h3 : 0 ≤ v) (h4 : 2 * v ≤ 5) (a : u ≤ v + t) (b : v ≤ u + t) : p1 u ≤ p1 v + t ∧ p1 v ≤ p1 u + t := by
  rcases (Rat.le_total : u ≤ v ∨ v ≤ u) with c | c
  · obtain ⟨f1, f2⟩ := p1_fall h c h4
    have := mn (a := v - u) (b := 20 - (v + u)) (by grind) (by grind)
    exact ⟨by grind, by grind⟩
  · obtain ⟨f1, f2⟩ := p1_fall h3 c h2
    have := mn (a := u - v) (b := 20 - (v + u)) (by grind) (by grind)
    exact ⟨by grind, by grind⟩
theorem sn_lip1 {z w : Rat} (h : 0 ≤ w) (hw : w ≤ z) (h2 : 50 * z ≤ 79) : sn z ≤ sn w + (z - w) ∧ sn w ≤ sn z + (z - w) := by
  obtain ⟨s1, s2⟩ := sn_slope h hw h2
  have s3 := sn_steep h hw h2
  have hz : 0 ≤ z := by grind
  have g := h2_le h hw (c := 79 / 50) (by grind)
  have w3 : w * w ≤ 3 := by have := sq_le h (y := 79 / 50) (by grind); grind
  have a := mn (a := z - w) (b := 12 - (z * z + z * w + w * w)) (by grind) (by grind)
  have b := mn (mn (a := z - w) (b := w * w) (by grind) (mn h h)) (b := 60 - 5 * (w * w)) (by grind)
  exact ⟨by grind, by grind⟩
theorem sn_lip {z w t : Rat} (h : 0 ≤ w) (h2 : 50 * w ≤ 79) (h3 : 0 ≤ z) (h4 : 50 * z ≤ 79) (a : z ≤ w + t) (b : w ≤ z + t) : sn z ≤ sn w + t ∧ sn w ≤ sn z + t := by
  rcases (Rat.le_total : z ≤ w ∨ w ≤ z) with c | c
  · have := sn_lip1 h3 c h2
    exact ⟨by grind, by grind⟩
  · have := sn_lip1 h c h4
    exact ⟨by grind, by grind⟩
theorem ge_val {a b : Nat} {x y : Rat} (ha : D a x) (hb : D b y) : fl.ge.sp a b = decide (y ≤ x) := by
  obtain ⟨o, ho, h1, h2, h3⟩ := d_order ha hb
  unfold fl.ge.sp
  rw [ho]
  cases o
  · have : ¬ y ≤ x := by have := h1.1 rfl; grind
    simp [this]
  · have : y ≤ x := by have := h2.1 rfl; grind
    simp [this]
  · have : y ≤ x := by have := h3.1 rfl; grind
    simp [this]
theorem le_val {a b : Nat} {x y : Rat} (ha : D a x) (hb : D b y) : fl.le.sp a b = decide (x ≤ y) := by
  obtain ⟨o, ho, h1, h2, h3⟩ := d_order ha hb
  unfold fl.le.sp
  rw [ho]
  cases o
  · have : x ≤ y := by have := h1.1 rfl; grind
    simp [this]
  · have : x ≤ y := by have := h2.1 rfl; grind
    simp [this]
  · have : ¬ x ≤ y := by have := h3.1 rfl; grind
    simp [this]
theorem gt_val {a b : Nat} {x y : Rat} (ha : D a x) (hb : D b y) : fl.gt.sp a b = decide (y < x) := by
  obtain ⟨o, ho, h1, h2, h3⟩ := d_order ha hb
  unfold fl.gt.sp
  rw [ho]
  cases o
  · have : ¬ y < x := by have := h1.1 rfl; grind
    simp [this]
  · have : ¬ y < x := by have := h2.1 rfl; grind
    simp [this]
  · have : y < x := by have := h3.1 rfl; grind
    simp [this]
theorem d_zero : D 0 0 := ⟨false, 0, -1074, by rfl, by decide, by simp⟩
theorem nearest0 : FloatKind.f64.nearest 0 = 0 := by decide +kernel
/-- Nothing whole is in a number below one. -/
theorem fti_zero {w : Nat} {x : Rat} (hw : D w x) (h0 : 0 ≤ x) (h1 : x < 1) : fti.sv .f64 w = 0 := by
  obtain ⟨s, m, p, hr, hp, rfl⟩ := hw
  have hm : m = 0 ∨ (p < 0 ∧ m < 2 ^ (-p).toNat) := by
    by_cases m0 : m = 0
    · exact .inl m0
    · right
      have m1 : (1 : Rat) ≤ (m : Rat) := by
        have : ((1 : Nat) : Rat) ≤ (m : Rat) := Rat.natCast_le_natCast.mpr (by omega)
        simpa using this
      have tp := tw_pos p
      have hlt : (m : Rat) * tw p < 1 := by
        rcases sg_abs s with h | h
        · rw [h] at h1; grind
        · rw [h] at h0
          have := mn (a := (m : Rat) - 1) (b := tw p) (by grind) (by grind)
          grind
      have hneg : p < 0 := by
        rcases Int.lt_or_le p 0 with h | h
        · exact h
        · exfalso
          have t1 : 1 ≤ tw p := by
            have := tw_mono h
            rw [tw_zero] at this; exact this
          have := mn (a := (m : Rat) - 1) (b := tw p) (by grind) (by grind)
          grind
      refine ⟨hneg, ?_⟩
      obtain ⟨n, rfl⟩ : ∃ n : Nat, p = -(n : Int) := ⟨(-p).toNat, by omega⟩
      rw [show (-(-(n : Int))).toNat = n by omega]
      have q := tw_add (-(n : Int)) (n : Int)
      rw [tw_nat, show (-(n : Int)) + (n : Int) = 0 by omega, tw_zero] at q
      have : (m : Rat) < ((2 ^ n : Nat) : Rat) := by
        by_cases h : (m : Rat) < ((2 ^ n : Nat) : Rat)
        · exact h
        · exfalso
          have := mn (a := (m : Rat) - ((2 ^ n : Nat) : Rat)) (b := tw (-(n : Int))) (by grind) (by grind)
          grind
      exact Rat.natCast_lt_natCast.mp this
  unfold fti.sv
  have hd : FloatKind.f64.decode w = .number s m p := hr
  rw [hd]
  unfold Datum.toInt Datum.integral
  have hc : Toward.zero.cut s (m <<< p.toNat) (-p).toNat = 0 := by
    rw [fl.trunc_eq]
    rcases hm with rfl | ⟨h, h'⟩
    · simp
    · rw [show p.toNat = 0 by omega, Nat.shiftLeft_zero]
      exact Nat.div_eq_of_lt h'
  simp only [hc]
  cases s <;> rfl
theorem sine_ok {w : Nat} {x : Rat} (hw : D w x) (h0 : 0 ≤ x) (h1 : x ≤ 1 / 4 + e) : ∃ z, D (fl.sn.sv w) z ∧ z ≤ sn (TT * x) + 300 * e ∧ sn (TT * x) ≤ z + 300 * e := by
  have ee := e_eq
  have tl := TT_low
  have tu := TT_up
  have fz := fti_zero hw h0 (by grind)
  obtain ⟨f, vf, f1, f2, f3, _⟩ := dsub hw d_zero (by grind) (by grind)
  have hf : fl.fr.sv w = fsub .f64 w 0 := by
    unfold fl.fr.sv
    rw [fz, nearest0]
    obtain ⟨o, ho, o1, _, _⟩ := d_order vf d_zero
    rw [ho]
    have : o ≠ .lt := fun h => by have := o1.1 h; grind
    cases o <;> simp at this ⊢
  have t0 : fl.t.sp w = false := by
    unfold fl.t.sp
    rw [hf, ge_val vf d_half]
    have : ¬ (1 / 2 : Rat) ≤ f := by grind
    simpa using this
  have vf2 : ∃ y, D (fl.f2.sv w) y ∧ 0 ≤ y ∧ y ≤ x + 6 * e ∧ x ≤ y + 6 * e := by
    unfold fl.f2.sv fl.f1.sv
    rw [t0, cond_false, hf, gt_val vf d_quarter]
    by_cases hq : 1 / 4 < f
    · rw [decide_eq_true hq, cond_true]
      obtain ⟨y, vy, y1, y2, _⟩ := dsub d_half vf (by grind) (by grind)
      exact ⟨y, vy, by grind, by grind, by grind⟩
    · rw [decide_eq_false hq, cond_false]
      exact ⟨f, vf, by grind, by grind, by grind⟩
  obtain ⟨y, vy, y0, y1, y2⟩ := vf2
  have y3 : y ≤ 251 / 1000 := by grind
  have my := mn y0 (b := TT) (by grind)
  have mx := mn h0 (b := TT) (by grind)
  have m1 := mn y0 (b := 62832 / 10000 - TT) (by grind)
  have m2 := mn h0 (b := 62832 / 10000 - TT) (by grind)
  have m5 := mn (a := x + 6 * e - y) (b := TT) (by grind) (by grind)
  have m6 := mn (a := y + 6 * e - x) (b := TT) (by grind) (by grind)
  have m7 := mn (a := e) (b := 62832 / 10000 - TT) (by grind) (by grind)
  obtain ⟨z1, v1, a1, a2, a3⟩ := dmul vy d_turn (by grind) (by grind)
  have a0 := a3 my
  have k1 : z1 ≤ TT * x + 40 * e := by clear hw vf vy v1; grind
  have k2 : TT * x ≤ z1 + 40 * e := by clear hw vf vy v1; grind
  have Z0 : 0 ≤ TT * x := by grind
  have Z1 : 50 * (TT * x) ≤ 79 := by clear hw vf vy v1; grind
  generalize hZ : TT * x = Z at *
  have z5 : z1 ≤ 1571 / 1000 := by clear hw vf vy v1; grind
  have q0 := mn a0 a0
  have q1 : z1 * z1 ≤ 248 / 100 := by
    have := sq_le a0 z5
    grind
  obtain ⟨ux, vu, u1, u2, u3⟩ := dmul v1 v1 (by grind) (by grind)
  have u0 := u3 q0
  obtain ⟨p, vp, p1_, p2_⟩ := series vu u0 (by grind)
  have b0 := g3
  have P := p1_low u0 (by grind)
  have Pu := p1_up u0 (by grind)
  have uu := mn u0 (b := 20 - ux) (by grind)
  have p0 : 0 ≤ p := by grind
  have p4 : p ≤ 1 + 10 * e := by grind
  have r0 := mn a0 p0
  have r1 := mn a0 (b := 1 + 10 * e - p) (by grind)
  have e0 : 0 ≤ e := by grind
  have r2 := mn e0 (b := 2 - z1) (by grind)
  obtain ⟨z, vz, c1, c2, _⟩ := dmul v1 vp (by grind) (by grind)
  have hs : fl.sn.sv w = fmul .f64 (fmul .f64 (fl.f2.sv w) 4618760256179416344) (fl.pk.sv (fmul .f64 (fmul .f64 (fl.f2.sv w) 4618760256179416344) (fmul .f64 (fl.f2.sv w) 4618760256179416344)) 8 4607182418800017408) := by
    unfold fl.sn.sv
    rw [t0, cond_false]; rfl
  refine ⟨z, by rw [hs]; exact vz, ?_⟩
  clear vz vp vu v1 vy vf hw hs
  have ZZ := mn Z0 Z0
  have ZZ5 : 2 * (Z * Z) ≤ 5 := by
    have := sq_le Z0 (y := 79 / 50) (by grind)
    grind
  have t1 := mn (a := z1 + Z) (b := Z + 40 * e - z1) (by grind) (by grind)
  have t2 := mn (a := z1 + Z) (b := z1 + 40 * e - Z) (by grind) (by grind)
  have t3 := mn e0 (b := 32 / 10 - (z1 + Z)) (by grind)
  obtain ⟨l1, l2⟩ := p1_lip (u := ux) (v := Z * Z) (t := 130 * e) u0 (by grind) ZZ ZZ5 (by grind) (by grind)
  have w1 := mn (a := p) (b := Z + 40 * e - z1) p0 (by grind)
  have w2 := mn (a := p) (b := z1 + 40 * e - Z) p0 (by grind)
  have w3 := mn Z0 (b := p1 (Z * Z) + 140 * e - p) (by grind)
  have w4 := mn Z0 (b := p + 140 * e - p1 (Z * Z)) (by grind)
  have w5 := mn e0 (b := 11 / 10 - p) (by grind)
  have w6 := mn e0 (b := 79 / 50 - Z) (by grind)
  unfold sn
  constructor <;> grind
theorem wide_no {w : Nat} {x : Rat} (hw : D w x) (h0 : 0 ≤ x) (h1 : x ≤ 1) : fl.wide.sp w = false := by
  have w1 : D 4841369599423283200 4503599627370496 := by
    refine ⟨false, 4503599627370496, 0, by decide +kernel, by decide, ?_⟩
    have : ((4503599627370496 : Nat) : Rat) = 4503599627370496 := rfl
    rw [this, tw_zero]; simp only [sg, Bool.false_eq_true, if_false]; grind
  have w2 : D 14064741636278059008 (-4503599627370496) := by
    refine ⟨true, 4503599627370496, 0, by decide +kernel, by decide, ?_⟩
    have : ((4503599627370496 : Nat) : Rat) = 4503599627370496 := rfl
    rw [this, tw_zero]; simp only [sg, if_true]; grind
  unfold fl.wide.sp
  rw [ge_val hw w1, le_val hw w2]
  have a : ¬ (4503599627370496 : Rat) ≤ x := by grind
  have b : ¬ x ≤ (-4503599627370496 : Rat) := by grind
  simp [a, b]
/-- The arrow of a small turn. -/
theorem arrow_ok {w : Nat} {x : Rat} (hw : D w x) (h0 : 0 ≤ x) (h1 : 5 * x ≤ 1) :
    (∃ z, V (fl.re.sv w) z ∧ z ≤ sn (TT / 4 - TT * x) + 5 * e7 ∧ sn (TT / 4 - TT * x) ≤ z + 5 * e7) ∧
    (∃ z, V (fl.im.sv w) z ∧ z ≤ sn (TT * x) + 5 * e7 ∧ sn (TT * x) ≤ z + 5 * e7) := by
  have ee := e_eq
  have e7e : e7 = 100000 * e := by unfold e7 e; grind
  have tl := TT_low
  have tu := TT_up
  have fz := fti_zero hw h0 (by grind)
  have hwd := wide_no hw h0 (by grind)
  obtain ⟨f, vf, f1, f2, f3, _⟩ := dsub hw d_zero (by grind) (by grind)
  have hf : fl.fr.sv w = fsub .f64 w 0 := by
    unfold fl.fr.sv
    rw [fz, nearest0]
    obtain ⟨o, ho, o1, _, _⟩ := d_order vf d_zero
    rw [ho]
    have : o ≠ .lt := fun h => by have := o1.1 h; grind
    cases o <;> simp at this ⊢
  have hge : fl.ge.sp (fl.fr.sv w) 4598175219545276416 = false := by
    rw [hf, ge_val vf d_quarter]
    have : ¬ (1 / 4 : Rat) ≤ f := by grind
    simpa using this
  have hg : fl.g.sv w = fl.fr.sv w := by
    show (bif fl.ge.sp (fl.fr.sv w) 4598175219545276416 then _ else fl.fr.sv w) = _
    rw [hge]; rfl
  have hq : fl.q.sv w = 0 := by
    show (bif fl.ge.sp (fl.fr.sv w) 4598175219545276416 then _ else 0) = _
    rw [hge]; rfl
  have f0 : 0 ≤ f := by grind
  obtain ⟨g, vg, g1, g2, g3, _⟩ := dsub d_quarter vf (by grind) (by grind)
  have g0 := g3 (by grind)
  have F0 := mn f0 (b := TT) (by grind)
  have X0 := mn h0 (b := TT) (by grind)
  have G0 := mn g0 (b := TT) (by grind)
  have F1 := mn f0 (b := 62832 / 10000 - TT) (by grind)
  have X1 := mn h0 (b := 62832 / 10000 - TT) (by grind)
  have G1 := mn g0 (b := 62832 / 10000 - TT) (by grind)
  have t1 := mn (a := x + e - f) (b := 62832 / 10000 - TT) (by grind) (by grind)
  have t1' := mn (a := x + e - f) (b := TT) (by grind) (by grind)
  have t2 := mn (a := f + e - x) (b := 62832 / 10000 - TT) (by grind) (by grind)
  have t2' := mn (a := f + e - x) (b := TT) (by grind) (by grind)
  have t3 := mn (a := 1 / 4 - x + 2 * e - g) (b := 62832 / 10000 - TT) (by grind) (by grind)
  have t3' := mn (a := 1 / 4 - x + 2 * e - g) (b := TT) (by grind) (by grind)
  have t4 := mn (a := g + 2 * e - (1 / 4 - x)) (b := 62832 / 10000 - TT) (by grind) (by grind)
  have t4' := mn (a := g + 2 * e - (1 / 4 - x)) (b := TT) (by grind) (by grind)
  have t5 := mn (a := e) (b := 62832 / 10000 - TT) (by grind) (by grind)
  constructor
  · obtain ⟨z, vz, z1, z2⟩ := sine_ok vg g0 (by grind)
    have k : sn (TT * g) ≤ sn (TT / 4 - TT * x) + 20 * e ∧ sn (TT / 4 - TT * x) ≤ sn (TT * g) + 20 * e := by
      clear vz vg vf hw
      exact sn_lip (by grind) (by grind) (by grind) (by grind) (by grind) (by grind)
    have s0 := sn_pos (z := TT / 4 - TT * x) (by clear vz vg vf hw; grind) (by clear vz vg vf hw; grind)
    have s1 := (sn_lip1 (z := TT / 4 - TT * x) (w := 0) (by grind) (by clear vz vg vf hw; grind) (by clear vz vg vf hw; grind)).1
    rw [sn_zero] at s1
    obtain ⟨y, vy, y1, y2⟩ := dnar vz (by clear vz vg vf hw; grind) (by clear vz vg vf hw; grind)
    refine ⟨y, ?_, by clear vz vg vf hw vy; grind, by clear vz vg vf hw vy; grind⟩
    unfold fl.re.sv
    rw [hwd, hq]
    simp only [cond_false, show ((0 : Nat) == 1) = false from rfl, show ((0 : Nat) == 2) = false from rfl, show ((0 : Nat) == 3) = false from rfl]
    unfold fl.c.sv
    rw [hg, hf]; exact vy
  · obtain ⟨z, vz, z1, z2⟩ := sine_ok vf f0 (by grind)
    have k : sn (TT * f) ≤ sn (TT * x) + 20 * e ∧ sn (TT * x) ≤ sn (TT * f) + 20 * e := by
      clear vz vg vf hw
      exact sn_lip (by grind) (by grind) (by grind) (by grind) (by grind) (by grind)
    have s0 := sn_pos (z := TT * x) (by clear vz vg vf hw; grind) (by clear vz vg vf hw; grind)
    have s1 := (sn_lip1 (z := TT * x) (w := 0) (by grind) (by clear vz vg vf hw; grind) (by clear vz vg vf hw; grind)).1
    rw [sn_zero] at s1
    obtain ⟨y, vy, y1, y2⟩ := dnar vz (by clear vz vg vf hw; grind) (by clear vz vg vf hw; grind)
    refine ⟨y, ?_, by clear vz vg vf hw vy; grind, by clear vz vg vf hw vy; grind⟩
    unfold fl.im.sv
    rw [hwd, hq]
    simp only [cond_false, show ((0 : Nat) == 1) = false from rfl, show ((0 : Nat) == 2) = false from rfl, show ((0 : Nat) == 3) = false from rfl]
    unfold fl.s.sv
    rw [hg, hf]; exact vy
end agr

namespace agr
open Ieee fp
/-- What a word of single stands for. -/
def vf (w : Nat) : Rat := match single.read w with
  | .number s m p => sg s * ((m : Rat) * tw p)
  | _ => 0
theorem vf_of {w : Nat} {x : Rat} (h : V w x) : vf w = x := by
  obtain ⟨s, m, p, hr, hp, rfl⟩ := h
  unfold vf; rw [hr]
abbrev Vf (w : Nat) : Prop := V w (vf w)
theorem Vf.of {w : Nat} {x : Rat} (h : V w x) : Vf w := by rw [← vf_of h] at h; exact h
theorem e7_eq : e7 * 10000000 = 1 := by unfold e7; grind
theorem neg_v {w : Nat} {x : Rat} (h : V w x) : V (Op.negFloat .f32 w) (-x) := by
  obtain ⟨s, m, p, hr, hp, rfl⟩ := h
  have := fl.neg_read w
  have hd : FloatKind.f32.decode w = .number s m p := hr
  rw [hd] at this
  refine ⟨!s, m, p, this, hp, ?_⟩
  rw [sg_not]; grind
def ls (f : Nat → Rat) : List Nat → Rat
  | [] => 0
  | w :: r => f w + ls f r
theorem ls_le {f g : Nat → Rat} : ∀ {xs : List Nat}, (∀ w ∈ xs, f w ≤ g w) → ls f xs ≤ ls g xs
  | [], _ => Rat.le_refl
  | w :: r, h => by
    have a := h w (List.mem_cons_self ..)
    have b := ls_le (xs := r) (fun v hv => h v (List.mem_cons_of_mem _ hv))
    simp only [ls]; grind
theorem ls_lin (f g : Nat → Rat) (a b : Rat) : ∀ xs : List Nat, ls (fun w => a * f w + b * g w) xs = a * ls f xs + b * ls g xs
  | [] => by simp only [ls]; grind
  | w :: r => by simp only [ls, ls_lin f g a b r]; grind
theorem ls_const (c : Rat) : ∀ xs : List Nat, ls (fun _ => c) xs = (xs.length : Rat) * c
  | [] => by simp only [ls, List.length_nil]; grind
  | w :: r => by
    simp only [ls, ls_const c r, List.length_cons]
    have : ((r.length + 1 : Nat) : Rat) = (r.length : Rat) + 1 := by simp
    rw [this]; grind
/-- Sums of words near to numbers. -/
def fs (g : Nat → Nat) : List Nat → Nat → Nat
  | [], s => s
  | w :: r, s => fs g r (fadd .f32 s (g w))
theorem sm_fs (g h : Nat → Nat) : ∀ (xs : List Nat) (s t : Nat), fl.sm.sv (xs.map fun w => (g w, h w)) s t = (fs g xs s, fs h xs t)
  | [], s, t => rfl
  | w :: r, s, t => by
    show fl.sm.sv (r.map _) _ _ = _
    rw [sm_fs g h r]; rfl
theorem fs_ok (g : Nat → Nat) (f : Nat → Rat) : ∀ (xs : List Nat) (s : Nat) (S : Rat) (i : Nat), i + xs.length ≤ 10 → V s S → -(i : Rat) * (11 / 10) ≤ S → S ≤ (i : Rat) * (11 / 10) →
    (∀ w ∈ xs, (∃ z, V (g w) z ∧ z ≤ f w + 5 * e7 ∧ f w ≤ z + 5 * e7) ∧ -(101 / 100) ≤ f w ∧ f w ≤ 101 / 100) →
    ∃ z, V (fs g xs s) z ∧ z ≤ S + ls f xs + (xs.length : Rat) * (21 * e7) ∧ S + ls f xs ≤ z + (xs.length : Rat) * (21 * e7)
  | [], s, S, i, _, hs, _, _, _ => ⟨S, hs, by simp only [ls, List.length_nil]; grind, by simp only [ls, List.length_nil]; grind⟩
  | w :: r, s, S, i, hi, hs, b1, b2, h => by
    have ee := e7_eq
    obtain ⟨⟨z, vz, z1, z2⟩, f1, f2⟩ := h w (List.mem_cons_self ..)
    simp only [List.length_cons] at hi
    have i10 : (i : Rat) ≤ 10 := by
      have : (i : Rat) ≤ ((10 : Nat) : Rat) := Rat.natCast_le_natCast.mpr (by omega)
      simpa using this
    have i1 : ((i + 1 : Nat) : Rat) = (i : Rat) + 1 := by simp
    have l1 : ((r.length + 1 : Nat) : Rat) = (r.length : Rat) + 1 := by simp
    obtain ⟨y, vy, y1, y2⟩ := sadd 16 hs vz (by grind) (by grind) (by grind) (by grind)
    obtain ⟨q, vq, q1, q2⟩ := fs_ok g f r _ y (i + 1) (by omega) vy (by rw [i1]; grind) (by rw [i1]; grind) (fun v hv => h v (List.mem_cons_of_mem _ hv))
    refine ⟨q, vq, ?_, ?_⟩
    · simp only [ls, List.length_cons, l1]; grind
    · simp only [ls, List.length_cons, l1]; grind
/-- The parts of the arrow of a word's turn. -/
def cw (w : Nat) : Rat := sn (TT / 4 - TT * vf w)
def sw (w : Nat) : Rat := sn (TT * vf w)
def Ok (w : Nat) : Prop := Vf w ∧ 0 ≤ vf w ∧ vf w ≤ 162 / 1000
theorem tt_bnd {x : Rat} (h0 : 0 ≤ x) (h1 : x ≤ 162 / 1000) : 0 ≤ TT * x ∧ 50 * (TT * x) ≤ 51 := by
  have tl := TT_low
  have tu := TT_up
  have := mn h0 (b := TT) (by grind)
  have := mn h0 (b := 62832 / 10000 - TT) (by grind)
  exact ⟨by grind, by grind⟩
theorem sn_one {z : Rat} (h : 0 ≤ z) (h2 : 10000 * z ≤ 15708) : 0 ≤ sn z ∧ sn z ≤ 101 / 100 := by
  refine ⟨sn_pos h (by grind), ?_⟩
  have a := sn_up h (by grind)
  have b := su_mono (z := 15708 / 10000) (w := z) h (by grind) (by grind)
  have c : su (15708 / 10000) ≤ 121 := by decide +kernel
  unfold su at b c
  grind
theorem cs_bnd {w : Nat} (h : Ok w) : (0 ≤ cw w ∧ cw w ≤ 101 / 100) ∧ (0 ≤ sw w ∧ sw w ≤ 101 / 100) := by
  have t := tt_bnd h.2.1 h.2.2
  have l := TT_low2
  have u := TT_up2
  exact ⟨sn_one (by grind) (by grind), sn_one (by grind) (by grind)⟩
theorem arr_ok {w : Nat} (h : Ok w) : (∃ z, V (fl.re.sv (fwid.sv w)) z ∧ z ≤ cw w + 5 * e7 ∧ cw w ≤ z + 5 * e7) ∧ (∃ z, V (fl.im.sv (fwid.sv w)) z ∧ z ≤ sw w + 5 * e7 ∧ sw w ≤ z + 5 * e7) := by
  have b := big (n := 1000) (by omega)
  have t99 : (1 : Rat) ≤ tw 99 := tw_nat 99 ▸ (by decide +kernel)
  have d := v_wide h.1 (by have := h.2.1; grind) (by have := h.2.2; grind)
  exact arrow_ok d h.2.1 (by have := h.2.2; grind)
theorem nat_one {n : Nat} (h : 1 ≤ n) : (1 : Rat) ≤ (n : Rat) := by
  have : ((1 : Nat) : Rat) ≤ (n : Rat) := Rat.natCast_le_natCast.mpr h
  simpa using this
/-- The mean of parts. -/
theorem mean_part (g : Nat → Nat) (f : Nat → Rat) {xs : List Nat} (h1 : 1 ≤ xs.length) (h2 : xs.length ≤ 10)
    (h : ∀ w ∈ xs, (∃ z, V (g w) z ∧ z ≤ f w + 5 * e7 ∧ f w ≤ z + 5 * e7) ∧ -(101 / 100) ≤ f w ∧ f w ≤ 101 / 100) :
    ∃ m, m * (xs.length : Rat) = ls f xs ∧ -(101 / 100) ≤ m ∧ m ≤ 101 / 100 ∧ ∃ z, V (fdiv .f32 (fs g xs 0) (FloatKind.f32.nearest (xs.length : Int))) z ∧ z ≤ m + 29 * e7 ∧ m ≤ z + 29 * e7 := by
  have ee := e7_eq
  obtain ⟨S, vS, s1, s2⟩ := fs_ok g f xs 0 0 0 (by omega) (by have := v_zero; simpa using this) (by simp) (by simp) h
  have n1 := nat_one h1
  have vn : V (FloatKind.f32.nearest (xs.length : Int)) (xs.length : Rat) := v_int (n := (xs.length : Int)) (by omega)
  have up := ls_le (f := f) (g := fun _ => 101 / 100) (fun w hw => (h w hw).2.2)
  have lo := ls_le (f := fun _ => -(101 / 100)) (g := f) (fun w hw => (h w hw).2.1)
  rw [ls_const] at up lo
  generalize hn : (xs.length : Rat) = n at *
  have n0 : n ≠ 0 := by grind
  have ni := Rat.mul_inv_cancel n n0
  have i0 : 0 ≤ n⁻¹ := by
    rcases (Rat.le_total : 0 ≤ n⁻¹ ∨ n⁻¹ ≤ 0) with c | c
    · exact c
    · have := mn (a := n - 1) (b := -n⁻¹) (by grind) (by grind); grind
  generalize ls f xs = L at *
  have a1 := mn i0 (b := n * (101 / 100) - L) (by grind)
  have a2 := mn i0 (b := L - n * -(101 / 100)) (by grind)
  have a3 := mn i0 (b := 0 + L + n * (21 * e7) - S) (by grind)
  have a4 := mn i0 (b := S + n * (21 * e7) - (0 + L)) (by grind)
  have k1 : n⁻¹ * (n * (101 / 100)) = 101 / 100 := by grind
  have k2 : n⁻¹ * (n * (21 * e7)) = 21 * e7 := by grind
  have m1 : L * n⁻¹ ≤ 101 / 100 := by grind
  have m2 : -(101 / 100) ≤ L * n⁻¹ := by grind
  have m3 : S * n⁻¹ ≤ L * n⁻¹ + 21 * e7 := by grind
  have m4 : L * n⁻¹ ≤ S * n⁻¹ + 21 * e7 := by grind
  refine ⟨L * n⁻¹, by grind, m2, m1, ?_⟩
  obtain ⟨z, vz, z1, z2⟩ := sdiv (v := S * n⁻¹) vS vn n0 (by grind) (by grind) (by grind)
  exact ⟨z, vz, by grind, by grind⟩
theorem v_eighth : V 1040187392 (1 / 8) := by
  refine ⟨false, 8388608, -26, by decide +kernel, by decide, ?_⟩
  have h := tw_add (-26) ((26 : Nat) : Int)
  rw [tw_nat, show (-26 : Int) + ((26 : Nat) : Int) = 0 by omega, tw_zero] at h
  have c : (((2 ^ 26 : Nat) : Nat) : Rat) = 67108864 := rfl
  have c2 : ((8388608 : Nat) : Rat) = 8388608 := rfl
  rw [c] at h
  simp only [sg, Bool.false_eq_true, if_false]
  rw [c2]; grind
/-- The sum of cross products with one arrow. -/
def cs (w : Nat) (xs : List Nat) : Rat := ls (fun v => cr (TT / 4) (TT * vf v) (TT * vf w)) xs
theorem cs_eq (w : Nat) (xs : List Nat) : cs w xs = cw w * ls sw xs - sw w * ls cw xs := by
  have := ls_lin sw cw (cw w) (-(sw w)) xs
  unfold cs
  have e1 : (fun v => cr (TT / 4) (TT * vf v) (TT * vf w)) = fun v => cw w * sw v + -(sw w) * cw v := by
    funext v
    unfold cr cw sw; grind
  rw [e1, this]; grind
theorem mul_bnd {a b A B : Rat} (h1 : -A ≤ a) (h2 : a ≤ A) (h3 : -B ≤ b) (h4 : b ≤ B) : -(A * B) ≤ a * b ∧ a * b ≤ A * B := mul_abs (by grind) (by grind) h1 h2 h3 h4
/-- One turn goes a step. -/
theorem one_step {xs : List Nat} (h1 : 1 ≤ xs.length) (h2 : xs.length ≤ 10) (h : ∀ w ∈ xs, Ok w) {w : Nat} (hw : w ∈ xs) :
    ∃ z a, V (ag.one.sv 1040187392 (ag.m.sv xs) w) z ∧ a * (xs.length : Rat) = cs w xs ∧ z ≤ vf w + a / 8 + 13 * e7 ∧ vf w + a / 8 ≤ z + 13 * e7 := by
  have ee := e7_eq
  have ok := h w hw
  obtain ⟨⟨c0, c1⟩, s0, s1⟩ := cs_bnd ok
  obtain ⟨⟨cz, vc, c2, c3⟩, sz, vs, s2, s3⟩ := arr_ok ok
  obtain ⟨mr, er, r1, r2, zr, vr, r3, r4⟩ := mean_part (fun w => fl.re.sv (fwid.sv w)) cw h1 h2 (fun v hv => ⟨(arr_ok (h v hv)).1, by have := (cs_bnd (h v hv)).1; grind, (cs_bnd (h v hv)).1.2⟩)
  obtain ⟨mi, ei, i1, i2, zi, vi, i3, i4⟩ := mean_part (fun w => fl.im.sv (fwid.sv w)) sw h1 h2 (fun v hv => ⟨(arr_ok (h v hv)).2, by have := (cs_bnd (h v hv)).2; grind, (cs_bnd (h v hv)).2.2⟩)
  have hm : ag.m.sv xs = (fdiv .f32 (fs (fun w => fl.re.sv (fwid.sv w)) xs 0) (FloatKind.f32.nearest (xs.length : Int)), fdiv .f32 (fs (fun w => fl.im.sv (fwid.sv w)) xs 0) (FloatKind.f32.nearest (xs.length : Int))) := by
    unfold ag.m.sv fl.mean.sv ag.arr.sv
    rw [show xs.map ag.a.sv = xs.map (fun w => ((fun w => fl.re.sv (fwid.sv w)) w, (fun w => fl.im.sv (fwid.sv w)) w)) from rfl, sm_fs, List.length_map]
  rw [hm]
  have t99 : (1000000 : Rat) ≤ tw 99 := tw_nat 99 ▸ (by decide +kernel)
  have d1 := v_wide vr (by grind) (by grind)
  have d2 := v_wide vi (by grind) (by grind)
  have d3 := v_wide vc (by grind) (by grind)
  have d4 := v_wide (neg_v vs) (by grind) (by grind)
  have p1 := mul_bnd (a := zr) (b := -sz) (A := 11 / 10) (B := 11 / 10) (by grind) (by grind) (by grind) (by grind)
  have p2 := mul_bnd (a := zi) (b := cz) (A := 11 / 10) (B := 11 / 10) (by grind) (by grind) (by grind) (by grind)
  obtain ⟨q1, u1, a1, a2, _⟩ := dmul d1 d4 (by grind) (by grind)
  obtain ⟨q2, u2, b1, b2, _⟩ := dmul d2 d3 (by grind) (by grind)
  have e12 : e * 100000 ≤ e7 := by unfold e e7; grind
  have e0 : 0 ≤ e := by unfold e; grind
  obtain ⟨q3, u3, g1, g2, _, _⟩ := dadd u1 u2 (by grind) (by grind)
  obtain ⟨q, vq, k1, k2⟩ := dnar u3 (by grind) (by grind)
  -- how far the products are from those of the exact means
  have x1 := mul_bnd (a := zr - mr) (b := -sz) (A := 29 * e7) (B := 11 / 10) (by grind) (by grind) (by grind) (by grind)
  have x2 := mul_bnd (a := mr) (b := sw w - sz) (A := 101 / 100) (B := 5 * e7) (by grind) (by grind) (by grind) (by grind)
  have x3 := mul_bnd (a := zi - mi) (b := cz) (A := 29 * e7) (B := 11 / 10) (by grind) (by grind) (by grind) (by grind)
  have x4 := mul_bnd (a := mi) (b := cz - cw w) (A := 101 / 100) (B := 5 * e7) (by grind) (by grind) (by grind) (by grind)
  have y1 : q ≤ mi * cw w - mr * sw w + 81 * e7 := by grind
  have y2 : mi * cw w - mr * sw w ≤ q + 81 * e7 := by grind
  have z1 := mul_bnd (a := mi) (b := cw w) (A := 101 / 100) (B := 101 / 100) (by grind) (by grind) (by grind) (by grind)
  have z2 := mul_bnd (a := mr) (b := sw w) (A := 101 / 100) (B := 101 / 100) (by grind) (by grind) (by grind) (by grind)
  obtain ⟨t, vt, t1, t2⟩ := smul 1 v_eighth vq (by grind) (by grind) (by grind) (by grind)
  have o1 := ok.2.1
  have o2 := ok.2.2
  obtain ⟨r, vr', f1, f2⟩ := sadd 1 ok.1 vt (by grind) (by grind) (by grind) (by grind)
  refine ⟨r, mi * cw w - mr * sw w, vr', ?_, by grind, by grind⟩
  rw [cs_eq, ← er, ← ei]; grind
/-- Cross products against differences of turns. -/
theorem cr_bnd {x y : Rat} (h0 : 0 ≤ y) (hy : y ≤ x) (h1 : x ≤ 162 / 1000) : 23 * (x - y) ≤ 100 * (cr (TT / 4) (TT * x) (TT * y) / 8) ∧ cr (TT / 4) (TT * x) (TT * y) / 8 ≤ x - y := by
  have tl := TT_low
  have tu := TT_up
  have a := tt_bnd h0 (by grind)
  have b := tt_bnd (x := x) (by grind) h1
  have c := mn (a := x - y) (b := TT) (by grind) (by grind)
  have d := mn (a := x - y) (b := 62832 / 10000 - TT) (by grind) (by grind)
  have d2 := mn (a := x - y) (b := TT - 6283 / 1000) (by grind) (by grind)
  have u := cr_up (H := TT / 4) (X := TT * x) (Y := TT * y) a.1 (by grind) b.2 TT_low2 TT_up2
  have l := cr_low (H := TT / 4) (X := TT * x) (Y := TT * y) a.1 (by grind) b.2 TT_low2 TT_up2
  exact ⟨by grind, by grind⟩
theorem cr_neg (H X Y : Rat) : cr H X Y = -cr H Y X := by unfold cr; grind
theorem cr_side {x y lo hi : Rat} (l0 : 0 ≤ lo) (lx : lo ≤ x) (xh : x ≤ hi) (ly : lo ≤ y) (yh : y ≤ hi) (h1 : hi ≤ 162 / 1000) :
    100 * (cr (TT / 4) (TT * y) (TT * x) / 8) ≤ 100 * (hi - x) - 23 * (hi - y) ∧ 23 * (y - lo) - 100 * (x - lo) ≤ 100 * (cr (TT / 4) (TT * y) (TT * x) / 8) := by
  rcases (Rat.le_total : x ≤ y ∨ y ≤ x) with c | c
  · have := cr_bnd (x := y) (y := x) (by grind) c (by grind)
    exact ⟨by grind, by grind⟩
  · have := cr_bnd (x := x) (y := y) (by grind) c (by grind)
    rw [cr_neg] at this
    exact ⟨by grind, by grind⟩
theorem div_le {n a b : Rat} (h : 1 ≤ n) (k : a * n ≤ b * n) : a ≤ b := by
  rcases (Rat.le_total : a ≤ b ∨ b ≤ a) with c | c
  · exact c
  · have := mn (a := a - b) (b := n - 1) (by grind) (by grind)
    grind
theorem ex_max : ∀ {xs : List Nat}, xs ≠ [] → ∃ w ∈ xs, ∀ v ∈ xs, vf v ≤ vf w
  | [], h => absurd rfl h
  | [w], _ => ⟨w, by simp, fun v hv => by rw [List.mem_singleton] at hv; subst hv; exact Rat.le_refl⟩
  | w :: u :: r, _ => by
    obtain ⟨v, hv, k⟩ := ex_max (xs := u :: r) (by simp)
    rcases (Rat.le_total : vf w ≤ vf v ∨ vf v ≤ vf w) with c | c
    · refine ⟨v, List.mem_cons_of_mem _ hv, fun a ha => ?_⟩
      rcases List.mem_cons.mp ha with rfl | ha
      · exact c
      · exact k a ha
    · refine ⟨w, List.mem_cons_self .., fun a ha => ?_⟩
      rcases List.mem_cons.mp ha with rfl | ha
      · exact Rat.le_refl
      · exact Rat.le_trans (k a ha) c
theorem ex_min : ∀ {xs : List Nat}, xs ≠ [] → ∃ w ∈ xs, ∀ v ∈ xs, vf w ≤ vf v
  | [], h => absurd rfl h
  | [w], _ => ⟨w, by simp, fun v hv => by rw [List.mem_singleton] at hv; subst hv; exact Rat.le_refl⟩
  | w :: u :: r, _ => by
    obtain ⟨v, hv, k⟩ := ex_min (xs := u :: r) (by simp)
    rcases (Rat.le_total : vf w ≤ vf v ∨ vf v ≤ vf w) with c | c
    · refine ⟨w, List.mem_cons_self .., fun a ha => ?_⟩
      rcases List.mem_cons.mp ha with rfl | ha
      · exact Rat.le_refl
      · exact Rat.le_trans c (k a ha)
    · refine ⟨v, List.mem_cons_of_mem _ hv, fun a ha => ?_⟩
      rcases List.mem_cons.mp ha with rfl | ha
      · exact c
      · exact k a ha
/-- Turns of a list lie between. -/
structure In (xs : List Nat) (lo hi : Rat) : Prop where
  one : 1 ≤ xs.length
  ten : xs.length ≤ 10
  low : 0 ≤ lo
  top : hi ≤ 162 / 1000
  v : ∀ w ∈ xs, Vf w
  btw : ∀ w ∈ xs, lo ≤ vf w ∧ vf w ≤ hi
theorem In.ok {xs : List Nat} {lo hi : Rat} (h : In xs lo hi) : ∀ w ∈ xs, Ok w := fun w hw => ⟨h.v w hw, by have := h.btw w hw; have := h.low; grind, by have := h.btw w hw; have := h.top; grind⟩
/-- What one step does. -/
theorem In.step {xs : List Nat} {lo hi : Rat} (h : In xs lo hi) : ∃ m, m * (xs.length : Rat) = ls vf xs ∧ lo ≤ m ∧ m ≤ hi ∧ ∀ w ∈ xs, Vf (ag.one.sv 1040187392 (ag.m.sv xs) w) ∧
    vf (ag.one.sv 1040187392 (ag.m.sv xs) w) ≤ hi - 23 * ((hi - m) / 100) + 13 * e7 ∧ lo + 23 * ((m - lo) / 100) ≤ vf (ag.one.sv 1040187392 (ag.m.sv xs) w) + 13 * e7 ∧
    vf (ag.one.sv 1040187392 (ag.m.sv xs) w) ≤ vf w + (hi - lo) + 13 * e7 ∧ vf w ≤ vf (ag.one.sv 1040187392 (ag.m.sv xs) w) + (hi - lo) + 13 * e7 := by
  have ee := e7_eq
  have n1 := nat_one h.one
  have up := ls_le (f := vf) (g := fun _ => hi) (fun w hw => (h.btw w hw).2)
  have lo' := ls_le (f := fun _ => lo) (g := vf) (fun w hw => (h.btw w hw).1)
  rw [ls_const] at up lo'
  have n0 : (xs.length : Rat) ≠ 0 := by grind
  have ni := Rat.mul_inv_cancel _ n0
  have i0 : 0 ≤ (xs.length : Rat)⁻¹ := by
    rcases (Rat.le_total : 0 ≤ (xs.length : Rat)⁻¹ ∨ (xs.length : Rat)⁻¹ ≤ 0) with c | c
    · exact c
    · have := mn (a := (xs.length : Rat) - 1) (b := -(xs.length : Rat)⁻¹) (by grind) (by grind); grind
  have div : ∀ {a b : Rat}, a * (xs.length : Rat) ≤ b * (xs.length : Rat) → a ≤ b := fun k => div_le n1 k
  have em : ls vf xs * (xs.length : Rat)⁻¹ * (xs.length : Rat) = ls vf xs := by grind
  generalize ls vf xs * (xs.length : Rat)⁻¹ = m at em
  have m1 : lo ≤ m := div (by grind)
  have m2 : m ≤ hi := div (by grind)
  refine ⟨m, em, m1, m2, ?_⟩
  intro w hw
  obtain ⟨z, a, vz, ea, z1, z2⟩ := one_step h.one h.ten h.ok hw
  have hb := h.btw w hw
  have q1 := ls_le (xs := xs) (f := fun v => cr (TT / 4) (TT * vf v) (TT * vf w)) (g := fun v => (8 / 100) * (23 * vf v + (100 * (hi - vf w) - 23 * hi) * 1)) (fun v hv => by
    have := (cr_side h.low hb.1 hb.2 (h.btw v hv).1 (h.btw v hv).2 h.top).1
    grind)
  have q2 := ls_le (xs := xs) (g := fun v => cr (TT / 4) (TT * vf v) (TT * vf w)) (f := fun v => (8 / 100) * (23 * vf v + (-(23 * lo) - 100 * (vf w - lo)) * 1)) (fun v hv => by
    have := (cr_side h.low hb.1 hb.2 (h.btw v hv).1 (h.btw v hv).2 h.top).2
    grind)
  have f1 : ∀ c : Rat, ls (fun v => (8 / 100) * (23 * vf v + c * 1)) xs = (8 / 100) * (23 * ls vf xs + c * (xs.length : Rat)) := by
    intro c
    have k1 := ls_lin (fun v => 23 * vf v + c * 1) (fun _ => 0) (8 / 100) 0 xs
    have k2 := ls_lin vf (fun _ => 1) 23 c xs
    rw [ls_const] at k2
    have e1 : (fun v => (8 / 100) * (23 * vf v + c * 1)) = fun v => (8 / 100) * (fun v => 23 * vf v + c * 1) v + 0 * (fun _ => (0 : Rat)) v := by funext v; grind
    rw [e1, k1, k2]; grind
  rw [f1] at q1 q2
  change cs w xs ≤ _ at q1
  change _ ≤ cs w xs at q2
  rw [← ea, ← em] at q1 q2
  have a1 : a ≤ (8 / 100) * (23 * m + (100 * (hi - vf w) - 23 * hi)) := div (by grind)
  have a2 : (8 / 100) * (23 * m + (-(23 * lo) - 100 * (vf w - lo))) ≤ a := div (by grind)
  have ez := vf_of vz
  refine ⟨Vf.of vz, ?_⟩
  rw [ez]
  exact ⟨by grind, by grind, by grind, by grind⟩
theorem le32 {a b : Nat} {x y : Rat} (ha : V a x) (hb : V b y) : ag.le.sp a b = decide (x ≤ y) := by
  obtain ⟨o, ho, h1, h2, h3⟩ := v_order ha hb
  unfold ag.le.sp
  rw [ho]
  cases o
  · have : x ≤ y := by have := h1.1 rfl; grind
    simp [this]
  · have : x ≤ y := by have := h2.1 rfl; grind
    simp [this]
  · have : ¬ x ≤ y := by have := h3.1 rfl; grind
    simp [this]
theorem gt32 {a b : Nat} {x y : Rat} (ha : V a x) (hb : V b y) : ag.gt.sp a b = decide (y < x) := by
  obtain ⟨o, ho, h1, h2, h3⟩ := v_order ha hb
  unfold ag.gt.sp
  rw [ho]
  cases o
  · have : ¬ y < x := by have := h1.1 rfl; grind
    simp [this]
  · have : ¬ y < x := by have := h2.1 rfl; grind
    simp [this]
  · have : y < x := by have := h3.1 rfl; grind
    simp [this]
theorem v0 : V 0 0 := by have := v_zero; simpa using this
theorem sz_ok {a : Nat} {x : Rat} (ha : V a x) (h1 : -2 ≤ x) (h2 : x ≤ 2) : ∃ z, V (ag.sz.sv a) z ∧ x ≤ z + 2 * e7 ∧ -x ≤ z + 2 * e7 ∧ ((z ≤ x + 2 * e7 ∧ 0 ≤ x) ∨ (z ≤ -x + 2 * e7 ∧ x ≤ 0)) := by
  have ee := e7_eq
  unfold ag.sz.sv
  rw [le32 ha v0]
  by_cases h : x ≤ 0
  · rw [decide_eq_true h, cond_true]
    obtain ⟨z, vz, z1, z2⟩ := ssub 2 v0 ha (by grind) (by grind) (by grind) (by grind)
    exact ⟨z, vz, by grind, by grind, .inr ⟨by grind, by grind⟩⟩
  · rw [decide_eq_false h, cond_false]
    exact ⟨x, ha, by grind, by grind, .inl ⟨by grind, by grind⟩⟩
/-- How far the farthest goes. -/
theorem far_ok (g : Nat → Nat) : ∀ (xs : List Nat) (f : Nat) (F : Rat), V f F → (∀ w ∈ xs, Vf w ∧ Vf (g w) ∧ -1 ≤ vf (g w) - vf w ∧ vf (g w) - vf w ≤ 1) →
    ∃ R, V (ag.far.sv (xs.map g) xs f) R ∧ F ≤ R ∧ (∀ w ∈ xs, vf (g w) - vf w ≤ R + 4 * e7 ∧ vf w - vf (g w) ≤ R + 4 * e7) ∧ (∀ B, F ≤ B → (∀ w ∈ xs, vf (g w) - vf w ≤ B - 4 * e7 ∧ vf w - vf (g w) ≤ B - 4 * e7) → R ≤ B)
  | [], f, F, hf, _ => ⟨F, hf, Rat.le_refl, by simp, fun B h _ => h⟩
  | w :: r, f, F, hf, h => by
    have ee := e7_eq
    obtain ⟨a1, a2, a3, a4⟩ := h w (List.mem_cons_self ..)
    have hr := fun v hv => h v (List.mem_cons_of_mem w hv)
    obtain ⟨d, vd, d1, d2⟩ := ssub 1 a2 a1 (by clear h hr; grind) (by clear h hr; grind) (by grind) (by grind)
    obtain ⟨z, vz, z1, z2, z3⟩ := sz_ok vd (by clear h hr; grind) (by clear h hr; grind)
    have next : ∃ G, V (bif ag.gt.sp (ag.sz.sv (fsub .f32 (g w) w)) f then ag.sz.sv (fsub .f32 (g w) w) else f) G ∧ F ≤ G ∧ z ≤ G ∧ (G = F ∨ G = z) := by
      rw [gt32 vz hf]
      by_cases k : F < z
      · rw [decide_eq_true k, cond_true]; exact ⟨z, vz, by grind, by grind, .inr rfl⟩
      · rw [decide_eq_false k, cond_false]; exact ⟨F, hf, by grind, by grind, .inl rfl⟩
    obtain ⟨G, vG, G1, G2, G3⟩ := next
    obtain ⟨R, vR, R1, R2, R3⟩ := far_ok g r _ G vG hr
    clear hr
    refine ⟨R, vR, by grind, ?_, ?_⟩
    · intro v hv
      rcases List.mem_cons.mp hv with rfl | hv
      · clear h R2 R3 vR vG vz vd hf a1 a2; exact ⟨by grind, by grind⟩
      · exact R2 v hv
    · intro B hB hx
      have q := hx w (List.mem_cons_self ..)
      refine R3 B ?_ (fun v hv => hx v (List.mem_cons_of_mem _ hv))
      clear h R2 R3 vR vG vz vd hf a1 a2 hx
      grind
theorem v_near : ∃ N, V 981668463 N ∧ N ≤ 1 / 1000 + e7 ∧ 1 / 1000 ≤ N + e7 := by
  have h := tw_add (-33) ((33 : Nat) : Int)
  rw [tw_nat, show (-33 : Int) + ((33 : Nat) : Int) = 0 by omega, tw_zero] at h
  have c : (((2 ^ 33 : Nat) : Nat) : Rat) = 8589934592 := rfl
  have c2 : ((8589935 : Nat) : Rat) = 8589935 := rfl
  rw [c] at h
  have ee := e7_eq
  refine ⟨(8589935 : Nat) * tw (-33), ⟨false, 8589935, -33, by decide +kernel, by decide, ?_⟩, ?_, ?_⟩
  · simp only [sg, Bool.false_eq_true, if_false]; grind
  · rw [c2]; grind
  · rw [c2]; grind
theorem fin_of {xs : List Nat} (h : ∀ w ∈ xs, Vf w) : xs.any areFinite_1.sp = false := by
  rw [List.any_eq_false]
  intro w hw
  have := v_fin (h w hw)
  unfold areFinite_1.sp
  rw [this]; simp
theorem In.tight {xs : List Nat} {lo hi : Rat} (h : In xs lo hi) : ∃ a b, a ∈ xs ∧ b ∈ xs ∧ In xs (vf a) (vf b) ∧ lo ≤ vf a ∧ vf b ≤ hi := by
  have ne : xs ≠ [] := by intro h0; have := h.one; rw [h0] at this; simp at this
  obtain ⟨a, ha, ka⟩ := ex_min ne
  obtain ⟨b, hb, kb⟩ := ex_max ne
  have a1 := h.btw a ha
  have b1 := h.btw b hb
  exact ⟨a, b, ha, hb, ⟨h.one, h.ten, by have := h.low; grind, by have := h.top; grind, h.v, fun w hw => ⟨ka w hw, kb w hw⟩⟩, a1.1, b1.2⟩
/-- The list after a step. -/
def nx1 (xs : List Nat) : List Nat := ag.o.sv xs 1040187392
theorem In.far {xs : List Nat} {lo hi : Rat} (h : In xs lo hi) : ∃ R, V (ag.far.sv (nx1 xs) xs 0) R ∧
    (∀ w ∈ xs, vf (ag.one.sv 1040187392 (ag.m.sv xs) w) - vf w ≤ R + 4 * e7 ∧ vf w - vf (ag.one.sv 1040187392 (ag.m.sv xs) w) ≤ R + 4 * e7) ∧ R ≤ (hi - lo) + 17 * e7 := by
  have ee := e7_eq
  have h0 := h.low
  have h1 := h.top
  obtain ⟨m, em, m1, m2, st⟩ := h.step
  obtain ⟨R, vR, R1, R2, R3⟩ := far_ok (ag.one.sv 1040187392 (ag.m.sv xs)) xs 0 0 v0 (fun w hw => by
    obtain ⟨s0, s1, s2, s3, s4⟩ := st w hw
    exact ⟨h.v w hw, s0, by clear st; grind, by clear st; grind⟩)
  refine ⟨R, vR, R2, R3 _ ?_ (fun w hw => ?_)⟩
  · clear st R2 R3; grind
  · obtain ⟨s0, s1, s2, s3, s4⟩ := st w hw
    clear st R2 R3 s0 vR
    exact ⟨by grind, by grind⟩
theorem In.next {xs : List Nat} {lo hi : Rat} (h : In xs lo hi) {m lo' hi' : Rat} (em : m * (xs.length : Rat) = ls vf xs) (a : lo' ≤ lo + 23 * ((m - lo) / 100) - 13 * e7) (b : hi - 23 * ((hi - m) / 100) + 13 * e7 ≤ hi') (c : 0 ≤ lo') (d : hi' ≤ 162 / 1000) : In (nx1 xs) lo' hi' := by
  obtain ⟨m2, em2, _, _, st⟩ := h.step
  have n1 := nat_one h.one
  have e : m = m2 := Rat.le_antisymm (div_le n1 (by rw [em, em2]; exact Rat.le_refl)) (div_le n1 (by rw [em, em2]; exact Rat.le_refl))
  subst e
  have hl : (nx1 xs).length = xs.length := ag.o_length _ _
  refine ⟨by rw [hl]; exact h.one, by rw [hl]; exact h.ten, c, d, ?_, ?_⟩
  · intro w hw
    obtain ⟨v, hv, rfl⟩ := List.mem_map.mp hw
    exact (st v hv).1
  · intro w hw
    obtain ⟨v, hv, rfl⟩ := List.mem_map.mp hw
    obtain ⟨s0, s1, s2, _⟩ := st v hv
    clear st s0
    exact ⟨by grind, by grind⟩
def bb : Nat → Rat
  | 0 => 9 / 10000
  | r + 1 => 5 / 4 * bb r
theorem bb_low : ∀ r, 9 / 10000 ≤ bb r
  | 0 => Rat.le_refl
  | r + 1 => by have := bb_low r; simp only [bb]; grind
theorem not_stop_len {xs : List Nat} : (nx1 xs).length = xs.length := ag.o_length _ _
/-- The bounds of what a step leaves. -/
structure Out (xs ys : List Nat) (w : Rat) : Prop where
  len : ys.length = xs.length
  v : ∀ v ∈ ys, Vf v
  btw : ∃ lo hi, (∀ v ∈ ys, lo ≤ vf v ∧ vf v ≤ hi) ∧ hi - lo ≤ w + 95 / 100000 ∧ hi - lo ≤ 4 / 100 ∧ -1 ≤ lo ∧ hi ≤ 1
theorem round_eq (xs : List Nat) (d : Nat) (n : Int) (h : ∀ w ∈ nx1 xs, Vf w) : ag.rs.sv 1040187392 981668463 (d + 1) xs n = bif ag.le.sp (ag.far.sv (nx1 xs) xs 0) 981668463 then some (nx1 xs, n) else ag.rs.sv 1040187392 981668463 d (nx1 xs) (n + 1) := by
  show (bif (nx1 xs).any areFinite_1.sp then none else _) = _
  rw [fin_of h]; rfl
theorem stop_case {xs : List Nat} {lo hi : Rat} (h : In xs lo hi) (w : Rat) (hw : hi - lo ≤ w) (hs : ag.le.sp (ag.far.sv (nx1 xs) xs 0) 981668463 = true) : Out xs (nx1 xs) w := by
  have ee := e7_eq
  obtain ⟨a, b, ha, hb, h', l1, l2⟩ := h.tight
  obtain ⟨m, em, m1, m2, st⟩ := h'.step
  obtain ⟨N, vN, n1, n2⟩ := v_near
  obtain ⟨R, vR, R1, R2⟩ := h'.far
  rw [le32 vR vN, decide_eq_true_eq] at hs
  obtain ⟨_, sa1, sa2, _⟩ := st a ha
  obtain ⟨_, sb1, sb2, _⟩ := st b hb
  have ra := R1 a ha
  have rb := R1 b hb
  refine ⟨ag.o_length _ _, ?_, vf a + 23 * ((m - vf a) / 100) - 13 * e7, vf b - 23 * ((vf b - m) / 100) + 13 * e7, ?_, ?_, ?_, ?_, ?_⟩
  · intro w hw
    obtain ⟨v, hv, rfl⟩ := List.mem_map.mp hw
    exact (st v hv).1
  · intro w hw
    obtain ⟨v, hv, rfl⟩ := List.mem_map.mp hw
    obtain ⟨s0, s1, s2, _⟩ := st v hv
    clear st s0 R1 vR vN h h'
    exact ⟨by grind, by grind⟩
  · clear st R1 vR vN h h'; grind
  · clear st R1 vR vN h h'; grind
  · have := h'.low; clear st R1 vR vN h h'; grind
  · have := h'.top; clear st R1 vR vN h h'; grind
theorem rounds : ∀ (r d : Nat) (xs : List Nat) (lo hi : Rat) (n : Int), In xs lo hi → (r : Rat) * (13 * e7) ≤ lo → hi ≤ 162 / 1000 - (r : Rat) * (13 * e7) → hi - lo ≤ bb r → r < d →
    ∃ o m, ag.rs.sv 1040187392 981668463 d xs n = some (o, m) ∧ n ≤ m ∧ m ≤ n + r ∧ Out xs o (hi - lo)
  | r, 0, xs, lo, hi, n, _, _, _, _, hd => absurd hd (by omega)
  | r, d + 1, xs, lo, hi, n, h, h1, h2, h3, hd => by
    have ee := e7_eq
    obtain ⟨a, b, ha, hb, h', l1, l2⟩ := h.tight
    obtain ⟨m, em, m1, m2, st⟩ := h'.step
    obtain ⟨N, vN, n1, n2⟩ := v_near
    obtain ⟨R, vR, R1, R2⟩ := h'.far
    have vx : ∀ w ∈ nx1 xs, Vf w := by
      intro w hw
      obtain ⟨v, hv, rfl⟩ := List.mem_map.mp hw
      exact (st v hv).1
    rw [round_eq xs d n vx]
    cases hs : ag.le.sp (ag.far.sv (nx1 xs) xs 0) 981668463
    · rw [cond_false]
      rw [le32 vR vN, decide_eq_false_iff_not] at hs
      have wide : 9 / 10000 < vf b - vf a := by clear st vx R1 vR vN h h'; grind
      cases r with
      | zero => exfalso; simp only [bb] at h3; clear st vx R1 vR vN h h'; grind
      | succ r =>
        have hc : ((r + 1 : Nat) : Rat) = (r : Rat) + 1 := by simp
        rw [hc] at h1 h2
        have r0 : (0 : Rat) ≤ (r : Rat) * (13 * e7) := mn Rat.natCast_nonneg (by grind)
        have bl := bb_low r
        simp only [bb] at h3
        have nxt := h'.next em (lo' := vf a + 23 * ((m - vf a) / 100) - 13 * e7) (hi' := vf b - 23 * ((vf b - m) / 100) + 13 * e7) Rat.le_refl Rat.le_refl (by clear st vx R1 vR vN h h'; grind) (by clear st vx R1 vR vN h h'; grind)
        obtain ⟨o, k, e1, e2, e3, e4⟩ := rounds r d (nx1 xs) _ _ (n + 1) nxt (by clear st vx R1 vR vN h h' nxt; grind) (by clear st vx R1 vR vN h h' nxt; grind) (by clear st vx R1 vR vN h h' nxt; grind) (by omega)
        obtain ⟨lo', hi', k1, k2, k3⟩ := e4.btw
        exact ⟨o, k, e1, by omega, by omega, e4.len.trans (ag.o_length _ _), e4.v, lo', hi', k1, by clear st vx R1 vR vN h h' nxt e4 k1; grind, k3⟩
    · rw [cond_true]
      exact ⟨nx1 xs, n, rfl, by omega, by omega, stop_case h' _ (by clear st vx R1 vR vN h h'; grind) hs⟩
end agr
end Go.Proofs.Ytgblgofmdhekiaa.Ab
