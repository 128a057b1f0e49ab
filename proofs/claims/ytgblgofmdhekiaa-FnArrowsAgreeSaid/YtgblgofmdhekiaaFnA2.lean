/-
  Functions: square roots of moderate size.
-/
import Derived.Test.YtgblgofmdhekiaaFnA1
import Derived.Test.YtgblgofmdhekiaaFnAE
import Derived.Test.YtgblgofmdhekiaaFnNA
import Derived.Test.YtgblgofmdhekiaaFnAG
namespace Go.Proofs.Ytgblgofmdhekiaa.Ab
open Go
set_option linter.unusedVariables false
set_option linter.unusedSimpArgs false
set_option maxRecDepth 100000
namespace agr
open Ieee fp
/-! The square root. -/
theorem root_le (n : Nat) : ∀ (k r : Nat), r * r ≤ n → Datum.rootFrom n k r * Datum.rootFrom n k r ≤ n
  | 0, r, h => h
  | k + 1, r, h => by
    have e : Datum.rootFrom n (k + 1) r = Datum.rootFrom n k (if (r + 1 <<< k) * (r + 1 <<< k) ≤ n then r + 1 <<< k else r) := rfl
    rw [e]
    split
    · rename_i h1; exact root_le n k _ h1
    · exact root_le n k r h
theorem sq_root {a b : Rat} (hb : 0 ≤ b) (h : a * a ≤ b * b) : a ≤ b := by
  rcases (Rat.le_total : a ≤ b ∨ b ≤ a) with c | c
  · exact c
  · have := mn (a := a - b) (b := a + b) (by grind) (by grind)
    have := mn (a := a - b) (b := a - b) (by grind) (by grind)
    by_cases h0 : a = b
    · rw [h0]; exact Rat.le_refl
    · exfalso
      have h1 : 0 < a - b := by grind
      have h2 : 0 < a + b := by grind
      have := Rat.mul_pos h1 h2
      grind
theorem sqrt_ok {w : Nat} {p B : Rat} (h : D w p) (h0 : 0 ≤ p) (hB : 1 ≤ B) (hB2 : B ≤ 2) (hp : p ≤ B * B) : sqr.ok.sp w = true ∧ ∃ z, D (sqr.sv w) z ∧ -e ≤ z ∧ z ≤ B + 2 * e := by
  obtain ⟨s, m, i, hr, hi, rfl⟩ := h
  have hd : FloatKind.f64.decode w = .number s m i := hr
  have n64 : num64.sp w = true := by unfold num64.sp; rw [hd]
  have ee := e_eq
  have t := twd
  have t52 := tw52
  have lp := tw_pos double.leastPlace
  have t0 := tw_pos (-(double.fractionBits : Int))
  by_cases m0 : m = 0
  · subst m0
    have hs : FloatKind.f64.format.sqrt w = some (double.write (.number s 0 i)) := by
      show ((double.read w).root (double.fractionBits + 2)).map double.write = _
      rw [hr]; rfl
    obtain ⟨x, vx, x0, l1, l2, _⟩ := write_val rm_double s (m := 0) (p := i) (by simp; exact Rat.le_of_lt (tw_pos 100))
    have c0 : ((0 : Nat) : Rat) = 0 := rfl
    rw [c0] at l1
    have hx : x ≤ e := by grind
    refine ⟨by unfold sqr.ok.sp; rw [n64, hs]; rfl, sg s * x, by unfold sqr.sv; rw [hs]; exact vx, ?_, ?_⟩
    · rcases sg_abs s with h | h <;> rw [h] <;> grind
    · rcases sg_abs s with h | h <;> rw [h] <;> grind
  · have m1 : (1 : Rat) ≤ (m : Rat) := nat_one (by omega)
    have tp := tw_pos i
    have mp := mn (a := (m : Rat) - 1) (b := tw i) (by grind) (by grind)
    have hsf : s = false := by
      cases s
      · rfl
      · exfalso
        have : sg true = -1 := rfl
        rw [this] at h0; grind
    subst hsf
    have sg1 : sg false = 1 := rfl
    rw [sg1, Rat.one_mul] at h0 hp
    obtain ⟨more, hmore⟩ : ∃ q : Nat, (2 * (double.fractionBits + 2) - m.log2) + ((i - ((2 * (double.fractionBits + 2) - m.log2 : Nat) : Int)) % 2).toNat = q := ⟨_, rfl⟩
    obtain ⟨hh, hhh⟩ : ∃ q : Int, (i - (more : Int)) / 2 = q := ⟨_, rfl⟩
    have par : i - (more : Int) = 2 * hh := by omega
    obtain ⟨wh, hwh⟩ : ∃ q, Datum.rootFrom (m <<< more) ((m <<< more).log2 / 2 + 1) 0 = q := ⟨_, rfl⟩
    have hw2 : wh * wh ≤ m <<< more := by rw [← hwh]; exact root_le _ _ _ (by simp)
    have hs : FloatKind.f64.format.sqrt w = some (double.write (.number false (2 * wh + (wh * wh != m <<< more).toNat) (hh - 1))) := by
      show ((double.read w).root (double.fractionBits + 2)).map double.write = _
      rw [hr]
      unfold Datum.root
      simp only [m0, if_false, Bool.false_eq_true, Option.map_some]
      rw [hmore, hwh, hhh]
    have hb : (wh * wh != m <<< more).toNat ≤ 1 := Bool.toNat_le _
    generalize (wh * wh != m <<< more).toNat = b at *
    have e1 : tw (hh - 1) * 2 = tw hh := by
      have := tw_add (hh - 1) ((1 : Nat) : Int)
      rw [tw_nat, show hh - 1 + ((1 : Nat) : Int) = hh by omega] at this
      have c : (((2 ^ 1 : Nat) : Nat) : Rat) = 2 := rfl
      rw [c] at this; exact this.symm
    have e2 : ((m <<< more : Nat) : Rat) * (tw hh * tw hh) = (m : Rat) * tw i := by
      rw [Nat.shiftLeft_eq, Rat.natCast_mul, ← tw_nat more, ← tw_add, Rat.mul_assoc, ← tw_add, show (more : Int) + (hh + hh) = i by omega]
    have th := tw_pos hh
    have w2 : (wh : Rat) * (wh : Rat) ≤ ((m <<< more : Nat) : Rat) := by
      rw [← Rat.natCast_mul]; exact Rat.natCast_le_natCast.mpr hw2
    have w0 : (0 : Rat) ≤ (wh : Rat) := Rat.natCast_nonneg
    have big1 : (2 : Nat) ^ 108 ≤ m <<< more := by
      have l := Nat.log2_self_le m0
      have fb : double.fractionBits = 52 := rfl
      rw [Nat.shiftLeft_eq]
      calc 2 ^ 108 ≤ 2 ^ (m.log2 + more) := Nat.pow_le_pow_right (by omega) (by omega)
        _ = 2 ^ m.log2 * 2 ^ more := Nat.pow_add ..
        _ ≤ m * 2 ^ more := Nat.mul_le_mul_right _ l
    have big2 : (18014398509481984 : Rat) * 18014398509481984 ≤ ((m <<< more : Nat) : Rat) := by
      have := Rat.natCast_le_natCast.mpr big1
      have c : (((2 ^ 108 : Nat) : Nat) : Rat) = (18014398509481984 : Rat) * 18014398509481984 := by decide +kernel
      rw [c] at this; exact this
    generalize ((m <<< more : Nat) : Rat) = n at *
    have k1 := mn (a := n - (wh : Rat) * (wh : Rat)) (b := tw hh * tw hh) (by grind) (mn (by grind) (by grind))
    have k2 := mn (a := n - (18014398509481984 : Rat) * 18014398509481984) (b := tw hh * tw hh) (by grind) (mn (by grind) (by grind))
    have r1 : (wh : Rat) * tw hh ≤ B := sq_root (by grind) (by grind)
    have r2 : 18014398509481984 * tw hh ≤ B := sq_root (by grind) (by grind)
    have b0 : (0 : Rat) ≤ (b : Rat) := Rat.natCast_nonneg
    have b1 : (b : Rat) ≤ 1 := by have : (b : Rat) ≤ ((1 : Nat) : Rat) := Rat.natCast_le_natCast.mpr hb; simpa using this
    have c : ((2 * wh + b : Nat) : Rat) = 2 * (wh : Rat) + (b : Rat) := by simp
    have v : ((2 * wh + b : Nat) : Rat) * tw (hh - 1) = (wh : Rat) * tw hh + (b : Rat) * tw (hh - 1) := by rw [c, ← e1]; grind
    have v1 := mn (a := 1 - (b : Rat)) (b := tw (hh - 1)) (by grind) (by grind)
    have v2 := mn b0 (b := tw (hh - 1)) (by grind)
    have v3 := mn w0 (b := tw hh) (by grind)
    have vle : ((2 * wh + b : Nat) : Rat) * tw (hh - 1) ≤ B + e := by rw [v]; grind
    have v0 : 0 ≤ ((2 * wh + b : Nat) : Rat) * tw (hh - 1) := by rw [v]; grind
    obtain ⟨x, vx, x0, l1, l2, _⟩ := write_val rm_double false (m := 2 * wh + b) (p := hh - 1) (Rat.le_trans vle (by have := sbig (B := 10) (by grind); grind))
    generalize ((2 * wh + b : Nat) : Rat) * tw (hh - 1) = r at *
    have v4 := mn (a := 3 - r) (b := tw (-(double.fractionBits : Int))) (by grind) (by grind)
    refine ⟨by unfold sqr.ok.sp; rw [n64, hs]; rfl, sg false * x, by unfold sqr.sv; rw [hs]; exact vx, ?_, ?_⟩
    · rw [sg1]; grind
    · rw [sg1]; grind
end agr

namespace agr
open Ieee fp
theorem nar_ok {a : Nat} {x : Rat} (ha : D a x) (h1 : -4 ≤ x) (h2 : x ≤ 4) : nar.ok.sp a = true := by
  obtain ⟨z, vz, _⟩ := dnar ha h1 h2
  obtain ⟨s, m, i, hr, _⟩ := ha
  have hd : FloatKind.f64.decode a = .number s m i := hr
  unfold nar.ok.sp
  unfold nar.sv at vz
  rw [hd] at vz ⊢
  obtain ⟨s', m', i', hr', _⟩ := vz
  have hd' : FloatKind.f32.decode (FloatKind.f32.encode (.number s m i)) = .number s' m' i' := hr'
  simp only [hd']; rfl
theorem t99 : (1000000 : Rat) ≤ tw 99 := tw_nat 99 ▸ (by decide +kernel)
theorem sq_bnd {x y K : Rat} (h : x * x + y * y ≤ K) (hK : K ≤ 102 / 100) : -(101 / 100) ≤ x ∧ x ≤ 101 / 100 := by
  have yy : 0 ≤ y * y := by
    rcases (Rat.le_total : 0 ≤ y ∨ y ≤ 0) with c | c
    · exact mn c c
    · have := mn (a := -y) (b := -y) (by grind) (by grind); grind
  constructor
  · have := sq_root (a := -x) (b := 101 / 100) (by grind) (by grind); grind
  · exact sq_root (by grind) (by grind)
theorem sq0 (y : Rat) : 0 ≤ y * y := by
  rcases (Rat.le_total : 0 ≤ y ∨ y ≤ 0) with c | c
  · exact mn c c
  · have := mn (a := -y) (b := -y) (by grind) (by grind); grind
/-- The length of a short arrow. -/
theorem long_ok {a b : Nat} {x y : Rat} (ha : V a x) (hb : V b y) (h : x * x + y * y ≤ 10001 / 10000) : an.long.ok.sp a b = true ∧ gt64.sp (fwid.sv (an.long.sv a b)) 4607186922399644778 = false := by
  have ee := e_eq
  have e7e : e7 * 10000000 = 1 := e7_eq
  have t := t99
  have bx := sq_bnd h (by grind)
  have by_ := sq_bnd (x := y) (y := x) (K := 10001 / 10000) (by grind) (by grind)
  have d1 := v_wide ha (by grind) (by grind)
  have d2 := v_wide hb (by grind) (by grind)
  have sx := sq0 x
  have sy := sq0 y
  obtain ⟨p, vp, p1, p2, p3⟩ := dmul d1 d1 (by grind) (by grind)
  obtain ⟨q, vq, q1, q2, q3⟩ := dmul d2 d2 (by grind) (by grind)
  have p0 := p3 sx
  have q0 := q3 sy
  obtain ⟨r, vr, r1, r2, r3, _⟩ := dadd vp vq (by grind) (by grind)
  have r0 := r3 (by grind)
  obtain ⟨ok, z, vz, z0, z1⟩ := sqrt_ok vr r0 (B := 10001 / 10000) (by grind) (by grind) (by grind)
  have nk := nar_ok vz (by grind) (by grind)
  obtain ⟨l, vl, l1, l2⟩ := dnar vz (by grind) (by grind)
  have dl := v_wide vl (by grind) (by grind)
  refine ⟨by unfold an.long.ok.sp an.pow.sv; rw [ok, nk]; rfl, ?_⟩
  have dc : D 4607186922399644778 ((4508103226997866 : Nat) * tw (-((52 : Nat) : Int))) := dlit (by decide +kernel)
  have cc : ((4508103226997866 : Nat) : Rat) = 4508103226997866 := rfl
  rw [cc, dtw (p := 52) (q := 4503599627370496) rfl] at dc
  unfold gt64.sp
  obtain ⟨o, ho, h1, h2, h3⟩ := d_order dl dc
  show (FloatKind.f64.format.order (fwid.sv (nar.sv (sqr.sv (an.pow.sv a b)))) _ == _) = false
  unfold an.pow.sv
  rw [ho]
  have : o ≠ .gt := fun h => by have := h3.1 h; grind
  cases o <;> simp at this ⊢
/-- Sums of arrows are no longer than the arrows together. -/
theorem ls_sq (f g : Nat → Rat) (K : Rat) : ∀ xs : List Nat, (∀ w ∈ xs, f w * f w + g w * g w ≤ K) → ls f xs * ls f xs + ls g xs * ls g xs ≤ (xs.length : Rat) * (xs.length : Rat) * K
  | [], _ => by simp only [ls, List.length_nil]; grind
  | w :: r, h => by
    have a := h w (List.mem_cons_self ..)
    have b := ls_sq f g K r (fun v hv => h v (List.mem_cons_of_mem _ hv))
    have l1 : ((r.length + 1 : Nat) : Rat) = (r.length : Rat) + 1 := by simp
    simp only [ls, List.length_cons, l1]
    have k0 : (0 : Rat) ≤ (r.length : Rat) := Rat.natCast_nonneg
    have hr : r.length = 0 ∨ 1 ≤ r.length := by omega
    rcases hr with hr | hr
    · have : r = [] := List.length_eq_zero_iff.mp hr
      subst this
      simp only [ls, List.length_nil]; grind
    · have k1 := nat_one hr
      generalize (r.length : Rat) = k at *
      generalize ls f r = S at *
      generalize ls g r = T at *
      have s1 := sq0 (S - k * f w)
      have s2 := sq0 (T - k * g w)
      have m := mn (a := k * k) (b := K - (f w * f w + g w * g w)) (mn k0 k0) (by grind)
      have c : k * (S * f w + T * g w) ≤ k * (k * K) := by grind
      have d : S * f w + T * g w ≤ k * K := div_le k1 (by grind)
      grind
/-- Chosen arrows. -/
def gre (n c : Nat) : Nat := (ar.one.sv n c).1
def gim (n c : Nat) : Nat := (ar.one.sv n c).2
theorem arrow_v {n c : Nat} (hn : n < 13) (hc : c < n) : Vf (gre n c) ∧ Vf (gim n c) ∧ vf (gre n c) * vf (gre n c) + vf (gim n c) * vf (gim n c) ≤ 1000001 / 1000000 := by
  have h := a_all n hn c hc
  unfold chkA at h
  change (match single.read (gre n c), single.read (gim n c) with
    | .number _ m i, .number _ m2 i2 => _
    | _, _ => false) = true at h
  split at h
  · rename_i s m i s2 m2 i2 h1 h2
    simp only [Bool.and_eq_true, decide_eq_true_eq] at h
    obtain ⟨⟨i1, i3⟩, hq⟩ := h
    have v1 : V (gre n c) (sg s * ((m : Rat) * tw i)) := ⟨s, m, i, h1, i1, rfl⟩
    have v2 : V (gim n c) (sg s2 * ((m2 : Rat) * tw i2)) := ⟨s2, m2, i2, h2, i3, rfl⟩
    refine ⟨Vf.of v1, Vf.of v2, ?_⟩
    rw [vf_of v1, vf_of v2]
    have c1 := shift_cast m i1
    have c2 := shift_cast m2 i3
    rw [show i - -149 = i + 149 by omega] at c1
    rw [show i2 - -149 = i2 + 149 by omega] at c2
    obtain ⟨N, hN⟩ : ∃ N : Nat, 2 ^ 298 + 2 ^ 298 / 1000000 = N := ⟨_, rfl⟩
    have cN : (N : Rat) ≤ 509258994083621521567111422102344540262867098416484062659035112338595324940834176545849344 * (1000001 / 1000000) := by rw [← hN]; decide +kernel
    rw [hN] at hq
    clear hN
    obtain ⟨A, hA⟩ : ∃ A : Nat, m * 2 ^ (i + 149).toNat = A := ⟨_, rfl⟩
    obtain ⟨B, hB⟩ : ∃ B : Nat, m2 * 2 ^ (i2 + 149).toNat = B := ⟨_, rfl⟩
    rw [hA] at hq c1
    rw [hB] at hq c2
    have hq' := Rat.natCast_le_natCast.mpr hq
    rw [Rat.natCast_add, Rat.natCast_mul, Rat.natCast_mul] at hq'
    clear hq hA hB
    generalize (A : Rat) = X at *
    generalize (B : Rat) = Y at *
    generalize (N : Rat) = M at *
    have t0 := tw_pos (-149)
    have tt : tw (-149) * tw (-149) * 509258994083621521567111422102344540262867098416484062659035112338595324940834176545849344 = 1 := by
      have h := tw_add (-298) ((298 : Nat) : Int)
      rw [tw_nat, show (-298 : Int) + ((298 : Nat) : Int) = 0 by omega, tw_zero, show (-298 : Int) = -149 + -149 from rfl, tw_add] at h
      have c : (((2 ^ 298 : Nat) : Nat) : Rat) = 509258994083621521567111422102344540262867098416484062659035112338595324940834176545849344 := by decide +kernel
      rw [c] at h; exact h.symm
    rw [← c1, ← c2]
    have q1 := sg_sq s
    have q2 := sg_sq s2
    have m1 := mn (a := tw (-149) * tw (-149)) (b := M - (X * X + Y * Y)) (mn (by grind) (by grind)) (by grind)
    have m3 := mn (a := tw (-149) * tw (-149)) (b := 509258994083621521567111422102344540262867098416484062659035112338595324940834176545849344 * (1000001 / 1000000) - M) (mn (by grind) (by grind)) (by grind)
    have e1 : sg s * (X * tw (-149)) * (sg s * (X * tw (-149))) = (sg s * sg s) * ((tw (-149) * tw (-149)) * (X * X)) := by grind
    have e2 : sg s2 * (Y * tw (-149)) * (sg s2 * (Y * tw (-149))) = (sg s2 * sg s2) * ((tw (-149) * tw (-149)) * (Y * Y)) := by grind
    rw [e1, e2, q1, q2]
    generalize tw (-149) * tw (-149) = t at *
    grind
  · cases h
/-- The mean of chosen arrows is no longer than one. -/
theorem mean_long {xs : List Nat} {n : Nat} (h1 : 1 ≤ xs.length) (h2 : xs.length ≤ 10) (hn : n < 13) (h : ∀ c ∈ xs, c < n) : an.long.ok.sp (fl.mean.sv (xs.map fun c => (gre n c, gim n c))).1 (fl.mean.sv (xs.map fun c => (gre n c, gim n c))).2 = true ∧
    gt64.sp (fwid.sv (an.long.sv (fl.mean.sv (xs.map fun c => (gre n c, gim n c))).1 (fl.mean.sv (xs.map fun c => (gre n c, gim n c))).2)) 4607186922399644778 = false := by
  have ee := e7_eq
  have n1 := nat_one h1
  obtain ⟨mr, er, r1, r2, zr, vr, r3, r4⟩ := mean_part (gre n) (fun c => vf (gre n c)) h1 h2 (fun c hc => by
    obtain ⟨a, b, k⟩ := arrow_v hn (h c hc)
    exact ⟨⟨_, a, by grind, by grind⟩, sq_bnd k (by grind)⟩)
  obtain ⟨mi, ei, i1, i2, zi, vi, i3, i4⟩ := mean_part (gim n) (fun c => vf (gim n c)) h1 h2 (fun c hc => by
    obtain ⟨a, b, k⟩ := arrow_v hn (h c hc)
    exact ⟨⟨_, b, by grind, by grind⟩, sq_bnd (y := vf (gre n c)) (K := 1000001 / 1000000) (by grind) (by grind)⟩)
  have sq := ls_sq (fun c => vf (gre n c)) (fun c => vf (gim n c)) (1000001 / 1000000) xs (fun c hc => (arrow_v hn (h c hc)).2.2)
  rw [← er, ← ei] at sq
  have mm : mr * mr + mi * mi ≤ 1000001 / 1000000 := by
    have nn : 1 ≤ (xs.length : Rat) * (xs.length : Rat) := by have := mn (a := (xs.length : Rat) - 1) (b := (xs.length : Rat) - 1) (by grind) (by grind); grind
    exact div_le nn (by grind)
  unfold fl.mean.sv
  rw [sm_fs, List.length_map]
  have x1 := mul_bnd (a := zr - mr) (b := zr + mr) (A := 29 * e7) (B := 21 / 10) (by grind) (by grind) (by grind) (by grind)
  have x2 := mul_bnd (a := zi - mi) (b := zi + mi) (A := 29 * e7) (B := 21 / 10) (by grind) (by grind) (by grind) (by grind)
  exact long_ok vr vi (by grind)
end agr

namespace agr
open Ieee fp
theorem d_min {a b : Nat} {x y : Rat} (ha : D a x) (hb : D b y) : ord.sp .f64 a b = true ∧ ∃ z, D (fmin.sv .f64 a b) z ∧ z ≤ x ∧ z ≤ y ∧ (z = x ∨ z = y) := by
  obtain ⟨o, ho, h1, h2, h3⟩ := d_order ha hb
  have ho' : FloatKind.f64.format.order a b = some o := ho
  refine ⟨by unfold ord.sp; rw [ho']; rfl, ?_⟩
  unfold fmin.sv
  rw [ho']
  cases o
  · have := h1.1 rfl
    exact ⟨x, ha, by grind, by grind, .inl rfl⟩
  · have e1 := h2.1 rfl
    simp only
    split
    · exact ⟨x, ha, by grind, by grind, .inl rfl⟩
    · exact ⟨y, hb, by grind, by grind, .inr rfl⟩
  · have := h3.1 rfl
    exact ⟨y, hb, by grind, by grind, .inr rfl⟩
theorem wide_fold : ∀ (r : List Nat) (l h : Nat) (L H : Rat), D l L → D h H → (∀ w ∈ r, Vf w ∧ -1 ≤ vf w ∧ vf w ≤ 1) →
    wd.oks.sp r l h = true ∧ (∃ z, D (wd.lo.sv r l) z ∧ z ≤ L ∧ (∀ w ∈ r, z ≤ vf w) ∧ (z = L ∨ ∃ w ∈ r, z = vf w)) ∧ (∃ z, D (wd.hi.sv r h) z ∧ H ≤ z ∧ (∀ w ∈ r, vf w ≤ z) ∧ (z = H ∨ ∃ w ∈ r, z = vf w))
  | [], l, h, L, H, hl, hh, _ => ⟨rfl, ⟨L, hl, Rat.le_refl, by simp, .inl rfl⟩, ⟨H, hh, Rat.le_refl, by simp, .inl rfl⟩⟩
  | w :: r, l, h, L, H, hl, hh, k => by
    obtain ⟨v, v1, v2⟩ := k w (List.mem_cons_self ..)
    have t := t99
    have dw := v_wide v (by clear k; grind) (by clear k; grind)
    obtain ⟨o1, z1, d1, a1, b1, c1⟩ := d_min hl dw
    obtain ⟨o2, z2, d2, a2, b2, c2⟩ := d_max hh dw
    obtain ⟨ok, ⟨y1, e1, f1, g1, i1⟩, y2, e2, f2, g2, i2⟩ := wide_fold r _ _ z1 z2 d1 d2 (fun u hu => k u (List.mem_cons_of_mem _ hu))
    refine ⟨by simp only [wd.oks.sp, o1, o2, ok, Bool.and_self], ⟨y1, e1, Rat.le_trans f1 a1, ?_, ?_⟩, ⟨y2, e2, Rat.le_trans a2 f2, ?_, ?_⟩⟩
    · intro u hu
      rcases List.mem_cons.mp hu with rfl | hu
      · exact Rat.le_trans f1 b1
      · exact g1 u hu
    · rcases i1 with rfl | ⟨u, hu, rfl⟩
      · rcases c1 with rfl | rfl
        · exact .inl rfl
        · exact .inr ⟨w, List.mem_cons_self .., rfl⟩
      · exact .inr ⟨u, List.mem_cons_of_mem _ hu, rfl⟩
    · intro u hu
      rcases List.mem_cons.mp hu with rfl | hu
      · exact Rat.le_trans b2 f2
      · exact g2 u hu
    · rcases i2 with rfl | ⟨u, hu, rfl⟩
      · rcases c2 with rfl | rfl
        · exact .inl rfl
        · exact .inr ⟨w, List.mem_cons_self .., rfl⟩
      · exact .inr ⟨u, List.mem_cons_of_mem _ hu, rfl⟩
/-- How wide turns lie. -/
theorem wide_ok {xs : List Nat} (ne : xs ≠ []) (v : ∀ w ∈ xs, Vf w ∧ -1 ≤ vf w ∧ vf w ≤ 1) : wd.w.ok.sp xs = true ∧ ∃ z a b, D (wd.w.sv xs) z ∧ a ∈ xs ∧ b ∈ xs ∧ (∀ w ∈ xs, vf a ≤ vf w ∧ vf w ≤ vf b) ∧ z ≤ vf b - vf a + e ∧ vf b - vf a ≤ z + e := by
  cases xs with
  | nil => exact absurd rfl ne
  | cons w r =>
    obtain ⟨v0, v1, v2⟩ := v w (List.mem_cons_self ..)
    have t := t99
    have dw := v_wide v0 (by clear v; grind) (by clear v; grind)
    obtain ⟨ok, ⟨y1, e1, f1, g1, i1⟩, y2, e2, f2, g2, i2⟩ := wide_fold r _ _ _ _ dw dw (fun u hu => v u (List.mem_cons_of_mem _ hu))
    have hg : wd.g (w :: r) = fwid.sv w := rfl
    refine ⟨by unfold wd.w.ok.sp; rw [hg]; exact ok, ?_⟩
    have ha : ∃ a ∈ w :: r, y1 = vf a := by
      rcases i1 with rfl | ⟨u, hu, rfl⟩
      · exact ⟨w, List.mem_cons_self .., rfl⟩
      · exact ⟨u, List.mem_cons_of_mem _ hu, rfl⟩
    have hb : ∃ a ∈ w :: r, y2 = vf a := by
      rcases i2 with rfl | ⟨u, hu, rfl⟩
      · exact ⟨w, List.mem_cons_self .., rfl⟩
      · exact ⟨u, List.mem_cons_of_mem _ hu, rfl⟩
    obtain ⟨a, ha, rfl⟩ := ha
    obtain ⟨b, hb, rfl⟩ := hb
    have va := v a ha
    have vb := v b hb
    obtain ⟨z, vz, z1, z2, _⟩ := dsub e2 e1 (by clear v g1 g2; grind) (by clear v g1 g2; grind)
    refine ⟨z, a, b, by unfold wd.w.sv; rw [hg]; exact vz, ha, hb, ?_, by grind, by grind⟩
    intro u hu
    rcases List.mem_cons.mp hu with rfl | hu
    · exact ⟨f1, f2⟩
    · exact ⟨g1 u hu, g2 u hu⟩
theorem v100 : V 1120403456 100 := by
  have : FloatKind.f32.nearest (100 : Int) = 1120403456 := by decide +kernel
  rw [← this]; exact v_int (n := 100) (by omega)
/-- The turns that are drawn. -/
theorem turn_v {k : Nat} (hk : k < 17) : Vf (tk k) ∧ 0 ≤ vf (tk k) ∧ 100 * vf (tk k) ≤ (k : Rat) + 800 * e7 ∧ (k : Rat) ≤ 100 * vf (tk k) + 800 * e7 := by
  have ee := e7_eq
  have vk : V (FloatKind.f32.nearest (k : Int)) (k : Rat) := v_int (n := (k : Int)) (by omega)
  have k17 : (k : Rat) ≤ 17 := by
    have : (k : Rat) ≤ ((17 : Nat) : Rat) := Rat.natCast_le_natCast.mpr (by omega)
    simpa using this
  have k0 : (0 : Rat) ≤ (k : Rat) := Rat.natCast_nonneg
  obtain ⟨w, z, hw, vz, l1, l2, _, p, _⟩ := div_val rm_single vk v100 (by grind) (v := (k : Rat) / 100) (B := 1) (by grind) (by grind) (by grind) (sbig (by grind))
  have bb := sbnd tw23 tws (B := 4) (by grind)
  have e1 : tk k = w := by show (single.div _ _).getD _ = w; rw [hw]; rfl
  have p0 := p (by grind)
  rw [← e1] at vz
  refine ⟨Vf.of vz, ?_⟩
  rw [vf_of vz]
  exact ⟨p0, by grind, by grind⟩
theorem ls_ge {f : Nat → Rat} {c d : Rat} : ∀ {xs : List Nat}, (∀ w ∈ xs, c ≤ f w) → (∃ w ∈ xs, c + d ≤ f w) → (xs.length : Rat) * c + d ≤ ls f xs
  | [], _, h => by obtain ⟨w, hw, _⟩ := h; cases hw
  | w :: r, h, ⟨v, hv, hd⟩ => by
    have l1 : ((r.length + 1 : Nat) : Rat) = (r.length : Rat) + 1 := by simp
    have hw := h w (List.mem_cons_self ..)
    simp only [ls, List.length_cons, l1]
    rcases List.mem_cons.mp hv with rfl | hv
    · have := ls_le (f := fun _ => c) (g := f) (xs := r) (fun u hu => h u (List.mem_cons_of_mem _ hu))
      rw [ls_const] at this; grind
    · have := ls_ge (xs := r) (fun u hu => h u (List.mem_cons_of_mem _ hu)) ⟨v, hv, hd⟩
      grind
theorem bb24 : 162 / 1000 ≤ bb 24 := by
  simp only [bb]; grind
/-- All rounds from drawn turns. -/
theorem all_rounds {ks : List Nat} (h1 : 1 ≤ ks.length) (h2 : ks.length ≤ 10) (hk : ∀ k ∈ ks, k < 17) :
    ∃ lo hi, In (ks.map tk) lo hi ∧ (∃ a ∈ ks.map tk, vf a = lo) ∧ (∃ b ∈ ks.map tk, vf b = hi) ∧ ∃ o m, ag.rs.sv 1040187392 981668463 256 (ks.map tk) 1 = some (o, m) ∧ 1 ≤ m ∧ m ≤ 26 ∧ Out (ks.map tk) o (hi - lo) := by
  have ee := e7_eq
  have n1 : 1 ≤ (ks.map tk).length := by rw [List.length_map]; exact h1
  have n2 : (ks.map tk).length ≤ 10 := by rw [List.length_map]; exact h2
  have I0 : In (ks.map tk) 0 (1601 / 10000) := by
    refine ⟨n1, n2, Rat.le_refl, by grind, ?_, ?_⟩
    · intro w hw
      obtain ⟨k, hk', rfl⟩ := List.mem_map.mp hw
      exact (turn_v (hk k hk')).1
    · intro w hw
      obtain ⟨k, hk', rfl⟩ := List.mem_map.mp hw
      have t := turn_v (hk k hk')
      have k16 : (k : Rat) ≤ 16 := by
        have : (k : Rat) ≤ ((16 : Nat) : Rat) := Rat.natCast_le_natCast.mpr (by have := hk k hk'; omega)
        simpa using this
      exact ⟨t.2.1, by clear hk; grind⟩
  obtain ⟨a, b, ha, hb, I, l0, l1⟩ := I0.tight
  refine ⟨vf a, vf b, I, ⟨a, ha, rfl⟩, ⟨b, hb, rfl⟩, ?_⟩
  obtain ⟨ka, hka, ea⟩ := List.mem_map.mp ha
  obtain ⟨kb, hkb, eb⟩ := List.mem_map.mp hb
  have ta := turn_v (hk ka hka)
  have tb := turn_v (hk kb hkb)
  rw [ea] at ta
  rw [eb] at tb
  have hab := (I.btw b hb).1
  by_cases he : ka = kb
  · have : vf a = vf b := by rw [← ea, ← eb, he]
    have c0 : ((0 : Nat) : Rat) = 0 := rfl
    obtain ⟨o, m, e1, e2, e3, e4⟩ := rounds 0 256 (ks.map tk) (vf a) (vf b) 1 I (by rw [c0]; grind) (by rw [c0]; grind) (by simp only [bb]; grind) (by omega)
    exact ⟨o, m, e1, e2, by omega, e4⟩
  · have far : 99 / 10000 ≤ vf b - vf a := by
      have hlt : ka + 1 ≤ kb ∨ kb + 1 ≤ ka := by omega
      have cast : ∀ {p q : Nat}, p + 1 ≤ q → (p : Rat) + 1 ≤ (q : Rat) := by
        intro p q hpq
        have := Rat.natCast_le_natCast.mpr hpq
        simpa using this
      rcases hlt with h | h
      · have := cast h; clear cast hk I0 I; grind
      · exfalso; have := cast h; clear cast hk I0 I; grind
    obtain ⟨m, em, m1, m2, st⟩ := I.step
    have vx : ∀ w ∈ nx1 (ks.map tk), Vf w := by
      intro w hw
      obtain ⟨v, hv, rfl⟩ := List.mem_map.mp hw
      exact (st v hv).1
    have sum := ls_ge (f := vf) (c := vf a) (d := 99 / 10000) (xs := ks.map tk) (fun w hw => (I.btw w hw).1) ⟨b, hb, by grind⟩
    rw [← em] at sum
    have n10 : ((ks.map tk).length : Rat) ≤ 10 := by
      have : ((ks.map tk).length : Rat) ≤ ((10 : Nat) : Rat) := Rat.natCast_le_natCast.mpr n2
      simpa using this
    have nn := nat_one n1
    generalize ((ks.map tk).length : Rat) = N at sum nn n10
    have mlo : vf a + 99 / 100000 ≤ m := div_le nn (by have := mn (a := 10 - N) (b := (99 / 100000 : Rat)) (by grind) (by grind); clear st vx I I0 hk; grind)
    have r0 := round_eq (ks.map tk) 255 1 vx
    rw [r0]
    cases hs : ag.le.sp (ag.far.sv (nx1 (ks.map tk)) (ks.map tk) 0) 981668463
    · rw [cond_false]
      have nxt := I.next em (lo' := vf a + 23 * ((m - vf a) / 100) - 13 * e7) (hi' := vf b - 23 * ((vf b - m) / 100) + 13 * e7) Rat.le_refl Rat.le_refl (by clear st vx I I0 hk; grind) (by clear st vx I I0 hk; grind)
      have c24 : ((24 : Nat) : Rat) = 24 := rfl
      obtain ⟨o, k, e1, e2, e3, e4⟩ := rounds 24 255 (nx1 (ks.map tk)) _ _ (1 + 1) nxt (by rw [c24]; clear st vx I I0 hk nxt; grind) (by rw [c24]; clear st vx I I0 hk nxt; grind) (by have := bb24; clear st vx I I0 hk nxt; grind) (by omega)
      obtain ⟨lo', hi', k1, k2, k3⟩ := e4.btw
      exact ⟨o, k, e1, by omega, by omega, e4.len.trans (ag.o_length _ _), e4.v, lo', hi', k1, by clear st vx I I0 hk nxt e4 k1; grind, k3⟩
    · rw [cond_true]
      exact ⟨nx1 (ks.map tk), 1, rfl, by omega, by omega, stop_case I _ Rat.le_refl hs⟩
theorem v_p001 : ∃ x, D 4562254508917369340 x ∧ x ≤ 1 / 1000 + e ∧ 1 / 1000 ≤ x + e := by
  have ee := e_eq
  have h := dlit (w := 4562254508917369340) (m := 4611686018427388 * 1) (p := 62) (by decide +kernel)
  have c2 : ((4611686018427388 * 1 : Nat) : Rat) = 4611686018427388 := rfl
  rw [c2, dtw (p := 62) (q := 4611686018427387904) rfl] at h
  exact ⟨_, h, by grind, by grind⟩
theorem v_p05 : ∃ x, D 4587366580439587226 x ∧ 49 / 1000 ≤ x := by
  have h := dlit (w := 4587366580439587226) (m := 7205759403792794) (p := 57) (by decide +kernel)
  have c2 : ((7205759403792794 : Nat) : Rat) = 7205759403792794 := rfl
  rw [c2, dtw (p := 57) (q := 144115188075855872) rfl] at h
  exact ⟨_, h, by grind⟩
/-- Nought times a number is nought. -/
theorem zero_mul_w {q : Nat} {y : Rat} (h : V q y) : fmul .f32 0 q = 0 ∨ fmul .f32 0 q = 2147483648 := by
  obtain ⟨s, m, i, hr, _⟩ := h
  have h0 : single.read 0 = .number false 0 (-149) := by rfl
  have : fmul .f32 0 q = single.write (.number (false ^^ s) (0 * m) (-149 + i)) := by
    show (single.mul 0 q).getD _ = _
    unfold Format.mul
    rw [h0, hr]; rfl
  rw [this, Nat.zero_mul]
  cases s
  · left; rfl
  · right; rfl
theorem one_step0 {xs : List Nat} (h1 : 1 ≤ xs.length) (h2 : xs.length ≤ 10) (h : ∀ w ∈ xs, Ok w) {w : Nat} (hw : w ∈ xs) : ag.one.sv 0 (ag.m.sv xs) w = fadd .f32 w 0 ∨ ag.one.sv 0 (ag.m.sv xs) w = fadd .f32 w 2147483648 := by
  have ee := e7_eq
  have ok := h w hw
  obtain ⟨⟨c0, c1⟩, s0, s1⟩ := cs_bnd ok
  obtain ⟨⟨cz, vc, c2, c3⟩, sz, vs, s2, s3⟩ := arr_ok ok
  obtain ⟨mr, er, r1, r2, zr, vr, r3, r4⟩ := mean_part (fun w => fl.re.sv (fwid.sv w)) cw h1 h2 (fun v hv => ⟨(arr_ok (h v hv)).1, by have := (cs_bnd (h v hv)).1; grind, (cs_bnd (h v hv)).1.2⟩)
  obtain ⟨mi, ei, i1, i2, zi, vi, i3, i4⟩ := mean_part (fun w => fl.im.sv (fwid.sv w)) sw h1 h2 (fun v hv => ⟨(arr_ok (h v hv)).2, by have := (cs_bnd (h v hv)).2; grind, (cs_bnd (h v hv)).2.2⟩)
  have hm : ag.m.sv xs = (fdiv .f32 (fs (fun w => fl.re.sv (fwid.sv w)) xs 0) (FloatKind.f32.nearest (xs.length : Int)), fdiv .f32 (fs (fun w => fl.im.sv (fwid.sv w)) xs 0) (FloatKind.f32.nearest (xs.length : Int))) := by
    unfold ag.m.sv fl.mean.sv ag.arr.sv
    rw [show xs.map ag.a.sv = xs.map (fun w => ((fun w => fl.re.sv (fwid.sv w)) w, (fun w => fl.im.sv (fwid.sv w)) w)) from rfl, sm_fs, List.length_map]
  have t := t99
  have d1 := v_wide vr (by clear h; grind) (by clear h; grind)
  have d2 := v_wide vi (by clear h; grind) (by clear h; grind)
  have d3 := v_wide vc (by clear h; grind) (by clear h; grind)
  have d4 := v_wide (neg_v vs) (by clear h; grind) (by clear h; grind)
  have p1 := mul_bnd (a := zr) (b := -sz) (A := 11 / 10) (B := 11 / 10) (by clear h; grind) (by clear h; grind) (by clear h; grind) (by clear h; grind)
  have p2 := mul_bnd (a := zi) (b := cz) (A := 11 / 10) (B := 11 / 10) (by clear h; grind) (by clear h; grind) (by clear h; grind) (by clear h; grind)
  obtain ⟨q1, u1, a1, a2, _⟩ := dmul d1 d4 (by clear h; grind) (by clear h; grind)
  obtain ⟨q2, u2, b1, b2, _⟩ := dmul d2 d3 (by clear h; grind) (by clear h; grind)
  have e12 : e * 100000 ≤ e7 := by unfold e e7; grind
  have e0 : 0 ≤ e := by unfold e; grind
  obtain ⟨q3, u3, g1, g2, _, _⟩ := dadd u1 u2 (by clear h; grind) (by clear h; grind)
  obtain ⟨q, vq, k1, k2⟩ := dnar u3 (by clear h; grind) (by clear h; grind)
  unfold ag.one.sv
  rw [hm]
  rcases zero_mul_w vq with e | e
  · left; exact congrArg (fadd .f32 w) e
  · right; exact congrArg (fadd .f32 w) e
def nx0 (xs : List Nat) : List Nat := ag.o.sv xs 0
theorem le_order {a b : Nat} {x y : Rat} (ha : D a x) (hb : D b y) (h : x ≤ y) : (FloatKind.f64.format.order a b == some Ordering.lt || FloatKind.f64.format.order a b == some Ordering.eq) = true := by
  have := le_val ha hb
  unfold fl.le.sp at this
  rw [this]; exact decide_eq_true h
/-- All facts of the law on turns. -/
structure Law (T : List Nat) : Prop where
  sp8 : ag.sp T 1040187392 = true
  sp0 : ag.sp T 0 = true
  stay : ∀ i, i < T.length → (FloatKind.f32.format.order (gn (ag.o.sv T 0) i) (gn T i) == some Ordering.eq) = true
  rsp : ag.rsp.sp T 1040187392 981668463 256 = true
  n1 : 1 ≤ ag.rn.sv T 1040187392 981668463 256
  n2 : ag.rn.sv T 1040187392 981668463 256 ≤ 256
  wk0 : wd.w.ok.sp T = true
  wk1 : wd.w.ok.sp (ag.o.sv T 1040187392) = true
  wk2 : wd.w.ok.sp (ag.ro.sv T 1040187392 981668463 256) = true
  le1 : (FloatKind.f64.format.order (wd.w.sv (ag.o.sv T 1040187392)) (fadd .f64 (wd.w.sv T) 4562254508917369340) == some Ordering.lt || FloatKind.f64.format.order (wd.w.sv (ag.o.sv T 1040187392)) (fadd .f64 (wd.w.sv T) 4562254508917369340) == some Ordering.eq) = true
  le2 : (FloatKind.f64.format.order (wd.w.sv (ag.ro.sv T 1040187392 981668463 256)) (fadd .f64 (wd.w.sv T) 4562254508917369340) == some Ordering.lt || FloatKind.f64.format.order (wd.w.sv (ag.ro.sv T 1040187392 981668463 256)) (fadd .f64 (wd.w.sv T) 4562254508917369340) == some Ordering.eq) = true
  lt3 : (FloatKind.f64.format.order (wd.w.sv (ag.ro.sv T 1040187392 981668463 256)) 4587366580439587226 == some Ordering.lt) = true
theorem law {ks : List Nat} (h1 : 1 ≤ ks.length) (h2 : ks.length ≤ 10) (hk : ∀ k ∈ ks, k < 17) : Law (ks.map tk) := by
  have ee := e_eq
  have e7e := e7_eq
  obtain ⟨lo, hi, I, ⟨a, ha, ea⟩, ⟨b, hb, eb⟩, o, m, hr, m1, m2, out⟩ := all_rounds h1 h2 hk
  have hT : ∀ w ∈ ks.map tk, ∃ k, k < 17 ∧ w = tk k := by
    intro w hw
    obtain ⟨k, hk', rfl⟩ := List.mem_map.mp hw
    exact ⟨k, hk k hk', rfl⟩
  generalize ks.map tk = T at *
  obtain ⟨mm, em, mm1, mm2, st⟩ := I.step
  have l0 := I.low
  have l1 := I.top
  have va := I.btw a ha
  have vb := I.btw b hb
  have hsp : ag.t.sp T = true := by
    unfold ag.t.sp
    rw [fin_of I.v, decide_eq_true I.one, decide_eq_true (show T.length ≤ 64 by have := I.ten; omega)]; rfl
  have f8 : flo.fin.sp 1040187392 = true := v_fin v_eighth
  have f0 : flo.fin.sp 0 = true := v_fin v0
  obtain ⟨N, vN, N1, N2⟩ := v_near
  have lN : flo.least.sp 981668463 = true := v_least vN (by clear st I; grind)
  have vx : ∀ w ∈ ag.o.sv T 1040187392, Vf w := by
    intro w hw
    obtain ⟨v, hv, rfl⟩ := List.mem_map.mp hw
    exact (st v hv).1
  have h0 : ∀ w ∈ T, (FloatKind.f32.format.order (ag.one.sv 0 (ag.m.sv T) w) w == some Ordering.eq) = true ∧ flo.fin.sp (ag.one.sv 0 (ag.m.sv T) w) = true := by
    intro w hw
    obtain ⟨k, hk', rfl⟩ := hT w hw
    obtain ⟨s1, s2, s3, s4⟩ := s_all k hk'
    rcases one_step0 I.one I.ten I.ok hw with e | e
    · rw [e]; exact ⟨s1, s3⟩
    · rw [e]; exact ⟨s2, s4⟩
  have ro : ag.ro.sv T 1040187392 981668463 256 = o := by
    unfold ag.ro.sv
    rw [show ((256 : Int).toNat) = 256 from rfl, hr]; rfl
  have rn : ag.rn.sv T 1040187392 981668463 256 = m := by
    unfold ag.rn.sv
    rw [show ((256 : Int).toNat) = 256 from rfl, hr]; rfl
  have ne : T ≠ [] := by intro h; have := I.one; rw [h] at this; simp at this
  have ne1 : ag.o.sv T 1040187392 ≠ [] := by intro h; have := ag.o_length T 1040187392; rw [h] at this; have := I.one; simp at *; omega
  have ne2 : o ≠ [] := by intro h; have := out.len; rw [h] at this; have := I.one; simp at *; omega
  obtain ⟨k0, z0, a0, b0, d0, ha0, hb0, bt0, z01, z02⟩ := wide_ok ne (fun w hw => ⟨I.v w hw, by have := I.btw w hw; clear st I; grind, by have := I.btw w hw; clear st I; grind⟩)
  obtain ⟨k1, z1, a1, b1, d1, ha1, hb1, bt1, z11, z12⟩ := wide_ok ne1 (fun w hw => by
    refine ⟨vx w hw, ?_⟩
    obtain ⟨v, hv, rfl⟩ := List.mem_map.mp hw
    obtain ⟨_, s1, s2, _⟩ := st v hv
    clear st I; exact ⟨by grind, by grind⟩)
  -- the ends lie near to each other, but we need them between bounds too
  obtain ⟨lo', hi', bt, w1, w2, w3, w4⟩ := out.btw
  obtain ⟨k2, z2, a2, b2, d2, ha2, hb2, bt2, z21, z22⟩ := wide_ok ne2 (fun w hw => ⟨out.v w hw, by have := bt w hw; clear st I bt; grind, by have := bt w hw; clear st I bt; grind⟩)
  have A0 := bt0 a ha
  have B0 := bt0 b hb
  have A1 := bt a2 ha2
  have B1 := bt b2 hb2
  have S : vf b1 - vf a1 ≤ hi - lo + 27 * e7 := by
    obtain ⟨u, hu, eu⟩ := List.mem_map.mp ha1
    obtain ⟨v, hv, ev⟩ := List.mem_map.mp hb1
    obtain ⟨_, s1, s2, _⟩ := st u hu
    obtain ⟨_, s3, s4, _⟩ := st v hv
    rw [eu] at s1 s2
    rw [ev] at s3 s4
    clear st I bt bt0 bt1 bt2; grind
  obtain ⟨c1, v1, c11, c12⟩ := v_p001
  obtain ⟨c5, v5, c51⟩ := v_p05
  have q0 := I.btw a0 ha0
  have q1 := I.btw b0 hb0
  obtain ⟨s, vs, s1, s2, _⟩ := dadd d0 v1 (by clear st I bt bt0 bt1 bt2; grind) (by clear st I bt bt0 bt1 bt2; grind)
  refine ⟨?_, ?_, ?_, ?_, ?_, ?_, k0, k1, ?_, ?_, ?_, ?_⟩
  · unfold ag.sp; rw [hsp, f8, fin_of vx]; rfl
  · unfold ag.sp
    rw [hsp, f0]
    have : (ag.o.sv T 0).any areFinite_1.sp = false := by
      rw [List.any_eq_false]
      intro w hw
      obtain ⟨v, hv, rfl⟩ := List.mem_map.mp hw
      have := (h0 v hv).2
      unfold areFinite_1.sp
      rw [this]; simp
    rw [this]; rfl
  · intro i hi
    have e1 : gn (ag.o.sv T 0) i = ag.one.sv 0 (ag.m.sv T) (gn T i) := by
      unfold ag.o.sv gn
      simp [List.getD_eq_getElem?_getD, List.getElem?_map, List.getElem?_eq_getElem hi]
    rw [e1]
    refine (h0 _ ?_).1
    unfold gn
    simp [List.getD_eq_getElem?_getD, List.getElem?_eq_getElem hi]
  · unfold ag.rsp.sp
    rw [hsp, f8, lN, show ((256 : Int).toNat) = 256 from rfl, hr]; rfl
  · rw [rn]; exact m1
  · rw [rn]; omega
  · rw [ro]; exact k2
  · exact le_order d1 vs (by clear st I bt bt0 bt1 bt2; grind)
  · rw [ro]; exact le_order d2 vs (by clear st I bt bt0 bt1 bt2; grind)
  · rw [ro]
    obtain ⟨o', ho, o1, o2, o3⟩ := d_order d2 v5
    rw [ho]
    have : z2 < c5 := by clear st I bt bt0 bt1 bt2; grind
    rw [o1.2 this]; rfl
end agr
end Go.Proofs.Ytgblgofmdhekiaa.Ab
