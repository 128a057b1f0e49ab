/-
  The sine and the point of the unit circle, as numbers: the plain law.
-/
import Derived.Test.YtgblgofmdhekiaaFnMC
namespace Go.Proofs.Ytgblgofmdhekiaa.Ab
open Go
set_option linter.unusedVariables false
set_option linter.unusedSimpArgs false

namespace fl
def isf.sp (x : Nat) : Bool := FloatKind.f64.format.order (fsub .f64 x x) 0 == some Ordering.eq
def abs.sv (x : Nat) : Nat := x % 9223372036854775808
def ge.sp (x y : Nat) : Bool := FloatKind.f64.format.order x y == some Ordering.gt || FloatKind.f64.format.order x y == some Ordering.eq
def le.sp (x y : Nat) : Bool := FloatKind.f64.format.order x y == some Ordering.lt || FloatKind.f64.format.order x y == some Ordering.eq
def gt.sp (x y : Nat) : Bool := FloatKind.f64.format.order x y == some Ordering.gt
def small.sp (x : Nat) : Bool := isf.sp x && (!ge.sp x 4841369599423283200 && (!le.sp x 14064741636278059008 && fti.ok.sp .i64 .f64 x))
/-- The divisors of the sine's series. -/
def den (k : Nat) : Nat := FloatKind.f64.nearest ((2 * k * (2 * k + 1) : Nat) : Int)
def pk.sv (u : Nat) : Nat → Nat → Nat
  | 0, p => p
  | k + 1, p => pk.sv u k (fsub .f64 4607182418800017408 (fdiv .f64 (fmul .f64 u p) (den (k + 1))))
def t.sp (x : Nat) : Bool := ge.sp (fr.sv x) 4602678819172646912
def f1.sv (x : Nat) : Nat := bif t.sp x then fsub .f64 (fr.sv x) 4602678819172646912 else fr.sv x
def f2.sv (x : Nat) : Nat := bif gt.sp (f1.sv x) 4598175219545276416 then fsub .f64 4602678819172646912 (f1.sv x) else f1.sv x
def z.sv (x : Nat) : Nat := fmul .f64 (f2.sv x) 4618760256179416344
def u.sv (x : Nat) : Nat := fmul .f64 (z.sv x) (z.sv x)
def sn.sv (x : Nat) : Nat := bif t.sp x then Op.negFloat .f64 (fmul .f64 (z.sv x) (pk.sv (u.sv x) 8 4607182418800017408)) else fmul .f64 (z.sv x) (pk.sv (u.sv x) 8 4607182418800017408)
/-- Quarters taken away: what is left, and how many. -/
def qg.sv : Nat → Nat → Nat
  | 0, g => g
  | d + 1, g => bif ge.sp g 4598175219545276416 then qg.sv d (fsub .f64 g 4598175219545276416) else g
def qq.sv : Nat → Nat → Nat → Nat
  | 0, _, q => q
  | d + 1, g, q => bif ge.sp g 4598175219545276416 then qq.sv d (fsub .f64 g 4598175219545276416) (q + 1) else q
def g.sv (x : Nat) : Nat := qg.sv 4 (fr.sv x)
def q.sv (x : Nat) : Nat := qq.sv 4 (fr.sv x) 0
def c.sv (x : Nat) : Nat := sn.sv (fsub .f64 4598175219545276416 (g.sv x))
def s.sv (x : Nat) : Nat := sn.sv (g.sv x)
def wide.sp (x : Nat) : Bool := ge.sp x 4841369599423283200 || le.sp x 14064741636278059008
def re.sv (x : Nat) : Nat := bif wide.sp x then 1065353216 else nar.sv (bif q.sv x == 1 then fsub .f64 0 (s.sv x) else bif q.sv x == 2 then fsub .f64 0 (c.sv x) else bif q.sv x == 3 then s.sv x else c.sv x)
def im.sv (x : Nat) : Nat := bif wide.sp x then 0 else nar.sv (bif q.sv x == 1 then c.sv x else bif q.sv x == 2 then fsub .f64 0 (s.sv x) else bif q.sv x == 3 then fsub .f64 0 (c.sv x) else s.sv x)
def ok.sp (x : Nat) : Bool := num64.sp x && decide (x < 18446744073709551616)
theorem num_fin {x : Nat} (h : num64.sp x = true) : fin .f64 x := by
  unfold num64.sp at h
  split at h
  · rename_i s m e hd; exact ⟨s, m, e, hd⟩
  · cases h
theorem fin_num {x : Nat} (h : fin .f64 x) : num64.sp x = true := by
  obtain ⟨s, m, e, hd⟩ := h
  unfold num64.sp; rw [hd]
theorem ge_val {x y : Nat} (hx : fin .f64 x) (hy : fin .f64 y) : ge.sp x y = decide (val .f64 y ≤ val .f64 x) := by
  unfold ge.sp
  rw [order_val hx hy, cmp_gt, cmp_eq]
  by_cases h1 : val .f64 y < val .f64 x
  · simp [h1]; omega
  · by_cases h2 : val .f64 x = val .f64 y
    · simp [h2]
    · simp [h1, h2]; omega
theorem le_val {x y : Nat} (hx : fin .f64 x) (hy : fin .f64 y) : le.sp x y = decide (val .f64 x ≤ val .f64 y) := by
  unfold le.sp
  rw [order_val hx hy, cmp_lt, cmp_eq]
  by_cases h1 : val .f64 x < val .f64 y
  · simp [h1]; omega
  · by_cases h2 : val .f64 x = val .f64 y
    · simp [h2]
    · simp [h1, h2]; omega
theorem gt_val {x y : Nat} (hx : fin .f64 x) (hy : fin .f64 y) : gt.sp x y = decide (val .f64 y < val .f64 x) := by
  unfold gt.sp
  rw [order_val hx hy, cmp_gt]
theorem isf_ok {x : Nat} (hx : fin .f64 x) : isf.sp x = true := by
  have z0 : Rep .f64 0 0 := rep64 (by omega) (by omega) (by omega)
  have R := sub_rn hx hx z0 (by omega)
  have a := R.le z0 (by omega)
  have b := R.ge z0 (by rw [sc_zero]; omega)
  rw [sc_zero] at a b
  unfold isf.sp
  rw [order_val R.fin (zero_ok .f64).1, cmp_eq, (zero_ok .f64).2]
  exact decide_eq_true (by omega)
theorem one_le_wide : sc 1 0 < sc 1 52 := by
  have h := sc_add 1 0 52 (by omega)
  rw [show (0 : Int) + ((52 : Nat) : Int) = 52 from rfl, Nat.one_mul] at h
  rw [h, sc_lt]; decide
theorem small_of {y : Nat} (hy : fin .f64 y) (hb : (val .f64 y).natAbs ≤ sc 1 0) : small.sp y = true := by
  have h1 := one_le_wide
  unfold small.sp
  rw [isf_ok hy, ge_val hy wide_ok.1, le_val hy nwide_ok.1, wide_ok.2, nwide_ok.2, (fti_nat hy (by omega)).2]
  rw [decide_eq_false (by omega), decide_eq_false (by omega)]
  rfl
theorem unit4 : sc 1 0 = 4 * sc 1 (-2) := by
  have h := sc_add 1 (-2) 2 (by omega)
  rw [show (-2 : Int) + ((2 : Nat) : Int) = 0 from rfl, Nat.one_mul] at h
  rw [h, sc_nat]
theorem unit_pos : 0 < sc 1 (-2) := by rw [sc_pw (-2) 4998 rfl]; exact pw_pos _
/-- What is left of the quarters. -/
theorem qg_ok : ∀ (d g : Nat), d ≤ 4 → fin .f64 g → 0 ≤ val .f64 g → val .f64 g ≤ (d : Int) * (sc 1 (-2) : Int) → fin .f64 (qg.sv d g) ∧ 0 ≤ val .f64 (qg.sv d g) ∧ (val .f64 (qg.sv d g) < sc 1 (-2)) := by
  intro d
  induction d with
  | zero =>
    intro g _ hg h0 h1
    simp only [qg.sv]
    have := unit_pos
    simp at h1
    exact ⟨hg, h0, by omega⟩
  | succ d ih =>
    intro g hd hg h0 h1
    simp only [qg.sv]
    rw [ge_val hg quarter_ok.1, quarter_ok.2]
    by_cases c : (sc 1 (-2) : Int) ≤ val .f64 g
    · rw [decide_eq_true c, cond_true]
      obtain ⟨a1, a2, a3⟩ := quarter_step hg hd c h1
      exact ih _ (by omega) a1 a2 a3
    · rw [decide_eq_false c, cond_false]
      exact ⟨hg, h0, by omega⟩
theorem g_ok {x : Nat} (hx : fin .f64 x) (hb : (val .f64 x).natAbs ≤ sc 1 52) : fin .f64 (g.sv x) ∧ 0 ≤ val .f64 (g.sv x) ∧ (val .f64 (g.sv x) < sc 1 (-2)) := by
  obtain ⟨a1, a2, a3⟩ := fr_ok hx hb
  exact qg_ok 4 _ (by omega) a1 a2 (by rw [unit4] at a3; push_cast at a3; omega)
theorem c_ok {y : Nat} (hy : fin .f64 y) (h0 : 0 ≤ val .f64 y) (h1 : val .f64 y < sc 1 (-2)) : fin .f64 (fsub .f64 4598175219545276416 y) ∧ (val .f64 (fsub .f64 4598175219545276416 y)).natAbs ≤ sc 1 0 := by
  have r0 : Rep .f64 1 (-2) := rep64 (by omega) (by omega) (by omega)
  have hq := quarter_ok
  have R := sub_rn hq.1 hy r0 (by rw [hq.2]; omega)
  rw [hq.2] at R
  have a1 := R.le r0 (by omega)
  have a2 := R.nge r0 (by omega)
  have := unit4
  exact ⟨R.fin, by omega⟩
/-- One step of the sine's series. -/
theorem p_step {u p d D : Nat} {e g : Nat} (hu : fin .f64 u) (hub : (val .f64 u).natAbs ≤ sc 1 8) (hp : fin .f64 p) (hpb : (val .f64 p).natAbs ≤ sc 1 (e : Int)) (hd : fin .f64 d) (hdv : val .f64 d = (D : Int) * (sc 1 0 : Int)) (hD : 2 ^ g ≤ D) (hg : g ≤ e + 8) (he : e ≤ 100) :
    fin .f64 (fsub .f64 4607182418800017408 (fdiv .f64 (fmul .f64 u p) d)) ∧ (val .f64 (fsub .f64 4607182418800017408 (fdiv .f64 (fmul .f64 u p) d))).natAbs ≤ sc 1 ((e + 8 - g + 1 : Nat) : Int) := by
  have r1 : Rep .f64 1 ((e + 8 : Nat) : Int) := rep64 (by omega) (by omega) (by omega)
  have r2 : Rep .f64 1 ((e + 8 - g : Nat) : Int) := rep64 (by omega) (by omega) (by omega)
  have r3 : Rep .f64 1 ((e + 8 - g + 1 : Nat) : Int) := rep64 (by omega) (by omega) (by omega)
  obtain ⟨m1, m2⟩ := mul_rn hu hp (A := 1) (B := 1) (a := 8) (b := (e : Int)) (by omega) (by omega) hub hpb r1 (by rw [Nat.one_mul, show (8 : Int) + (e : Int) = ((e + 8 : Nat) : Int) from by omega]; exact Nat.le_refl _)
  have hone : 0 < sc 1 0 := by rw [one_big]; exact big_pos
  have hdn : (val .f64 d).natAbs = D * sc 1 0 := by
    rw [hdv, Int.natAbs_mul, Int.natAbs_natCast, Int.natAbs_natCast]
  have hD0 : 0 < D := Nat.lt_of_lt_of_le (Nat.two_pow_pos g) hD
  have hd0 : val .f64 d ≠ 0 := by
    intro h
    have : (val .f64 d).natAbs = 0 := by rw [h]; rfl
    rw [hdn] at this
    have := Nat.mul_pos hD0 hone
    omega
  obtain ⟨d1, d2⟩ := div_rn m1 hd hd0 r2 (by
    rw [hdn, ← one_big]
    have e1 : sc 1 ((e + 8 : Nat) : Int) = sc 1 ((e + 8 - g : Nat) : Int) * 2 ^ g := by
      have h := sc_add 1 ((e + 8 - g : Nat) : Int) g (by omega)
      rw [show ((e + 8 - g : Nat) : Int) + (g : Int) = ((e + 8 : Nat) : Int) from by omega, Nat.one_mul] at h
      rw [h, sc_nat, Nat.mul_comm]
    rw [← Nat.mul_assoc]
    refine Nat.mul_le_mul_right _ (Nat.le_trans m2 ?_)
    rw [e1]
    exact Nat.mul_le_mul_left _ hD)
  have hs := sc_double ((e + 8 - g : Nat) : Int) (by omega)
  have hm : sc 1 0 ≤ sc 1 ((e + 8 - g : Nat) : Int) := sc_mono (by omega) (by omega)
  have e3 : ((e + 8 - g + 1 : Nat) : Int) = ((e + 8 - g : Nat) : Int) + 1 := by omega
  rw [← e3] at hs
  have ho := one_ok
  have R := sub_rn ho.1 d1 r3 (by rw [ho.2]; omega)
  rw [ho.2] at R
  have a1 := R.le r3 (by omega)
  have a2 := R.nge r3 (by omega)
  exact ⟨R.fin, by omega⟩
theorem den_ok {k : Nat} (h : k ≤ 8) : fin .f64 (den k) ∧ val .f64 (den k) = ((2 * k * (2 * k + 1) : Nat) : Int) * (sc 1 0 : Int) := by
  have e1 : 2 * FloatKind.f64.format.binade = 9007199254740992 := by decide
  refine ofInt_ok ?_
  rw [Int.natAbs_natCast, e1]
  have : k * (2 * k + 1) ≤ 8 * 17 := Nat.mul_le_mul h (by omega)
  rw [Nat.mul_assoc]
  omega
theorem pk_ok {u p : Nat} (hu : fin .f64 u) (hub : (val .f64 u).natAbs ≤ sc 1 8) (hp : fin .f64 p) (hpb : (val .f64 p).natAbs ≤ sc 1 (0 : Nat)) : fin .f64 (pk.sv u 8 p) ∧ (val .f64 (pk.sv u 8 p)).natAbs ≤ sc 1 (27 : Nat) := by
  obtain ⟨a1, b1⟩ := p_step (e := 0) (g := 8) (D := 2 * 8 * (2 * 8 + 1)) hu hub hp hpb (den_ok (k := 8) (by omega)).1 (den_ok (k := 8) (by omega)).2 (by decide) (by omega) (by omega)
  obtain ⟨a2, b2⟩ := p_step (e := 1) (g := 7) (D := 2 * 7 * (2 * 7 + 1)) hu hub a1 b1 (den_ok (k := 7) (by omega)).1 (den_ok (k := 7) (by omega)).2 (by decide) (by omega) (by omega)
  obtain ⟨a3, b3⟩ := p_step (e := 3) (g := 7) (D := 2 * 6 * (2 * 6 + 1)) hu hub a2 b2 (den_ok (k := 6) (by omega)).1 (den_ok (k := 6) (by omega)).2 (by decide) (by omega) (by omega)
  obtain ⟨a4, b4⟩ := p_step (e := 5) (g := 6) (D := 2 * 5 * (2 * 5 + 1)) hu hub a3 b3 (den_ok (k := 5) (by omega)).1 (den_ok (k := 5) (by omega)).2 (by decide) (by omega) (by omega)
  obtain ⟨a5, b5⟩ := p_step (e := 8) (g := 6) (D := 2 * 4 * (2 * 4 + 1)) hu hub a4 b4 (den_ok (k := 4) (by omega)).1 (den_ok (k := 4) (by omega)).2 (by decide) (by omega) (by omega)
  obtain ⟨a6, b6⟩ := p_step (e := 11) (g := 5) (D := 2 * 3 * (2 * 3 + 1)) hu hub a5 b5 (den_ok (k := 3) (by omega)).1 (den_ok (k := 3) (by omega)).2 (by decide) (by omega) (by omega)
  obtain ⟨a7, b7⟩ := p_step (e := 15) (g := 4) (D := 2 * 2 * (2 * 2 + 1)) hu hub a6 b6 (den_ok (k := 2) (by omega)).1 (den_ok (k := 2) (by omega)).2 (by decide) (by omega) (by omega)
  obtain ⟨a8, b8⟩ := p_step (e := 20) (g := 2) (D := 2 * 1 * (2 * 1 + 1)) hu hub a7 b7 (den_ok (k := 1) (by omega)).1 (den_ok (k := 1) (by omega)).2 (by decide) (by omega) (by omega)
  exact ⟨a8, b8⟩
theorem neg_ok {x : Nat} (hx : fin .f64 x) : fin .f64 (Op.negFloat .f64 x) ∧ val .f64 (Op.negFloat .f64 x) = -(val .f64 x) := by
  obtain ⟨s, m, e, hd⟩ := hx
  have e0 : FloatKind.f64.format.exponentBits + FloatKind.f64.format.fractionBits = 63 := by decide
  have eS : FloatKind.f64.format.signWeight = 2 ^ 63 := by decide
  have h1 : Op.negFloat .f64 x % 2 ^ 63 = x % 2 ^ 63 := by
    unfold Op.negFloat
    rw [e0, Nat.xor_mod_two_pow, Nat.mod_self, Nat.xor_zero]
  have h2 : Op.negFloat .f64 x / 2 ^ 63 % 2 = 1 - x / 2 ^ 63 % 2 := by
    unfold Op.negFloat
    rw [e0, ← Nat.shiftRight_eq_div_pow, Nat.shiftRight_xor_distrib, Nat.shiftRight_eq_div_pow, Nat.shiftRight_eq_div_pow, Nat.div_self (Nat.two_pow_pos 63)]
    have : (x / 2 ^ 63 ^^^ 1) % 2 = (x / 2 ^ 63 % 2) ^^^ (1 % 2) := Nat.xor_mod_two_pow (n := 1)
    rw [this]
    rcases Nat.mod_two_eq_zero_or_one (x / 2 ^ 63) with h | h <;> rw [h] <;> rfl
  have hd' : FloatKind.f64.decode (Op.negFloat .f64 x) = .number (!s) m e := by
    unfold FloatKind.decode Ieee.Format.read at hd ⊢
    simp only [eS] at hd ⊢
    rw [h1, h2]
    have hb : ((1 - x / 2 ^ 63 % 2) == 1) = !(x / 2 ^ 63 % 2 == 1) := by
      rcases Nat.mod_two_eq_zero_or_one (x / 2 ^ 63) with h | h <;> rw [h] <;> rfl
    rw [hb]
    split at hd
    · rename_i hc; rw [if_pos hc]; simp only [Ieee.Datum.number.injEq] at hd ⊢; obtain ⟨rfl, rfl, rfl⟩ := hd; exact ⟨rfl, rfl, rfl⟩
    · rename_i hc
      rw [if_neg hc]
      split at hd
      · rename_i hc2; rw [if_pos hc2]; simp only [Ieee.Datum.number.injEq] at hd ⊢; obtain ⟨rfl, rfl, rfl⟩ := hd; exact ⟨rfl, rfl, rfl⟩
      · split at hd <;> cases hd
  refine ⟨⟨_, _, _, hd'⟩, ?_⟩
  rw [val_eq hd', val_eq hd]
  unfold sv; cases s <;> simp
/-- The sine is a number, of a moderate size. -/
theorem sn_ok {y : Nat} (hy : fin .f64 y) (hb : (val .f64 y).natAbs ≤ sc 1 52) : fin .f64 (sn.sv y) ∧ (val .f64 (sn.sv y)).natAbs ≤ sc 1 (31 : Nat) := by
  obtain ⟨a1, a2, a3⟩ := fr_ok hy hb
  have r0 : Rep .f64 1 0 := rep64 (by omega) (by omega) (by omega)
  have r1 : Rep .f64 1 1 := rep64 (by omega) (by omega) (by omega)
  have r4 : Rep .f64 1 4 := rep64 (by omega) (by omega) (by omega)
  have r8 : Rep .f64 1 8 := rep64 (by omega) (by omega) (by omega)
  have r31 : Rep .f64 1 (31 : Nat) := rep64 (by omega) (by omega) (by omega)
  have hh := half_ok
  have hhalf : sc 1 0 = 2 * sc 1 (-1) := by
    have h := sc_double (-1) (by omega)
    rw [show (-1 : Int) + 1 = 0 from rfl] at h
    exact h
  have htwo : sc 1 1 = 2 * sc 1 0 := by
    have h := sc_double 0 (by omega)
    rw [show (0 : Int) + 1 = 1 from rfl] at h
    exact h
  have hf1 : fin .f64 (f1.sv y) ∧ (val .f64 (f1.sv y)).natAbs ≤ sc 1 0 := by
    unfold f1.sv
    cases t.sp y
    · exact ⟨a1, by rw [cond_false]; omega⟩
    · rw [cond_true]
      have R := sub_rn a1 hh.1 r0 (by rw [hh.2]; omega)
      rw [hh.2] at R
      have b1 := R.le r0 (by omega)
      have b2 := R.nge r0 (by omega)
      exact ⟨R.fin, by omega⟩
  have hf2 : fin .f64 (f2.sv y) ∧ (val .f64 (f2.sv y)).natAbs ≤ sc 1 1 := by
    unfold f2.sv
    cases gt.sp (f1.sv y) 4598175219545276416
    · exact ⟨hf1.1, by rw [cond_false]; omega⟩
    · rw [cond_true]
      have R := sub_rn hh.1 hf1.1 r1 (by rw [hh.2]; omega)
      rw [hh.2] at R
      have b1 := R.le r1 (by omega)
      have b2 := R.nge r1 (by omega)
      exact ⟨R.fin, by omega⟩
  obtain ⟨z1, z2⟩ := mul_rn hf2.1 turn_ok.1 (A := 1) (B := 1) (a := 1) (b := 3) (by omega) (by omega) hf2.2 turn_ok.2 r4 (by rw [Nat.one_mul]; exact Nat.le_refl _)
  obtain ⟨u1, u2⟩ := mul_rn z1 z1 (A := 1) (B := 1) (a := 4) (b := 4) (by omega) (by omega) z2 z2 r8 (by rw [Nat.one_mul]; exact Nat.le_refl _)
  obtain ⟨p1, p2⟩ := pk_ok u1 u2 one_ok.1 (by rw [one_ok.2, Int.natAbs_natCast]; exact Nat.le_refl _)
  obtain ⟨v1, v2⟩ := mul_rn z1 p1 (A := 1) (B := 1) (a := 4) (b := ((27 : Nat) : Int)) (by omega) (by omega) z2 p2 r31 (by rw [Nat.one_mul]; exact Nat.le_refl _)
  obtain ⟨n1, n2⟩ := neg_ok v1
  unfold sn.sv
  cases t.sp y
  · exact ⟨v1, v2⟩
  · exact ⟨n1, by rw [cond_true]; unfold u.sv z.sv; rw [n2]; rw [Int.natAbs_neg]; exact v2⟩
/-- To single. -/
theorem nar_rn {x M : Nat} {q : Int} (hx : fin .f64 x) (hr : Rep .f32 M q) (hb : (val .f64 x).natAbs ≤ sc M q) : nar.ok.sp x = true ∧ fin .f32 (nar.sv x) ∧ (val .f32 (nar.sv x)).natAbs ≤ sc M q := by
  obtain ⟨s, m, e, hd⟩ := hx
  have pe := place_of hd
  have hl := least_ge .f64
  rw [val_bound hd] at hb
  have R := write_rn (k := .f32) (s := s) (by omega) hr hb
  obtain ⟨s', m', e', hd'⟩ := R.fin
  have hn : nar.sv x = FloatKind.f32.encode (.number s m e) := by unfold nar.sv; rw [hd]
  have a1 := R.le hr (by have := sv_abs s m e; omega)
  have a2 := R.nge hr (by have := sv_abs s m e; omega)
  refine ⟨?_, by rw [hn]; exact R.fin, by rw [hn]; omega⟩
  unfold nar.ok.sp
  rw [hd]
  simp only [hd']
  rfl
end fl

end Go.Proofs.Ytgblgofmdhekiaa.Ab
