/-
  Floats as exact numbers: conversions, whole turns taken away, quarters, the sine: the plain law.
-/
import Derived.Test.YtgblgofmdhekiaaFnMB
namespace Go.Proofs.Ytgblgofmdhekiaa.Ab
open Go
set_option linter.unusedVariables false
set_option linter.unusedSimpArgs false

namespace fl
theorem sc_nat (N : Nat) (e : Int) : sc N e = N * sc 1 e := by unfold sc; rw [Nat.one_mul]
theorem sc_pw (e : Int) (n : Nat) (h : (e + 5000).toNat = n) : sc 1 e = pw n := by
  unfold sc pw; rw [h, Nat.one_mul]
theorem one_big : sc 1 0 = big := sc_pw 0 5000 rfl
theorem sc_mono {a b : Int} (h : a ≤ b) (ha : -5000 ≤ a) : sc 1 a ≤ sc 1 b := by
  obtain ⟨d, hd⟩ : ∃ d : Nat, b = a + d := ⟨(b - a).toNat, by omega⟩
  rw [hd, sc_add _ _ _ ha, sc_le, Nat.one_mul]
  exact Nat.two_pow_pos d
theorem sc_double (a : Int) (ha : -5000 ≤ a) : sc 1 (a + 1) = 2 * sc 1 a := by
  have := sc_add 1 a 1 ha
  rw [show a + ((1 : Nat) : Int) = a + 1 from rfl, Nat.one_mul, Nat.pow_one] at this
  rw [this, sc_nat]
theorem rep64 {n : Nat} {r : Int} (h : n < 9007199254740992) (h1 : -1074 ≤ r) (h2 : r ≤ 971) : Rep .f64 n r := by
  have e1 : 2 * FloatKind.f64.format.binade = 9007199254740992 := by decide
  have e2 : FloatKind.f64.format.leastPlace = -1074 := by decide
  have e3 : (2 ^ FloatKind.f64.format.exponentBits - 3 : Nat) = 2045 := by decide
  exact ⟨by omega, by omega, by rw [e2, e3]; omega⟩
theorem rep32 {n : Nat} {r : Int} (h : n < 16777216) (h1 : -149 ≤ r) (h2 : r ≤ 104) : Rep .f32 n r := by
  have e1 : 2 * FloatKind.f32.format.binade = 16777216 := by decide
  have e2 : FloatKind.f32.format.leastPlace = -149 := by decide
  have e3 : (2 ^ FloatKind.f32.format.exponentBits - 3 : Nat) = 253 := by decide
  exact ⟨by omega, by omega, by rw [e2, e3]; omega⟩
theorem mag_of {k : FloatKind} {x : Nat} {s : Bool} {m : Nat} {e : Int} (h : k.decode x = .number s m e) : m < 2 * k.format.binade := by
  have hb0 : 0 < k.format.binade := Nat.two_pow_pos _
  unfold FloatKind.decode Ieee.Format.read at h
  simp only [] at h
  split at h
  · simp only [Ieee.Datum.number.injEq] at h; omega
  · split at h
    · simp only [Ieee.Datum.number.injEq] at h
      have := Nat.mod_lt (x % k.format.signWeight) hb0
      omega
    · split at h <;> cases h
/-- A constant. -/
theorem const {x : Nat} {m : Nat} {e : Int} (h : FloatKind.f64.decode x = .number false m e) : fin .f64 x ∧ val .f64 x = sc m e := ⟨⟨_, _, _, h⟩, by rw [val_eq h]; rfl⟩
theorem zero_ok (k : FloatKind) : fin k 0 ∧ val k 0 = 0 := by
  have h : k.decode 0 = .number false 0 k.format.leastPlace := by cases k <;> decide +kernel
  exact ⟨⟨_, _, _, h⟩, by rw [val_eq h]; unfold sv; rw [sc_zero]; rfl⟩
theorem one_ok : fin .f64 4607182418800017408 ∧ val .f64 4607182418800017408 = sc 1 0 := by
  have h := const (x := 4607182418800017408) (m := 2 ^ 52) (e := -52) (by decide +kernel)
  refine ⟨h.1, h.2.trans ?_⟩
  have := sc_add 1 (-52) 52 (by omega)
  rw [show (-52 : Int) + ((52 : Nat) : Int) = 0 from rfl, Nat.one_mul] at this
  rw [this]
theorem quarter_ok : fin .f64 4598175219545276416 ∧ val .f64 4598175219545276416 = sc 1 (-2) := by
  have h := const (x := 4598175219545276416) (m := 2 ^ 52) (e := -54) (by decide +kernel)
  refine ⟨h.1, h.2.trans ?_⟩
  have := sc_add 1 (-54) 52 (by omega)
  rw [show (-54 : Int) + ((52 : Nat) : Int) = -2 from rfl, Nat.one_mul] at this
  rw [this]
theorem half_ok : fin .f64 4602678819172646912 ∧ val .f64 4602678819172646912 = sc 1 (-1) := by
  have h := const (x := 4602678819172646912) (m := 2 ^ 52) (e := -53) (by decide +kernel)
  refine ⟨h.1, h.2.trans ?_⟩
  have := sc_add 1 (-53) 52 (by omega)
  rw [show (-53 : Int) + ((52 : Nat) : Int) = -1 from rfl, Nat.one_mul] at this
  rw [this]
theorem wide_ok : fin .f64 4841369599423283200 ∧ val .f64 4841369599423283200 = sc 1 52 := by
  have h := const (x := 4841369599423283200) (m := 2 ^ 52) (e := 0) (by decide +kernel)
  refine ⟨h.1, h.2.trans ?_⟩
  have := sc_add 1 0 52 (by omega)
  rw [show (0 : Int) + ((52 : Nat) : Int) = 52 from rfl, Nat.one_mul] at this
  rw [this]
theorem nwide_ok : fin .f64 14064741636278059008 ∧ val .f64 14064741636278059008 = -(sc 1 52 : Int) := by
  have h : FloatKind.f64.decode 14064741636278059008 = .number true (2 ^ 52) 0 := by decide +kernel
  refine ⟨⟨_, _, _, h⟩, ?_⟩
  rw [val_eq h]
  have := sc_add 1 0 52 (by omega)
  rw [show (0 : Int) + ((52 : Nat) : Int) = 52 from rfl, Nat.one_mul] at this
  rw [this]; rfl
theorem turn_ok : fin .f64 4618760256179416344 ∧ (val .f64 4618760256179416344).natAbs ≤ sc 1 3 := by
  have h : ∃ m, m ≤ 2 ^ 53 ∧ FloatKind.f64.decode 4618760256179416344 = .number false m (-50) := ⟨7074237752028440, by decide, by decide +kernel⟩
  obtain ⟨m, hm, h⟩ := h
  have h := const h
  refine ⟨h.1, ?_⟩
  rw [h.2]
  have := sc_add 1 (-50) 53 (by omega)
  rw [show (-50 : Int) + ((53 : Nat) : Int) = 3 from rfl, Nat.one_mul] at this
  rw [this]
  have := (sc_le (e := -50)).2 hm
  omega
/-- A whole number as a float. -/
theorem ofInt_ok {k : FloatKind} {n : Int} (h : n.natAbs < 2 * k.format.binade) : fin k (k.nearest n) ∧ val k (k.nearest n) = n * (sc 1 0 : Int) := by
  have hl := least_ge k
  have hr : Rep k n.natAbs 0 := ⟨h, by omega, by cases k <;> decide⟩
  have R := write_rn (k := k) (s := decide (n < 0)) (mag := n.natAbs) (place := 0) (by omega) hr (Nat.le_refl _)
  refine ⟨R.fin, (R.exact hr ?_).trans ?_⟩
  · unfold sv; split
    · exact .inr rfl
    · exact .inl rfl
  · unfold sv
    rw [sc_nat n.natAbs]
    split
    · rename_i hn; rw [decide_eq_true_eq] at hn
      push_cast
      rw [show ((n.natAbs : Nat) : Int) = -n from by omega, Int.neg_mul, Int.neg_neg]
    · rename_i hn; rw [decide_eq_true_eq] at hn
      push_cast
      rw [show ((n.natAbs : Nat) : Int) = n from by omega]
theorem trunc_eq (s : Bool) (n d : Nat) : Ieee.Toward.zero.cut s n d = n / 2 ^ d := by
  unfold Ieee.Toward.cut
  simp only [Nat.one_shiftLeft, Bool.toNat_false, Nat.add_zero]
  by_cases hd : d ≤ n.log2 + 2
  · rw [Nat.min_eq_left hd]
  · have h1 := log_lt n
    rw [Nat.min_eq_right (by omega), Nat.div_eq_of_lt, Nat.div_eq_of_lt]
    · exact Nat.lt_of_lt_of_le h1 (Nat.pow_le_pow_right (by decide) (by omega))
    · exact Nat.lt_of_lt_of_le h1 (Nat.pow_le_pow_right (by decide) (by omega))
/-- A float cut to a whole number. -/
theorem fti_val {k : FloatKind} {x : Nat} (hx : fin k x) : (k.decode x).toInt .zero = some (fti.sv k x) ∧
    (0 ≤ val k x → 0 ≤ fti.sv k x ∧ fti.sv k x * (sc 1 0 : Int) ≤ val k x ∧ val k x < (fti.sv k x + 1) * (sc 1 0 : Int)) ∧
    (val k x ≤ 0 → fti.sv k x ≤ 0 ∧ val k x ≤ fti.sv k x * (sc 1 0 : Int) ∧ (fti.sv k x - 1) * (sc 1 0 : Int) < val k x) := by
  obtain ⟨s, m, e, hd⟩ := hx
  have pe := place_of hd
  have hl := least_ge k
  generalize hT : (m <<< e.toNat) / 2 ^ (-e).toNat = T
  have ht : (k.decode x).toInt .zero = some (if s then -(T : Int) else (T : Int)) := by
    rw [hd]
    simp only [Ieee.Datum.toInt, Ieee.Datum.integral, trunc_eq, hT, Ieee.signed, Nat.shiftLeft_zero]
  have hf : fti.sv k x = if s then -(T : Int) else (T : Int) := by unfold fti.sv; rw [ht]; rfl
  have hb : T * sc 1 0 ≤ sc m e ∧ sc m e < (T + 1) * sc 1 0 := by
    rw [← sc_nat, ← sc_nat]
    by_cases c : 0 ≤ e
    · obtain ⟨d, rfl⟩ : ∃ d : Nat, e = d := ⟨e.toNat, by omega⟩
      have e1 : (-(d : Int)).toNat = 0 := by omega
      rw [e1, Int.toNat_natCast, Nat.shiftLeft_eq, Nat.pow_zero, Nat.div_one] at hT
      have e2 : sc m (d : Int) = sc T 0 := by
        have := sc_add m 0 d (by omega)
        rw [Int.zero_add] at this
        rw [this, hT]
      rw [e2]
      exact ⟨Nat.le_refl _, sc_lt.2 (by omega)⟩
    · obtain ⟨d, hd2⟩ : ∃ d : Nat, (0 : Int) = e + d := ⟨(-e).toNat, by omega⟩
      have e1 : (-e).toNat = d := by omega
      have e3 : e.toNat = 0 := by omega
      rw [e1, e3, Nat.shiftLeft_zero] at hT
      rw [hd2, sc_add _ _ _ (by omega), sc_add _ _ _ (by omega), sc_le, sc_lt, ← hT]
      refine ⟨Nat.div_mul_le_self m (2 ^ d), ?_⟩
      have h1 := Nat.div_add_mod m (2 ^ d)
      have h2 := Nat.mod_lt m (Nat.two_pow_pos d)
      rw [Nat.add_mul, Nat.mul_comm]
      omega
  have hone : 0 < sc 1 0 := by rw [one_big]; exact big_pos
  rw [val_eq hd, hf]
  refine ⟨ht, ?_⟩
  unfold sv
  generalize sc m e = X at hb
  generalize sc 1 0 = S at hb hone
  have i1 : ((T * S : Nat) : Int) ≤ X := by exact_mod_cast hb.1
  have i2 : (X : Int) < (((T + 1) * S : Nat) : Int) := by exact_mod_cast hb.2
  push_cast at i1 i2
  rw [Int.add_mul, Int.one_mul] at i2
  cases s
  · simp only [Bool.false_eq_true, if_false, Int.add_mul, Int.sub_mul, Int.one_mul]
    generalize hTS : (T : Int) * (S : Int) = TS at i1 i2 ⊢
    by_cases hT0 : T = 0
    · subst hT0; simp at hTS; omega
    · refine ⟨fun _ => by omega, fun h => ?_⟩
      have : 0 < X := by
        have h1 : 1 * S ≤ T * S := Nat.mul_le_mul_right S (by omega)
        omega
      omega
  · simp only [if_true, Int.add_mul, Int.sub_mul, Int.one_mul, Int.neg_mul]
    generalize hTS : (T : Int) * (S : Int) = TS at i1 i2 ⊢
    by_cases hT0 : T = 0
    · subst hT0; simp at hTS; omega
    · refine ⟨fun h => ?_, fun _ => by omega⟩
      have : 0 < X := by
        have h1 : 1 * S ≤ T * S := Nat.mul_le_mul_right S (by omega)
        omega
      omega
/-- The float of a whole number, cut from a float. -/
theorem fti_nat {x : Nat} (hx : fin .f64 x) (hb : (val .f64 x).natAbs ≤ sc 1 52) : (fti.sv .f64 x).natAbs ≤ 4503599627370496 ∧ fti.ok.sp .i64 .f64 x = true := by
  obtain ⟨h1, h2, h3⟩ := fti_val hx
  have hone : 0 < sc 1 0 := by rw [one_big]; exact big_pos
  have e52 : sc 1 52 = 4503599627370496 * sc 1 0 := by
    have := sc_add 1 0 52 (by omega)
    rw [show (0 : Int) + ((52 : Nat) : Int) = 52 from rfl] at this
    rw [this, sc_nat]
  rw [e52] at hb
  have hn : (fti.sv .f64 x).natAbs ≤ 4503599627370496 := by
    generalize fti.sv .f64 x = n at h1 h2 h3 ⊢
    generalize sc 1 0 = S at hb hone h2 h3
    generalize val .f64 x = V at hb h2 h3
    by_cases c : 0 ≤ V
    · obtain ⟨a, b, d⟩ := h2 c
      apply Classical.byContradiction
      intro hc
      have h4 : (4503599627370497 : Int) * S ≤ n * S := Int.mul_le_mul_of_nonneg_right (by omega) (by omega)
      have h5 : (V : Int) ≤ 4503599627370496 * S := by omega
      have h6 : (4503599627370497 : Int) * S = 4503599627370496 * S + S := by rw [show (4503599627370497 : Int) = 4503599627370496 + 1 from rfl, Int.add_mul, Int.one_mul]
      omega
    · obtain ⟨a, b, d⟩ := h3 (by omega)
      apply Classical.byContradiction
      intro hc
      have h4 : n * S ≤ (-4503599627370497 : Int) * S := Int.mul_le_mul_of_nonneg_right (by omega) (by omega)
      have h5 : -(4503599627370496 * S : Int) ≤ V := by omega
      have h6 : (-4503599627370497 : Int) * S = -(4503599627370496 * S) - S := by rw [show (-4503599627370497 : Int) = -4503599627370496 - 1 from rfl, Int.sub_mul, Int.one_mul, Int.neg_mul]
      omega
  refine ⟨hn, ?_⟩
  unfold fti.ok.sp
  rw [h1]
  have e1 : IntKind.i64.min = -9223372036854775808 := by decide
  have e2 : IntKind.i64.max = 9223372036854775807 := by decide
  simp only [e1, e2, decide_eq_true_eq]
  omega
/-- Turns without whole ones. -/
def fr.sv (x : Nat) : Nat := bif FloatKind.f64.format.order (fsub .f64 x (FloatKind.f64.nearest (fti.sv .f64 x))) 0 == some Ordering.lt then fadd .f64 (fsub .f64 x (FloatKind.f64.nearest (fti.sv .f64 x))) 4607182418800017408 else fsub .f64 x (FloatKind.f64.nearest (fti.sv .f64 x))
theorem cmp_lt (a b : Int) : (some (compare a b) == some Ordering.lt) = decide (a < b) := by
  simp only [compare, compareOfLessAndEq]
  split
  · rename_i h; simp [h]
  · rename_i h
    rw [decide_eq_false h]
    split <;> rfl
theorem cmp_gt (a b : Int) : (some (compare a b) == some Ordering.gt) = decide (b < a) := by
  simp only [compare, compareOfLessAndEq]
  split
  · rename_i h; rw [decide_eq_false (by omega)]; rfl
  · split
    · rename_i h; rw [decide_eq_false (by omega)]; rfl
    · rename_i h1 h2; rw [decide_eq_true (by omega)]; rfl
theorem cmp_eq (a b : Int) : (some (compare a b) == some Ordering.eq) = decide (a = b) := by
  simp only [compare, compareOfLessAndEq]
  split
  · rename_i h; rw [decide_eq_false (by omega)]; rfl
  · split
    · rename_i h; rw [decide_eq_true h]; rfl
    · rename_i h1 h2; rw [decide_eq_false h2]; rfl
theorem fr_ok {x : Nat} (hx : fin .f64 x) (hb : (val .f64 x).natAbs ≤ sc 1 52) : fin .f64 (fr.sv x) ∧ 0 ≤ val .f64 (fr.sv x) ∧ val .f64 (fr.sv x) ≤ sc 1 0 := by
  obtain ⟨hn, _⟩ := fti_nat hx hb
  obtain ⟨_, h2, h3⟩ := fti_val hx
  have e1 : 2 * FloatKind.f64.format.binade = 9007199254740992 := by decide
  obtain ⟨k1, k2⟩ := ofInt_ok (k := .f64) (n := fti.sv .f64 x) (by omega)
  have r0 : Rep .f64 1 0 := rep64 (by omega) (by omega) (by omega)
  have z0 : Rep .f64 0 0 := rep64 (by omega) (by omega) (by omega)
  have hone : 0 < sc 1 0 := by rw [one_big]; exact big_pos
  rw [Int.add_mul, Int.one_mul] at h2
  rw [Int.sub_mul, Int.one_mul] at h3
  rw [← k2] at h2 h3
  have R := sub_rn hx k1 r0 (by omega)
  have z := sc_zero 0
  have a1 := R.le r0 (by omega)
  have a2 := R.nge r0 (by omega)
  have a3 := fun h => R.ge z0 h
  rw [z] at a3
  have ho := order_val R.fin (zero_ok .f64).1
  have hz := (zero_ok .f64).2
  unfold fr.sv
  rw [ho, cmp_lt, hz]
  generalize fsub .f64 x (FloatKind.f64.nearest (fti.sv .f64 x)) = F at R a1 a2 a3 ⊢
  by_cases c : val .f64 F < 0
  · rw [decide_eq_true c, cond_true]
    obtain ⟨o1, o2⟩ := one_ok
    have R2 := add_rn R.fin o1 r0 (by omega)
    have b1 := R2.le r0 (by omega)
    have b2 := R2.ge z0 (by rw [z]; omega)
    rw [z] at b2
    exact ⟨R2.fin, by omega, b1⟩
  · rw [decide_eq_false c, cond_false]
    exact ⟨R.fin, by omega, a1⟩
/-- A quarter is taken away. -/
theorem quarter_step {x j : Nat} (hx : fin .f64 x) (hj : j ≤ 4) (h1 : (sc 1 (-2) : Int) ≤ val .f64 x) (h2 : val .f64 x ≤ (j : Int) * (sc 1 (-2) : Int)) : fin .f64 (fsub .f64 x 4598175219545276416) ∧ 0 ≤ val .f64 (fsub .f64 x 4598175219545276416) ∧ val .f64 (fsub .f64 x 4598175219545276416) ≤ ((j - 1 : Nat) : Int) * (sc 1 (-2) : Int) := by
  obtain ⟨q1, q2⟩ := quarter_ok
  have rj : Rep .f64 (j - 1) (-2) := rep64 (by omega) (by omega) (by omega)
  have z0 : Rep .f64 0 0 := rep64 (by omega) (by omega) (by omega)
  have e := sc_nat (j - 1) (-2)
  have hpos : 0 < sc 1 (-2) := by rw [sc_pw (-2) 4998 rfl]; exact pw_pos _
  have hj1 : 1 ≤ j := by
    rcases Nat.eq_zero_or_pos j with h | h
    · subst h; simp at h2; omega
    · exact h
  obtain ⟨i, rfl⟩ : ∃ i, j = i + 1 := ⟨j - 1, by omega⟩
  simp only [Nat.add_sub_cancel] at *
  rw [show ((i + 1 : Nat) : Int) = (i : Int) + 1 from rfl, Int.add_mul, Int.one_mul] at h2
  have e' : (sc i (-2) : Int) = (i : Int) * (sc 1 (-2) : Int) := by rw [e]; push_cast; rfl
  have R := sub_rn hx q1 rj (by rw [q2]; omega)
  rw [q2] at R
  have a1 := R.le rj (by omega)
  have a2 := R.ge z0 (by rw [sc_zero]; omega)
  rw [sc_zero] at a2
  exact ⟨R.fin, by omega, by omega⟩
end fl

end Go.Proofs.Ytgblgofmdhekiaa.Ab
