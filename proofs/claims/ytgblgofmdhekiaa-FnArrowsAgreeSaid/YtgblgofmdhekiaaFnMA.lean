/-
  Rounding keeps within bounds that the format has: the plain law.
-/
import Derived.Test.YtgblgofmdhekiaaAbExt
namespace Go.Proofs.Ytgblgofmdhekiaa.Ab
open Go
set_option linter.unusedVariables false
set_option linter.unusedSimpArgs false

namespace fl
/-- 'm * 2 ^ e', all scaled alike. -/
def sc (m : Nat) (e : Int) : Nat := m * 2 ^ (e + 5000).toNat
theorem sc_add (m : Nat) (e : Int) (d : Nat) (h : -5000 ≤ e) : sc m (e + d) = sc (m * 2 ^ d) e := by
  unfold sc
  have : (e + d + 5000).toNat = d + (e + 5000).toNat := by omega
  rw [this, Nat.pow_add, Nat.mul_assoc]
theorem sc_le {m n : Nat} {e : Int} : sc m e ≤ sc n e ↔ m ≤ n := Nat.mul_le_mul_right_iff (Nat.two_pow_pos _)
theorem sc_lt {m n : Nat} {e : Int} : sc m e < sc n e ↔ m < n := Nat.mul_lt_mul_right (Nat.two_pow_pos _)
theorem sc_zero (e : Int) : sc 0 e = 0 := by simp [sc]
theorem log_lt (n : Nat) : n < 2 ^ (n.log2 + 1) := Nat.lt_log2_self
theorem log_le {n : Nat} (h : n ≠ 0) : 2 ^ n.log2 ≤ n := Nat.log2_self_le h
theorem even_eq (neg : Bool) (n drop : Nat) : Ieee.Toward.even.cut neg n drop = n / 2 ^ min drop (n.log2 + 2) + (decide (2 ^ min drop (n.log2 + 2) < 2 * (n % 2 ^ min drop (n.log2 + 2))) || (2 ^ min drop (n.log2 + 2) == 2 * (n % 2 ^ min drop (n.log2 + 2)) && n / 2 ^ min drop (n.log2 + 2) % 2 == 1)).toNat := by
  unfold Ieee.Toward.cut
  simp only [Nat.one_shiftLeft]
theorem cut_le {neg : Bool} {n drop N : Nat} (h : n ≤ N * 2 ^ drop) : Ieee.Toward.even.cut neg n drop ≤ N := by
  rw [even_eq]
  by_cases hd : drop ≤ n.log2 + 2
  · rw [Nat.min_eq_left hd]
    generalize hg : 2 ^ drop = g at h ⊢
    have hg0 : 0 < g := by rw [← hg]; exact Nat.two_pow_pos _
    have hdm := Nat.div_add_mod n g
    have hm := Nat.mod_lt n hg0
    generalize hb : (decide (g < 2 * (n % g)) || (g == 2 * (n % g) && n / g % 2 == 1)) = b
    cases b
    · simp only [Bool.toNat_false, Nat.add_zero]
      exact Nat.div_le_of_le_mul (by rwa [Nat.mul_comm])
    · have hr : 0 < n % g := by
        rcases Nat.eq_zero_or_pos (n % g) with h0 | h0
        · rw [h0] at hb
          simp at hb
          omega
        · exact h0
      simp only [Bool.toNat_true]
      have : g * (n / g) < N * g := by omega
      rw [Nat.mul_comm] at this
      have := Nat.lt_of_mul_lt_mul_right this
      omega
  · rw [Nat.min_eq_right (by omega)]
    have h1 := log_lt n
    have h2 : n < 2 ^ (n.log2 + 2) := Nat.lt_of_lt_of_le h1 (Nat.pow_le_pow_right (by decide) (by omega))
    have h3 : 2 * n < 2 ^ (n.log2 + 2) := by
      have : 2 ^ (n.log2 + 2) = 2 * 2 ^ (n.log2 + 1) := by rw [show n.log2 + 2 = (n.log2 + 1) + 1 from rfl, Nat.pow_succ, Nat.mul_comm]
      omega
    rw [Nat.div_eq_of_lt h2, Nat.mod_eq_of_lt h2]
    have e1 : decide (2 ^ (n.log2 + 2) < 2 * n) = false := decide_eq_false (by omega)
    have e2 : (2 ^ (n.log2 + 2) == 2 * n) = false := by rw [beq_eq_false_iff_ne]; omega
    simp only [e1, e2, Bool.false_and, Bool.or_self, Bool.toNat_false]
    omega
theorem cut_ge {neg : Bool} {n drop N : Nat} (h : N * 2 ^ drop ≤ n) : N ≤ Ieee.Toward.even.cut neg n drop := by
  rw [even_eq]
  refine Nat.le_trans ?_ (Nat.le_add_right _ _)
  by_cases hN : N = 0
  · subst hN; exact Nat.zero_le _
  · have h1 : 2 ^ drop ≤ n := Nat.le_trans (Nat.le_mul_of_pos_left _ (by omega)) h
    have h2 := log_lt n
    have h3 : drop < n.log2 + 1 := (Nat.pow_lt_pow_iff_right (by decide)).1 (Nat.lt_of_le_of_lt h1 h2)
    rw [Nat.min_eq_left (by omega)]
    exact (Nat.le_div_iff_mul_le (Nat.two_pow_pos _)).2 h
/-- The word of a rung, read. -/
theorem read_rung {f : Ieee.Format} {neg : Bool} {L kept : Nat} (hk : kept ≤ 2 * f.binade) (hl : L ≠ 0 → f.binade ≤ kept) (hr : L * f.binade + kept < f.infRung) (hleast : -2000 ≤ f.leastPlace) :
    ∃ mag place, f.read (f.word neg (L * f.binade + kept)) = .number neg mag place ∧ sc mag place = sc kept (f.leastPlace + L) ∧ f.leastPlace ≤ place := by
  have hb0 : 0 < f.binade := Nat.two_pow_pos _
  have hsw := Ieee.Format.infRung_lt f
  generalize hR : L * f.binade + kept = R at *
  have hw1 : f.word neg R / f.signWeight % 2 = neg.toNat := by
    unfold Ieee.Format.word
    cases neg
    · simp [Nat.div_eq_of_lt (Nat.lt_trans hr hsw)]
    · have : (f.signWeight + R) / f.signWeight = 1 := by
        rw [Nat.add_comm, Nat.add_div_right _ (show 0 < f.signWeight from Nat.two_pow_pos _), Nat.div_eq_of_lt (Nat.lt_trans hr hsw)]
      simp [this]
  have hw2 : f.word neg R % f.signWeight = R := by
    unfold Ieee.Format.word
    cases neg
    · simp [Nat.mod_eq_of_lt (Nat.lt_trans hr hsw)]
    · simp [Nat.mod_eq_of_lt (Nat.lt_trans hr hsw)]
  unfold Ieee.Format.read
  simp only [hw1, hw2]
  have hn : (neg.toNat == 1) = neg := by cases neg <;> rfl
  rw [hn]
  by_cases c1 : R < f.binade
  · rw [if_pos c1]
    have : L = 0 := by
      rcases Nat.eq_zero_or_pos L with h | h
      · exact h
      · have := hl (by omega)
        have : f.binade ≤ L * f.binade := Nat.le_mul_of_pos_left _ h
        omega
    subst this
    refine ⟨_, _, rfl, ?_, Int.le_refl _⟩
    have : R = kept := by omega
    rw [this]; simp
  · rw [if_neg c1, if_pos hr]
    have hkb : f.binade ≤ kept := by
      rcases Nat.eq_zero_or_pos L with h | h
      · subst h; omega
      · exact hl (by omega)
    refine ⟨_, _, rfl, ?_, by omega⟩
    by_cases c2 : kept = 2 * f.binade
    · have e1 : R = (L + 2) * f.binade := by rw [← hR, c2, Nat.add_mul]
      rw [e1, Nat.mul_mod_left, Nat.mul_div_left _ hb0, Nat.add_zero, c2]
      have : f.leastPlace + ((L + 2 - 1 : Nat) : Int) = f.leastPlace + L + (1 : Nat) := by omega
      rw [this, sc_add _ _ _ (by omega), Nat.pow_one, Nat.mul_comm]
    · have e1 : R / f.binade = L + 1 := by
        have : R = (kept - f.binade) + f.binade * (L + 1) := by rw [← hR, Nat.mul_add, Nat.mul_comm f.binade L]; omega
        rw [this, Nat.add_mul_div_left _ _ hb0, Nat.div_eq_of_lt (by omega)]; omega
      have e2 : R % f.binade = kept - f.binade := by
        have : R = (kept - f.binade) + f.binade * (L + 1) := by rw [← hR, Nat.mul_add, Nat.mul_comm f.binade L]; omega
        rw [this, Nat.add_mul_mod_self_left, Nat.mod_eq_of_lt (by omega)]
      rw [e1, e2]
      have : f.leastPlace + ((L + 1 - 1 : Nat) : Int) = f.leastPlace + L := by omega
      rw [this]
      congr 1
      omega
/-- Rounding to nearest: what comes is within the bounds that the format has. -/
theorem nearest_le {f : Ieee.Format} {neg : Bool} {mag : Nat} {place : Int} {m : Nat} {q : Int} (hleast : -2000 ≤ f.leastPlace) (hp : -4900 ≤ place)
    (hm : m < 2 * f.binade) (hq1 : f.leastPlace ≤ q) (hq2 : q ≤ f.leastPlace + (2 ^ f.exponentBits - 3 : Nat)) (he : 2 ≤ f.exponentBits) (h : sc mag place ≤ sc m q) :
    ∃ mag' place', f.read (f.nearest neg mag place) = .number neg mag' place' ∧ sc mag' place' ≤ sc m q ∧ f.leastPlace ≤ place' ∧
      ∀ (n : Nat) (r : Int), n < 2 * f.binade → f.leastPlace ≤ r → sc n r ≤ sc mag place → sc n r ≤ sc mag' place' := by
  have hb0 : 0 < f.binade := Nat.two_pow_pos _
  unfold Ieee.Format.nearest
  by_cases h0 : mag = 0
  · subst h0
    rw [if_pos rfl]
    have e4 : 4 ≤ 2 ^ f.exponentBits := Nat.le_trans (show 4 ≤ 2 ^ 2 by decide) (Nat.pow_le_pow_right (by decide) he)
    have hinf : 0 < f.infRung := Nat.mul_pos (by omega) hb0
    obtain ⟨mag', place', h1, h2, h3⟩ := read_rung (f := f) (neg := neg) (L := 0) (kept := 0) (by omega) (fun h => absurd rfl h) (by simpa using hinf) hleast
    simp only [Nat.zero_mul, Nat.add_zero] at h1
    refine ⟨mag', place', h1, by rw [h2, sc_zero]; exact Nat.zero_le _, h3, fun n r _ _ hn => ?_⟩
    rw [sc_zero] at hn
    omega
  · rw [if_neg h0]
    simp only []
    generalize hlast : max (place + mag.log2 - f.fractionBits) f.leastPlace = last
    have hl0 : f.leastPlace ≤ last := by omega
    obtain ⟨L, hL⟩ : ∃ L : Nat, last = f.leastPlace + L := ⟨(last - f.leastPlace).toNat, by omega⟩
    have hLn : (last - f.leastPlace).toNat = L := by omega
    rw [hLn]
    generalize hkept : Ieee.Toward.even.cut neg (mag <<< (place - last).toNat) (last - place).toNat = kept
    -- what is kept, against whole numbers of the last place
    have key : ∀ N : Nat, (sc mag place ≤ sc N last → kept ≤ N) ∧ (sc N last ≤ sc mag place → N ≤ kept) := by
      intro N
      by_cases c : place ≤ last
      · obtain ⟨d, hd⟩ : ∃ d : Nat, last = place + d := ⟨(last - place).toNat, by omega⟩
        have e1 : (place - last).toNat = 0 := by omega
        have e2 : (last - place).toNat = d := by omega
        rw [e1, e2, Nat.shiftLeft_zero] at hkept
        rw [hd, sc_add _ _ _ (by omega), sc_le, sc_le, ← hkept]
        exact ⟨cut_le, cut_ge⟩
      · obtain ⟨d, hd⟩ : ∃ d : Nat, place = last + d := ⟨(place - last).toNat, by omega⟩
        have e1 : (place - last).toNat = d := by omega
        have e2 : (last - place).toNat = 0 := by omega
        rw [e1, e2, Nat.shiftLeft_eq] at hkept
        rw [hd, sc_add _ _ _ (by omega), sc_le, sc_le, ← hkept]
        exact ⟨fun x => cut_le (by simpa using x), fun x => cut_ge (by simpa using x)⟩
    have hbin : f.binade = 2 ^ f.fractionBits := rfl
    have hup : kept ≤ 2 * f.binade := by
      refine (key _).1 ?_
      have h1 := log_lt mag
      have h2 : place + mag.log2 - f.fractionBits ≤ last := by omega
      obtain ⟨d, hd⟩ : ∃ d : Nat, last + f.fractionBits + 1 = place + (mag.log2 + 1 : Nat) + d := ⟨(last + f.fractionBits + 1 - place - (mag.log2 + 1)).toNat, by omega⟩
      have e : sc (2 * f.binade) last = sc 1 (last + (f.fractionBits + 1 : Nat)) := by
        rw [sc_add _ _ _ (by omega), hbin, Nat.one_mul, Nat.pow_succ, Nat.mul_comm]
      have e2 : last + ((f.fractionBits + 1 : Nat) : Int) = place + ((mag.log2 + 1 + d : Nat) : Int) := by omega
      rw [e, e2, sc_add _ _ _ (by omega), sc_le, Nat.one_mul]
      exact Nat.le_trans (Nat.le_of_lt h1) (Nat.pow_le_pow_right (by decide) (by omega))
    have hlow : L ≠ 0 → f.binade ≤ kept := by
      intro hL0
      refine (key _).2 ?_
      have h1 := log_le h0
      have h2 : last = place + mag.log2 - f.fractionBits := by omega
      have e : sc f.binade last = sc 1 (last + (f.fractionBits : Nat)) := by
        rw [sc_add _ _ _ (by omega), hbin, Nat.one_mul]
      have e2 : last + ((f.fractionBits : Nat) : Int) = place + ((mag.log2 : Nat) : Int) := by omega
      rw [e, e2, sc_add _ _ _ (by omega), sc_le, Nat.one_mul]
      exact h1
    -- against what the format has
    have keyle : ∀ (n : Nat) (r : Int), n < 2 * f.binade → f.leastPlace ≤ r → sc mag place ≤ sc n r → sc kept last ≤ sc n r := by
      intro n r hn hr hle
      by_cases c : last ≤ r
      · obtain ⟨d, hd⟩ : ∃ d : Nat, r = last + d := ⟨(r - last).toNat, by omega⟩
        rw [hd, sc_add _ _ _ (by omega)] at hle ⊢
        exact sc_le.2 ((key _).1 hle)
      · exfalso
        have h1 := log_le h0
        have h2 : last = place + mag.log2 - f.fractionBits := by omega
        obtain ⟨d, hd⟩ : ∃ d : Nat, place + mag.log2 = r + (f.fractionBits + 1 : Nat) + d := ⟨(place + mag.log2 - r - (f.fractionBits + 1 : Nat)).toNat, by omega⟩
        have e1 : sc 1 (place + (mag.log2 : Nat)) ≤ sc mag place := by
          rw [sc_add _ _ _ (by omega), Nat.one_mul, sc_le]; exact h1
        have e2 : place + ((mag.log2 : Nat) : Int) = r + ((f.fractionBits + 1 + d : Nat) : Int) := by omega
        rw [e2, sc_add _ _ _ (by omega), Nat.one_mul] at e1
        have := sc_le.1 (Nat.le_trans e1 hle)
        have h3 : 2 * f.binade ≤ 2 ^ (f.fractionBits + 1 + d) := by
          rw [hbin, Nat.mul_comm, ← Nat.pow_succ]; exact Nat.pow_le_pow_right (by decide) (by omega)
        omega
    have keyge : ∀ (n : Nat) (r : Int), n < 2 * f.binade → f.leastPlace ≤ r → sc n r ≤ sc mag place → sc n r ≤ sc kept last := by
      intro n r hn hr hle
      by_cases c : last ≤ r
      · obtain ⟨d, hd⟩ : ∃ d : Nat, r = last + d := ⟨(r - last).toNat, by omega⟩
        rw [hd, sc_add _ _ _ (by omega)] at hle ⊢
        exact sc_le.2 ((key _).2 hle)
      · have hk := hlow (by omega)
        obtain ⟨d, hd⟩ : ∃ d : Nat, last = r + 1 + d := ⟨(last - r - 1).toNat, by omega⟩
        have e2 : last = r + ((1 + d : Nat) : Int) := by omega
        rw [e2, sc_add _ _ _ (by omega), sc_le]
        have : 2 ^ 1 ≤ 2 ^ (1 + d) := Nat.pow_le_pow_right (by decide) (by omega)
        have : kept * 2 ≤ kept * 2 ^ (1 + d) := Nat.mul_le_mul_left _ this
        omega
    have hfin := keyle m q hm hq1 h
    have hrung : L * f.binade + kept < f.infRung := by
      rcases Nat.lt_or_ge (L * f.binade + kept) f.infRung with h1 | h1
      · exact h1
      · exfalso
        have e4 : 4 ≤ 2 ^ f.exponentBits := Nat.le_trans (show 4 ≤ 2 ^ 2 by decide) (Nat.pow_le_pow_right (by decide) he)
        have hinf : f.infRung = (2 ^ f.exponentBits - 1) * f.binade := rfl
        rw [hinf] at h1
        have h2 : (2 ^ f.exponentBits - 1) * f.binade ≤ (L + 2) * f.binade := by rw [Nat.add_mul]; omega
        have h3 := Nat.le_of_mul_le_mul_right h2 hb0
        -- the value is beyond all that the format has
        have hbig : 2 * f.binade * 2 ^ 0 ≤ kept * 2 ^ (L - (2 ^ f.exponentBits - 3)) := by
          by_cases c : L = 2 ^ f.exponentBits - 3
          · have h4 : (2 ^ f.exponentBits - 1) * f.binade = (L + 2) * f.binade := by rw [c]; congr 1; omega
            rw [h4, Nat.add_mul] at h1
            rw [c, Nat.sub_self]; omega
          · have h4 := hlow (by omega)
            have h5 : 2 ^ 1 ≤ 2 ^ (L - (2 ^ f.exponentBits - 3)) := Nat.pow_le_pow_right (by decide) (by omega)
            have := Nat.mul_le_mul h4 h5
            omega
        have e5 : last = (f.leastPlace + (2 ^ f.exponentBits - 3 : Nat)) + ((L - (2 ^ f.exponentBits - 3) : Nat) : Int) := by omega
        rw [e5, sc_add _ _ _ (by omega)] at hfin
        obtain ⟨d, hd⟩ : ∃ d : Nat, f.leastPlace + ((2 ^ f.exponentBits - 3 : Nat) : Int) = q + d := ⟨(f.leastPlace + ((2 ^ f.exponentBits - 3 : Nat) : Int) - q).toNat, by omega⟩
        rw [hd, sc_add _ _ _ (by omega), sc_le] at hfin
        have : kept * 2 ^ (L - (2 ^ f.exponentBits - 3)) ≤ kept * 2 ^ (L - (2 ^ f.exponentBits - 3)) * 2 ^ d := Nat.le_mul_of_pos_right _ (Nat.two_pow_pos _)
        omega
    obtain ⟨mag', place', h1, h2, h3⟩ := read_rung (f := f) (neg := neg) (L := L) (kept := kept) hup hlow hrung hleast
    have hmin : min (L * f.binade + kept) f.infRung = L * f.binade + kept := Nat.min_eq_left (Nat.le_of_lt hrung)
    rw [hmin]
    rw [← hL] at h2
    exact ⟨mag', place', h1, by rw [h2]; exact hfin, h3, fun n r hn hr hle => by rw [h2]; exact keyge n r hn hr hle⟩
end fl

end Go.Proofs.Ytgblgofmdhekiaa.Ab
