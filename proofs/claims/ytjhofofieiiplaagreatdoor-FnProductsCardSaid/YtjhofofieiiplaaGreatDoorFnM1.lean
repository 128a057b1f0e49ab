/-
  Rounding keeps within bounds that the format has: the plain law.
-/
import Derived.Test.YtjhofofieiiplaaGreatDoorAbExt
namespace Go.Proofs.YtjhofofieiiplaaGreatDoor.Ab
open Go
set_option linter.unusedVariables false
set_option linter.unusedSimpArgs false

namespace fl
/-- 'm * 2 ^ e', all scaled alike. -/
def sc (m : Nat) (e : Int) : Nat := m * 2 ^ (e + 5000).toNat
theorem sc_add (m : Nat) (e : Int) (d : Nat) (h : -5000 ≤ e) : sc m (e + d) = sc (m * 2 ^ d) e := by
  unfold sc
  have : (e + d + 5000).toNat = d + (e + 5000).toNat := by omega
  rw [this, Nat.pow_add, Nat.mul_assoc]
theorem sc_le {m n : Nat} {e : Int} : sc m e ≤ sc n e ↔ m ≤ n := Nat.mul_le_mul_right_iff (Nat.two_pow_pos _)
theorem sc_lt {m n : Nat} {e : Int} : sc m e < sc n e ↔ m < n := Nat.mul_lt_mul_right (Nat.two_pow_pos _)
theorem sc_zero (e : Int) : sc 0 e = 0 := by simp [sc]
theorem log_lt (n : Nat) : n < 2 ^ (n.log2 + 1) := Nat.lt_log2_self
theorem log_le {n : Nat} (h : n ≠ 0) : 2 ^ n.log2 ≤ n := Nat.log2_self_le h
theorem even_eq (neg : Bool) (n drop : Nat) : Ieee.Toward.even.cut neg n drop = n / 2 ^ min drop (n.log2 + 2) + (decide (2 ^ min drop (n.log2 + 2) < 2 * (n % 2 ^ min drop (n.log2 + 2))) || (2 ^ min drop (n.log2 + 2) == 2 * (n % 2 ^ min drop (n.log2 + 2)) && n / 2 ^ min drop (n.log2 + 2) % 2 == 1)).toNat := by
  unfold Ieee.Toward.cut
  simp only [Nat.one_shiftLeft]
theorem cut_le {neg : Bool} {n drop N : Nat} (h : n ≤ N * 2 ^ drop) : Ieee.Toward.even.cut neg n drop ≤ N := by
  rw [even_eq]
  by_cases hd : drop ≤ n.log2 + 2
  · rw [Nat.min_eq_left hd]
    generalize hg : 2 ^ drop = g at h ⊢
    have hg0 : 0 < g := by rw [← hg]; exact Nat.two_pow_pos _
    have hdm := Nat.div_add_mod n g
    have hm := Nat.mod_lt n hg0
    generalize hb : (decide (g < 2 * (n % g)) || (g == 2 * (n % g) && n / g % 2 == 1)) = b
    cases b
    · simp only [Bool.toNat_false, Nat.add_zero]
      exact Nat.div_le_of_le_mul (by rwa [Nat.mul_comm])
    · have hr : 0 < n % g := by
        rcases Nat.eq_zero_or_pos (n % g) with h0 | h0
        · rw [h0] at hb
          simp at hb
          omega
        · exact h0
      simp only [Bool.toNat_true]
      have : g * (n / g) < N * g := by omega
      rw [Nat.mul_comm] at this
      have := Nat.lt_of_mul_lt_mul_right this
      omega
  · rw [Nat.min_eq_right (by omega)]
    have h1 := log_lt n
    have h2 : n < 2 ^ (n.log2 + 2) := Nat.lt_of_lt_of_le h1 (Nat.pow_le_pow_right (by decide) (by omega))
    have h3 : 2 * n < 2 ^ (n.log2 + 2) := by
      have : 2 ^ (n.log2 + 2) = 2 * 2 ^ (n.log2 + 1) := by rw [show n.log2 + 2 = (n.log2 + 1) + 1 from rfl, Nat.pow_succ, Nat.mul_comm]
      omega
    rw [Nat.div_eq_of_lt h2, Nat.mod_eq_of_lt h2]
    have e1 : decide (2 ^ (n.log2 + 2) < 2 * n) = false := decide_eq_false (by omega)
    have e2 : (2 ^ (n.log2 + 2) == 2 * n) = false := by rw [beq_eq_false_iff_ne]; omega
    simp only [e1, e2, Bool.false_and, Bool.or_self, Bool.toNat_false]
    omega
theorem cut_ge {neg : Bool} {n drop N : Nat} (h : N * 2 ^ drop ≤ n) : N ≤ Ieee.Toward.even.cut neg n drop := by
  rw [even_eq]
  refine Nat.le_trans ?_ (Nat.le_add_right _ _)
  by_cases hN : N = 0
  · subst hN; exact Nat.zero_le _
  · have h1 : 2 ^ drop ≤ n := Nat.le_trans (Nat.le_mul_of_pos_left _ (by omega)) h
    have h2 := log_lt n
    have h3 : drop < n.log2 + 1 := (Nat.pow_lt_pow_iff_right (by decide)).1 (Nat.lt_of_le_of_lt h1 h2)
    rw [Nat.min_eq_left (by omega)]
    exact (Nat.le_div_iff_mul_le (Nat.two_pow_pos _)).2 h
/-- The word of a rung, read. -/
theorem read_rung {f : Ieee.Format} {neg : Bool} {L kept : Nat} (hk : kept ≤ 2 * f.binade) (hl : L ≠ 0 → f.binade ≤ kept) (hr : L * f.binade + kept < f.infRung) (hleast : -2000 ≤ f.leastPlace) :
    ∃ mag place, f.read (f.word neg (L * f.binade + kept)) = .number neg mag place ∧ sc mag place = sc kept (f.leastPlace + L) ∧ f.leastPlace ≤ place := by
  have hb0 : 0 < f.binade := Nat.two_pow_pos _
  have hsw := Ieee.Format.infRung_lt f
  generalize hR : L * f.binade + kept = R at *
  have hw1 : f.word neg R / f.signWeight % 2 = neg.toNat := by
    unfold Ieee.Format.word
    cases neg
    · simp [Nat.div_eq_of_lt (Nat.lt_trans hr hsw)]
    · have : (f.signWeight + R) / f.signWeight = 1 := by
        rw [Nat.add_comm, Nat.add_div_right _ (show 0 < f.signWeight from Nat.two_pow_pos _), Nat.div_eq_of_lt (Nat.lt_trans hr hsw)]
      simp [this]
  have hw2 : f.word neg R % f.signWeight = R := by
    unfold Ieee.Format.word
    cases neg
    · simp [Nat.mod_eq_of_lt (Nat.lt_trans hr hsw)]
    · simp [Nat.mod_eq_of_lt (Nat.lt_trans hr hsw)]
  unfold Ieee.Format.read
  simp only [hw1, hw2]
  have hn : (neg.toNat == 1) = neg := by cases neg <;> rfl
  rw [hn]
  by_cases c1 : R < f.binade
  · rw [if_pos c1]
    have : L = 0 := by
      rcases Nat.eq_zero_or_pos L with h | h
      · exact h
      · have := hl (by omega)
        have : f.binade ≤ L * f.binade := Nat.le_mul_of_pos_left _ h
        omega
    subst this
    refine ⟨_, _, rfl, ?_, Int.le_refl _⟩
    have : R = kept := by omega
    rw [this]; simp
  · rw [if_neg c1, if_pos hr]
    have hkb : f.binade ≤ kept := by
      rcases Nat.eq_zero_or_pos L with h | h
      · subst h; omega
      · exact hl (by omega)
    refine ⟨_, _, rfl, ?_, by omega⟩
    by_cases c2 : kept = 2 * f.binade
    · have e1 : R = (L + 2) * f.binade := by rw [← hR, c2, Nat.add_mul]
      rw [e1, Nat.mul_mod_left, Nat.mul_div_left _ hb0, Nat.add_zero, c2]
      have : f.leastPlace + ((L + 2 - 1 : Nat) : Int) = f.leastPlace + L + (1 : Nat) := by omega
      rw [this, sc_add _ _ _ (by omega), Nat.pow_one, Nat.mul_comm]
    · have e1 : R / f.binade = L + 1 := by
        have : R = (kept - f.binade) + f.binade * (L + 1) := by rw [← hR, Nat.mul_add, Nat.mul_comm f.binade L]; omega
        rw [this, Nat.add_mul_div_left _ _ hb0, Nat.div_eq_of_lt (by omega)]; omega
      have e2 : R % f.binade = kept - f.binade := by
        have : R = (kept - f.binade) + f.binade * (L + 1) := by rw [← hR, Nat.mul_add, Nat.mul_comm f.binade L]; omega
        rw [this, Nat.add_mul_mod_self_left, Nat.mod_eq_of_lt (by omega)]
      rw [e1, e2]
      have : f.leastPlace + ((L + 1 - 1 : Nat) : Int) = f.leastPlace + L := by omega
      rw [this]
      congr 1
      omega
/-- Rounding to nearest: what comes is within the bounds that the format has. -/
theorem nearest_le {f : Ieee.Format} {neg : Bool} {mag : Nat} {place : Int} {m : Nat} {q : Int} (hleast : -2000 ≤ f.leastPlace) (hp : -4900 ≤ place)
    (hm : m < 2 * f.binade) (hq1 : f.leastPlace ≤ q) (hq2 : q ≤ f.leastPlace + (2 ^ f.exponentBits - 3 : Nat)) (he : 2 ≤ f.exponentBits) (h : sc mag place ≤ sc m q) :
    ∃ mag' place', f.read (f.nearest neg mag place) = .number neg mag' place' ∧ sc mag' place' ≤ sc m q ∧ f.leastPlace ≤ place' ∧
      ∀ (n : Nat) (r : Int), n < 2 * f.binade → f.leastPlace ≤ r → sc n r ≤ sc mag place → sc n r ≤ sc mag' place' := by
  have hb0 : 0 < f.binade := Nat.two_pow_pos _
  unfold Ieee.Format.nearest
  by_cases h0 : mag = 0
  · subst h0
    rw [if_pos rfl]
    have e4 : 4 ≤ 2 ^ f.exponentBits := Nat.le_trans (show 4 ≤ 2 ^ 2 by decide) (Nat.pow_le_pow_right (by decide) he)
    have hinf : 0 < f.infRung := Nat.mul_pos (by omega) hb0
    obtain ⟨mag', place', h1, h2, h3⟩ := read_rung (f := f) (neg := neg) (L := 0) (kept := 0) (by omega) (fun h => absurd rfl h) (by simpa using hinf) hleast
    simp only [Nat.zero_mul, Nat.add_zero] at h1
    refine ⟨mag', place', h1, by rw [h2, sc_zero]; exact Nat.zero_le _, h3, fun n r _ _ hn => ?_⟩
    rw [sc_zero] at hn
    omega
  · rw [if_neg h0]
    simp only []
    generalize hlast : max (place + mag.log2 - f.fractionBits) f.leastPlace = last
    have hl0 : f.leastPlace ≤ last := by omega
    obtain ⟨L, hL⟩ : ∃ L : Nat, last = f.leastPlace + L := ⟨(last - f.leastPlace).toNat, by omega⟩
    have hLn : (last - f.leastPlace).toNat = L := by omega
    rw [hLn]
    generalize hkept : Ieee.Toward.even.cut neg (mag <<< (place - last).toNat) (last - place).toNat = kept
    -- what is kept, against whole numbers of the last place
    have key : ∀ N : Nat, (sc mag place ≤ sc N last → kept ≤ N) ∧ (sc N last ≤ sc mag place → N ≤ kept) := by
      intro N
      by_cases c : place ≤ last
      · obtain ⟨d, hd⟩ : ∃ d : Nat, last = place + d := ⟨(last - place).toNat, by omega⟩
        have e1 : (place - last).toNat = 0 := by omega
        have e2 : (last - place).toNat = d := by omega
        rw [e1, e2, Nat.shiftLeft_zero] at hkept
        rw [hd, sc_add _ _ _ (by omega), sc_le, sc_le, ← hkept]
        exact ⟨cut_le, cut_ge⟩
      · obtain ⟨d, hd⟩ : ∃ d : Nat, place = last + d := ⟨(place - last).toNat, by omega⟩
        have e1 : (place - last).toNat = d := by omega
        have e2 : (last - place).toNat = 0 := by omega
        rw [e1, e2, Nat.shiftLeft_eq] at hkept
        rw [hd, sc_add _ _ _ (by omega), sc_le, sc_le, ← hkept]
        exact ⟨fun x => cut_le (by simpa using x), fun x => cut_ge (by simpa using x)⟩
    have hbin : f.binade = 2 ^ f.fractionBits := rfl
    have hup : kept ≤ 2 * f.binade := by
      refine (key _).1 ?_
      have h1 := log_lt mag
      have h2 : place + mag.log2 - f.fractionBits ≤ last := by omega
      obtain ⟨d, hd⟩ : ∃ d : Nat, last + f.fractionBits + 1 = place + (mag.log2 + 1 : Nat) + d := ⟨(last + f.fractionBits + 1 - place - (mag.log2 + 1)).toNat, by omega⟩
      have e : sc (2 * f.binade) last = sc 1 (last + (f.fractionBits + 1 : Nat)) := by
        rw [sc_add _ _ _ (by omega), hbin, Nat.one_mul, Nat.pow_succ, Nat.mul_comm]
      have e2 : last + ((f.fractionBits + 1 : Nat) : Int) = place + ((mag.log2 + 1 + d : Nat) : Int) := by omega
      rw [e, e2, sc_add _ _ _ (by omega), sc_le, Nat.one_mul]
      exact Nat.le_trans (Nat.le_of_lt h1) (Nat.pow_le_pow_right (by decide) (by omega))
    have hlow : L ≠ 0 → f.binade ≤ kept := by
      intro hL0
      refine (key _).2 ?_
      have h1 := log_le h0
      have h2 : last = place + mag.log2 - f.fractionBits := by omega
      have e : sc f.binade last = sc 1 (last + (f.fractionBits : Nat)) := by
        rw [sc_add _ _ _ (by omega), hbin, Nat.one_mul]
      have e2 : last + ((f.fractionBits : Nat) : Int) = place + ((mag.log2 : Nat) : Int) := by omega
      rw [e, e2, sc_add _ _ _ (by omega), sc_le, Nat.one_mul]
      exact h1
    -- against what the format has
    have keyle : ∀ (n : Nat) (r : Int), n < 2 * f.binade → f.leastPlace ≤ r → sc mag place ≤ sc n r → sc kept last ≤ sc n r := by
      intro n r hn hr hle
      by_cases c : last ≤ r
      · obtain ⟨d, hd⟩ : ∃ d : Nat, r = last + d := ⟨(r - last).toNat, by omega⟩
        rw [hd, sc_add _ _ _ (by omega)] at hle ⊢
        exact sc_le.2 ((key _).1 hle)
      · exfalso
        have h1 := log_le h0
        have h2 : last = place + mag.log2 - f.fractionBits := by omega
        obtain ⟨d, hd⟩ : ∃ d : Nat, place + mag.log2 = r + (f.fractionBits + 1 : Nat) + d := ⟨(place + mag.log2 - r - (f.fractionBits + 1 : Nat)).toNat, by omega⟩
        have e1 : sc 1 (place + (mag.log2 : Nat)) ≤ sc mag place := by
          rw [sc_add _ _ _ (by omega), Nat.one_mul, sc_le]; exact h1
        have e2 : place + ((mag.log2 : Nat) : Int) = r + ((f.fractionBits + 1 + d : Nat) : Int) := by omega
        rw [e2, sc_add _ _ _ (by omega), Nat.one_mul] at e1
        have := sc_le.1 (Nat.le_trans e1 hle)
        have h3 : 2 * f.binade ≤ 2 ^ (f.fractionBits + 1 + d) := by
          rw [hbin, Nat.mul_comm, ← Nat.pow_succ]; exact Nat.pow_le_pow_right (by decide) (by omega)
        omega
    have keyge : ∀ (n : Nat) (r : Int), n < 2 * f.binade → f.leastPlace ≤ r → sc n r ≤ sc mag place → sc n r ≤ sc kept last := by
      intro n r hn hr hle
      by_cases c : last ≤ r
      · obtain ⟨d, hd⟩ : ∃ d : Nat, r = last + d := ⟨(r - last).toNat, by omega⟩
        rw [hd, sc_add _ _ _ (by omega)] at hle ⊢
        exact sc_le.2 ((key _).2 hle)
      · have hk := hlow (by omega)
        obtain ⟨d, hd⟩ : ∃ d : Nat, last = r + 1 + d := ⟨(last - r - 1).toNat, by omega⟩
        have e2 : last = r + ((1 + d : Nat) : Int) := by omega
        rw [e2, sc_add _ _ _ (by omega), sc_le]
        have : 2 ^ 1 ≤ 2 ^ (1 + d) := Nat.pow_le_pow_right (by decide) (by omega)
        have : kept * 2 ≤ kept * 2 ^ (1 + d) := Nat.mul_le_mul_left _ this
        omega
    have hfin := keyle m q hm hq1 h
    have hrung : L * f.binade + kept < f.infRung := by
      rcases Nat.lt_or_ge (L * f.binade + kept) f.infRung with h1 | h1
      · exact h1
      · exfalso
        have e4 : 4 ≤ 2 ^ f.exponentBits := Nat.le_trans (show 4 ≤ 2 ^ 2 by decide) (Nat.pow_le_pow_right (by decide) he)
        have hinf : f.infRung = (2 ^ f.exponentBits - 1) * f.binade := rfl
        rw [hinf] at h1
        have h2 : (2 ^ f.exponentBits - 1) * f.binade ≤ (L + 2) * f.binade := by rw [Nat.add_mul]; omega
        have h3 := Nat.le_of_mul_le_mul_right h2 hb0
        -- the value is beyond all that the format has
        have hbig : 2 * f.binade * 2 ^ 0 ≤ kept * 2 ^ (L - (2 ^ f.exponentBits - 3)) := by
          by_cases c : L = 2 ^ f.exponentBits - 3
          · have h4 : (2 ^ f.exponentBits - 1) * f.binade = (L + 2) * f.binade := by rw [c]; congr 1; omega
            rw [h4, Nat.add_mul] at h1
            rw [c, Nat.sub_self]; omega
          · have h4 := hlow (by omega)
            have h5 : 2 ^ 1 ≤ 2 ^ (L - (2 ^ f.exponentBits - 3)) := Nat.pow_le_pow_right (by decide) (by omega)
            have := Nat.mul_le_mul h4 h5
            omega
        have e5 : last = (f.leastPlace + (2 ^ f.exponentBits - 3 : Nat)) + ((L - (2 ^ f.exponentBits - 3) : Nat) : Int) := by omega
        rw [e5, sc_add _ _ _ (by omega)] at hfin
        obtain ⟨d, hd⟩ : ∃ d : Nat, f.leastPlace + ((2 ^ f.exponentBits - 3 : Nat) : Int) = q + d := ⟨(f.leastPlace + ((2 ^ f.exponentBits - 3 : Nat) : Int) - q).toNat, by omega⟩
        rw [hd, sc_add _ _ _ (by omega), sc_le] at hfin
        have : kept * 2 ^ (L - (2 ^ f.exponentBits - 3)) ≤ kept * 2 ^ (L - (2 ^ f.exponentBits - 3)) * 2 ^ d := Nat.le_mul_of_pos_right _ (Nat.two_pow_pos _)
        omega
    obtain ⟨mag', place', h1, h2, h3⟩ := read_rung (f := f) (neg := neg) (L := L) (kept := kept) hup hlow hrung hleast
    have hmin : min (L * f.binade + kept) f.infRung = L * f.binade + kept := Nat.min_eq_left (Nat.le_of_lt hrung)
    rw [hmin]
    rw [← hL] at h2
    exact ⟨mag', place', h1, by rw [h2]; exact hfin, h3, fun n r hn hr hle => by rw [h2]; exact keyge n r hn hr hle⟩
end fl


namespace fl
def pw (n : Nat) : Nat := 2 ^ n
theorem pw_pos (n : Nat) : 0 < pw n := Nat.two_pow_pos n
theorem pw_add (a n : Nat) : 2 ^ (a + n) = 2 ^ a * pw n := Nat.pow_add 2 a n
def big : Nat := pw 5000
theorem big_pos : 0 < big := pw_pos 5000
theorem big_add (a : Nat) : 2 ^ (a + 5000) = 2 ^ a * big := pw_add a 5000
def sv (s : Bool) (m : Nat) (e : Int) : Int := if s then -(sc m e : Int) else sc m e
/-- What a word stands for, scaled. -/
def val (k : FloatKind) (x : Nat) : Int := match k.decode x with
  | .number s m e => sv s m e
  | _ => 0
def fin (k : FloatKind) (x : Nat) : Prop := ∃ s m e, k.decode x = .number s m e
structure Rep (k : FloatKind) (n : Nat) (r : Int) : Prop where
  n : n < 2 * k.format.binade
  lo : k.format.leastPlace ≤ r
  hi : r ≤ k.format.leastPlace + (2 ^ k.format.exponentBits - 3 : Nat)
theorem val_eq {k : FloatKind} {x : Nat} {s : Bool} {m : Nat} {e : Int} (h : k.decode x = .number s m e) : val k x = sv s m e := by
  unfold val; rw [h]
theorem least_ge (k : FloatKind) : -1074 ≤ k.format.leastPlace ∧ k.format.leastPlace ≤ -149 := by cases k <;> decide
theorem place_of {k : FloatKind} {x : Nat} {s : Bool} {m : Nat} {e : Int} (h : k.decode x = .number s m e) : k.format.leastPlace ≤ e ∧ e ≤ 971 := by
  have hb0 : 0 < k.format.binade := Nat.two_pow_pos _
  unfold FloatKind.decode Ieee.Format.read at h
  simp only [] at h
  split at h
  · simp only [Ieee.Datum.number.injEq] at h
    obtain ⟨_, _, rfl⟩ := h
    have := (least_ge k).2
    exact ⟨Int.le_refl _, by omega⟩
  · split at h
    · rename_i h1
      simp only [Ieee.Datum.number.injEq] at h
      obtain ⟨_, _, rfl⟩ := h
      refine ⟨by omega, ?_⟩
      have h2 : x % k.format.signWeight / k.format.binade < 2 ^ k.format.exponentBits - 1 := (Nat.div_lt_iff_lt_mul hb0).2 h1
      cases k
      · have e1 : FloatKind.f32.format.exponentBits = 8 := rfl
        have e2 : FloatKind.f32.format.leastPlace = -149 := by decide
        rw [e1] at h2; rw [e2]; omega
      · have e1 : FloatKind.f64.format.exponentBits = 11 := rfl
        have e2 : FloatKind.f64.format.leastPlace = -1074 := by decide
        rw [e1] at h2; rw [e2]; omega
    · split at h <;> cases h
/-- What a number is rounded to. -/
structure Rn (k : FloatKind) (V : Int) (w : Nat) : Prop where
  fin : fin k w
  le : ∀ {n : Nat} {r : Int}, Rep k n r → V ≤ sc n r → val k w ≤ sc n r
  ge : ∀ {n : Nat} {r : Int}, Rep k n r → (sc n r : Int) ≤ V → (sc n r : Int) ≤ val k w
  nle : ∀ {n : Nat} {r : Int}, Rep k n r → V ≤ -(sc n r : Int) → val k w ≤ -(sc n r : Int)
  nge : ∀ {n : Nat} {r : Int}, Rep k n r → -(sc n r : Int) ≤ V → -(sc n r : Int) ≤ val k w
theorem write_rn {k : FloatKind} {s : Bool} {mag : Nat} {place : Int} (hp : -4900 ≤ place) {M : Nat} {q : Int} (hr : Rep k M q) (h : sc mag place ≤ sc M q) : Rn k (sv s mag place) (k.encode (.number s mag place)) := by
  have hl := least_ge k
  have he : 2 ≤ k.format.exponentBits := by cases k <;> decide
  obtain ⟨m', p', h1, h2, h3, h4⟩ := nearest_le (f := k.format) (neg := s) (mag := mag) (place := place) (by omega) hp hr.n hr.lo hr.hi he h
  have hread : k.decode (k.encode (.number s mag place)) = .number s m' p' := h1
  have hv := val_eq hread
  have up : ∀ {n : Nat} {r : Int}, Rep k n r → sc mag place ≤ sc n r → sc m' p' ≤ sc n r := fun {n r} hnr hle => by
    obtain ⟨m2, p2, g1, g2, _⟩ := nearest_le (f := k.format) (neg := s) (mag := mag) (place := place) (by omega) hp hnr.n hnr.lo hnr.hi he hle
    rw [h1] at g1
    simp only [Ieee.Datum.number.injEq] at g1
    obtain ⟨_, rfl, rfl⟩ := g1
    exact g2
  have down : ∀ {n : Nat} {r : Int}, Rep k n r → sc n r ≤ sc mag place → sc n r ≤ sc m' p' := fun {n r} hnr hle => h4 n r hnr.n hnr.lo hle
  have z0 : Rep k 0 (k.format.leastPlace) := ⟨by cases k <;> decide, Int.le_refl _, by omega⟩
  refine ⟨⟨_, _, _, hread⟩, fun {n r} hnr hle => ?_, fun {n r} hnr hle => ?_, fun {n r} hnr hle => ?_, fun {n r} hnr hle => ?_⟩ <;> rw [hv] <;> cases s <;> simp only [sv, Bool.false_eq_true, if_false, if_true] at hle ⊢
  · have := up hnr (by omega); omega
  · omega
  · have := down hnr (by omega); omega
  · have e : sc n r = 0 := by omega
    have : sc m' p' ≤ sc 0 k.format.leastPlace := up z0 (by rw [sc_zero]; omega)
    rw [sc_zero] at this
    omega
  · have e : sc mag place = 0 := by omega
    have : sc m' p' ≤ sc 0 k.format.leastPlace := up z0 (by rw [sc_zero]; omega)
    rw [sc_zero] at this
    omega
  · have := down hnr (by omega); omega
  · omega
  · have := up hnr (by omega); omega
/-- A number that the format has is kept. -/
theorem Rn.exact {k : FloatKind} {V : Int} {w : Nat} (h : Rn k V w) {n : Nat} {r : Int} (hr : Rep k n r) (hv : V = sc n r ∨ V = -(sc n r : Int)) : val k w = V := by
  rcases hv with hv | hv
  · have a := h.le hr (by omega); have b := h.ge hr (by omega); omega
  · have a := h.nle hr (by omega); have b := h.nge hr (by omega); omega
theorem val_bound {k : FloatKind} {x : Nat} {s : Bool} {m : Nat} {e : Int} (h : k.decode x = .number s m e) : (val k x).natAbs = sc m e := by
  rw [val_eq h]; unfold sv; split <;> omega
theorem signed_sc (s : Bool) (m d : Nat) (e base : Int) (he : e = base + d) (hb : -5000 ≤ base) : Ieee.signed s m d * 2 ^ (base + 5000).toNat = sv s m e := by
  subst he
  unfold Ieee.signed sv
  rw [sc_add _ _ _ hb]
  simp only [Nat.shiftLeft_eq, sc]
  split
  · rw [Int.neg_mul]; push_cast; rfl
  · push_cast; rfl
theorem sum_sv {s t : Bool} {m n : Nat} {i j : Int} (hi : -4000 ≤ i) (hj : -4000 ≤ j) : ∃ σ μ β, (Ieee.Datum.number s m i).sum (.number t n j) = some (.number σ μ β) ∧ -4000 ≤ β ∧ sv σ μ β = sv s m i + sv t n j := by
  refine ⟨_, _, _, rfl, by omega, ?_⟩
  have e1 := signed_sc s m (i - min i j).toNat i (min i j) (by omega) (by omega)
  have e2 := signed_sc t n (j - min i j).toNat j (min i j) (by omega) (by omega)
  rw [← e1, ← e2, ← Int.add_mul]
  generalize Ieee.signed s m (i - min i j).toNat + Ieee.signed t n (j - min i j).toNat = T
  unfold sv sc
  by_cases h0 : T = 0
  · subst h0; simp
  · rw [if_neg h0]
    by_cases hn : T < 0
    · have : decide (T < 0) = true := decide_eq_true hn
      simp only [this, if_true]
      push_cast
      rw [show ((T.natAbs : Nat) : Int) = -T from by omega, Int.neg_mul, Int.neg_neg]
    · have : decide (T < 0) = false := decide_eq_false hn
      simp only [this, Bool.false_eq_true, if_false]
      push_cast
      rw [show ((T.natAbs : Nat) : Int) = T from by omega]
theorem sv_abs (s : Bool) (m : Nat) (e : Int) : (sv s m e).natAbs = sc m e := by unfold sv; split <;> omega
theorem add_rn {k : FloatKind} {x y : Nat} (hx : fin k x) (hy : fin k y) {M : Nat} {q : Int} (hr : Rep k M q) (h : (val k x + val k y).natAbs ≤ sc M q) : Rn k (val k x + val k y) (fadd k x y) := by
  obtain ⟨s, m, i, hx⟩ := hx
  obtain ⟨t, n, j, hy⟩ := hy
  have px := place_of hx
  have py := place_of hy
  have hl := least_ge k
  obtain ⟨σ, μ, β, h1, h2, h3⟩ := sum_sv (s := s) (t := t) (m := m) (n := n) (i := i) (j := j) (by omega) (by omega)
  rw [val_eq hx, val_eq hy] at h ⊢
  rw [← h3] at h ⊢
  rw [sv_abs] at h
  have hx' : k.format.read x = .number s m i := hx
  have hy' : k.format.read y = .number t n j := hy
  have e : fadd k x y = k.encode (.number σ μ β) := by
    unfold fadd Ieee.Format.add
    rw [hx', hy', h1]; rfl
  rw [e]
  exact write_rn (by omega) hr h
theorem sub_rn {k : FloatKind} {x y : Nat} (hx : fin k x) (hy : fin k y) {M : Nat} {q : Int} (hr : Rep k M q) (h : (val k x - val k y).natAbs ≤ sc M q) : Rn k (val k x - val k y) (fsub k x y) := by
  obtain ⟨s, m, i, hx⟩ := hx
  obtain ⟨t, n, j, hy⟩ := hy
  have px := place_of hx
  have py := place_of hy
  have hl := least_ge k
  obtain ⟨σ, μ, β, h1, h2, h3⟩ := sum_sv (s := s) (t := !t) (m := m) (n := n) (i := i) (j := j) (by omega) (by omega)
  have hn : sv (!t) n j = - sv t n j := by unfold sv; cases t <;> simp
  rw [val_eq hx, val_eq hy] at h ⊢
  rw [hn, ← Int.sub_eq_add_neg] at h3
  rw [← h3] at h ⊢
  rw [sv_abs] at h
  have hx' : k.format.read x = .number s m i := hx
  have hy' : k.format.read y = .number t n j := hy
  have e : fsub k x y = k.encode (.number σ μ β) := by
    unfold fsub Ieee.Format.sub
    have h1' : (Ieee.Datum.number s m i).sum (Ieee.Datum.number t n j).opposite = some (.number σ μ β) := h1
    rw [hx', hy', h1']; rfl
  rw [e]
  exact write_rn (by omega) hr h
theorem sc_mul (m n : Nat) (i j : Int) (hi : -2000 ≤ i) (hj : -2000 ≤ j) : sc m i * sc n j = sc (m * n) (i + j) * big := by
  unfold sc
  have : (i + 5000).toNat + (j + 5000).toNat = (i + j + 5000).toNat + 5000 := by omega
  rw [Nat.mul_mul_mul_comm, ← Nat.pow_add, this, big_add, ← Nat.mul_assoc]
/-- A product: within what the magnitudes say. -/
theorem mul_rn {k : FloatKind} {x y : Nat} (hx : fin k x) (hy : fin k y) {A B M : Nat} {a b q : Int} (ha : -2000 ≤ a) (hb : -2000 ≤ b) (hax : (val k x).natAbs ≤ sc A a) (hby : (val k y).natAbs ≤ sc B b) (hr : Rep k M q) (h : sc (A * B) (a + b) ≤ sc M q) :
    fin k (fmul k x y) ∧ (val k (fmul k x y)).natAbs ≤ sc M q := by
  obtain ⟨s, m, i, hx⟩ := hx
  obtain ⟨t, n, j, hy⟩ := hy
  have px := place_of hx
  have py := place_of hy
  have hl := least_ge k
  rw [val_bound hx] at hax
  rw [val_bound hy] at hby
  have hx' : k.format.read x = .number s m i := hx
  have hy' : k.format.read y = .number t n j := hy
  have e : fmul k x y = k.encode (.number (s ^^ t) (m * n) (i + j)) := by
    unfold fmul Ieee.Format.mul
    rw [hx', hy']; rfl
  have hle : sc (m * n) (i + j) ≤ sc M q := by
    refine Nat.le_trans ?_ h
    have := Nat.mul_le_mul hax hby
    rw [sc_mul _ _ _ _ (by omega) (by omega), sc_mul _ _ _ _ ha hb] at this
    exact Nat.le_of_mul_le_mul_right this big_pos
  have R := write_rn (k := k) (s := s ^^ t) (mag := m * n) (place := i + j) (by omega) hr hle
  rw [e]
  have a1 := sv_abs (s ^^ t) (m * n) (i + j)
  have a2 := R.le hr (by omega)
  have a3 := R.nge hr (by omega)
  exact ⟨R.fin, by omega⟩
/-- A quotient: within what the magnitudes say. -/
theorem div_rn {k : FloatKind} {x y : Nat} (hx : fin k x) (hy : fin k y) (hy0 : val k y ≠ 0) {M : Nat} {q : Int} (hr : Rep k M q) (h : (val k x).natAbs * big ≤ sc M q * (val k y).natAbs) :
    fin k (fdiv k x y) ∧ (val k (fdiv k x y)).natAbs ≤ sc M q := by
  obtain ⟨s, m, i, hx⟩ := hx
  obtain ⟨t, n, j, hy⟩ := hy
  have px := place_of hx
  have py := place_of hy
  have hl := least_ge k
  rw [val_bound hx, val_bound hy] at h
  have hn0 : n ≠ 0 := by
    intro h0; subst h0
    apply hy0
    rw [val_eq hy]; unfold sv; rw [sc_zero]; split <;> rfl
  have hx' : k.format.read x = .number s m i := hx
  have hy' : k.format.read y = .number t n j := hy
  have hq2000 : -2000 ≤ q := by have := hr.lo; omega
  generalize hmore : (k.format.fractionBits + 2) + n.log2 - m.log2 = more
  have hml : more ≤ 54 + 53 := by
    have h1 : n < 2 * k.format.binade := by
      have h2 := hy'
      unfold Ieee.Format.read at h2
      simp only [] at h2
      have hb0 : 0 < k.format.binade := Nat.two_pow_pos _
      split at h2
      · simp only [Ieee.Datum.number.injEq] at h2; omega
      · split at h2
        · simp only [Ieee.Datum.number.injEq] at h2
          have := Nat.mod_lt (y % k.format.signWeight) hb0
          omega
        · split at h2 <;> cases h2
    have h3 : n.log2 < k.format.fractionBits + 1 := by
      refine (Nat.log2_lt hn0).2 ?_
      rw [Nat.pow_succ, Nat.mul_comm]; exact h1
    have : k.format.fractionBits ≤ 52 := by cases k <;> decide
    omega
  have e : fdiv k x y = k.encode (.number (s ^^ t) (2 * (m <<< more / n) + (m <<< more % n != 0).toNat) (i - j - more - 1)) := by
    unfold fdiv Ieee.Format.div
    rw [hx', hy']
    simp only [Ieee.Datum.quotient, if_neg hn0, hmore]
    rfl
  rw [Nat.shiftLeft_eq] at e
  have hle : sc (2 * (m * 2 ^ more / n) + (m * 2 ^ more % n != 0).toNat) (i - j - more - 1) ≤ sc M q := by
    by_cases hm0 : m = 0
    · subst hm0; simp [sc_zero]
    · -- in units of the quotient's place
      -- the bound is a whole number of units
      have hunit : ∃ E : Nat, q = i - j - more + (E : Int) := by
        refine ⟨(q - (i - j - more)).toNat, ?_⟩
        have hpos : 0 ≤ q - (i - j - more) := by
          apply Int.not_lt.1
          intro hlt
          -- then the quotient would be too great
          have hbin : k.format.binade = 2 ^ k.format.fractionBits := rfl
          have hMM := hr.n
          have hk : m * 2 ^ (i + 5000).toNat * big ≤ M * 2 ^ (q + 5000).toNat * (n * 2 ^ (j + 5000).toNat) := h
          have lm := log_le hm0
          have ln := log_lt n
          have b1 : 2 ^ (m.log2 + (i + 5000).toNat + 5000) ≤ m * 2 ^ (i + 5000).toNat * big := by
            rw [big_add, Nat.pow_add]
            exact Nat.mul_le_mul_right _ (Nat.mul_le_mul_right _ lm)
          have b2 : M * 2 ^ (q + 5000).toNat * (n * 2 ^ (j + 5000).toNat) < 2 ^ (k.format.fractionBits + 1 + (q + 5000).toNat + (n.log2 + 1 + (j + 5000).toNat)) := by
            have c1 : M * 2 ^ (q + 5000).toNat < 2 ^ (k.format.fractionBits + 1 + (q + 5000).toNat) := by
              rw [Nat.pow_add]
              refine Nat.mul_lt_mul_of_pos_right ?_ (Nat.two_pow_pos _)
              rw [Nat.pow_succ, Nat.mul_comm]; exact hMM
            have c2 : n * 2 ^ (j + 5000).toNat < 2 ^ (n.log2 + 1 + (j + 5000).toNat) := by
              rw [Nat.pow_add]
              exact Nat.mul_lt_mul_of_pos_right ln (Nat.two_pow_pos _)
            rw [Nat.pow_add 2 (k.format.fractionBits + 1 + (q + 5000).toNat)]
            exact Nat.mul_lt_mul'' c1 c2
          have b3 := (Nat.pow_lt_pow_iff_right (a := 2) (by decide)).1 (Nat.lt_of_le_of_lt b1 (Nat.lt_of_le_of_lt hk b2))
          omega
        omega
      obtain ⟨E, hE⟩ := hunit
      have hN : m * 2 ^ more ≤ M * 2 ^ E * n := by
        have hk : sc m i * big ≤ sc M q * sc n j := h
        have e1 : sc m i = sc (m * 2 ^ more) (i - more) := by rw [← sc_add _ _ _ (by omega), show i - more + (more : Int) = i from by omega]
        have e2 : sc M q = sc (M * 2 ^ E) (i - j - more) := by rw [hE, sc_add _ _ _ (by omega)]
        rw [e1, e2] at hk
        have e3 : sc (M * 2 ^ E) (i - j - more) * sc n j = sc (M * 2 ^ E * n) (i - more) * big := by
          unfold sc
          have : (i - j - more + 5000).toNat + (j + 5000).toNat = (i - more + 5000).toNat + 5000 := by omega
          rw [Nat.mul_mul_mul_comm, ← Nat.pow_add, this, big_add, ← Nat.mul_assoc]
        rw [e3] at hk
        exact sc_le.1 (Nat.le_of_mul_le_mul_right hk big_pos)
      have e2 : sc M q = sc (M * 2 ^ E * 2 ^ 1) (i - j - more - 1) := by
        rw [← sc_add _ _ _ (by omega), ← sc_add _ _ _ (by omega), hE]
        congr 1; omega
      rw [e2, sc_le]
      have hn1 : 0 < n := by omega
      have hdm := Nat.div_add_mod (m * 2 ^ more) n
      generalize m * 2 ^ more = D at hN hdm ⊢
      generalize M * 2 ^ E = N at hN ⊢
      by_cases hrem : D % n = 0
      · have : D / n ≤ N := Nat.div_le_of_le_mul (by rwa [Nat.mul_comm])
        simp [hrem]; omega
      · have hb : (D % n != 0) = true := by simp [hrem]
        rw [hb]
        simp only [Bool.toNat_true]
        have : n * (D / n) < N * n := by omega
        rw [Nat.mul_comm] at this
        have := Nat.lt_of_mul_lt_mul_right this
        omega
  have R := write_rn (k := k) (s := s ^^ t) (by omega) hr hle
  rw [e]
  have a1 := sv_abs (s ^^ t) (2 * (m * 2 ^ more / n) + (m * 2 ^ more % n != 0).toNat) (i - j - more - 1)
  have a2 := R.le hr (by omega)
  have a3 := R.nge hr (by omega)
  exact ⟨R.fin, by omega⟩
/-- How two floats stand to one another. -/
theorem order_val {k : FloatKind} {x y : Nat} (hx : fin k x) (hy : fin k y) : k.format.order x y = some (compare (val k x) (val k y)) := by
  obtain ⟨s, m, i, hx⟩ := hx
  obtain ⟨t, n, j, hy⟩ := hy
  have px := place_of hx
  have py := place_of hy
  have hl := least_ge k
  have hx' : k.format.read x = .number s m i := hx
  have hy' : k.format.read y = .number t n j := hy
  unfold Ieee.Format.order
  rw [hx', hy', val_eq hx, val_eq hy]
  have e1 := signed_sc s m (i - min i j).toNat i (min i j) (by omega) (by omega)
  have e2 := signed_sc t n (j - min i j).toNat j (min i j) (by omega) (by omega)
  simp only [Ieee.Datum.order]
  rw [← e1, ← e2]
  generalize Ieee.signed s m (i - min i j).toNat = A
  generalize Ieee.signed t n (j - min i j).toNat = B
  have hp : (0 : Int) < 2 ^ (min i j + 5000).toNat := Int.pow_pos (by decide)
  generalize (2 : Int) ^ (min i j + 5000).toNat = P at hp
  congr 1
  simp only [compare, compareOfLessAndEq]
  have l1 : (A * P < B * P) ↔ (A < B) := Int.mul_lt_mul_right hp
  have l2 : (A * P = B * P) ↔ (A = B) := ⟨fun h => Int.eq_of_mul_eq_mul_right (by omega) h, fun h => by rw [h]⟩
  simp only [l1, l2]
end fl


namespace fl
theorem sc_nat (N : Nat) (e : Int) : sc N e = N * sc 1 e := by unfold sc; rw [Nat.one_mul]
theorem sc_pw (e : Int) (n : Nat) (h : (e + 5000).toNat = n) : sc 1 e = pw n := by
  unfold sc pw; rw [h, Nat.one_mul]
theorem one_big : sc 1 0 = big := sc_pw 0 5000 rfl
theorem sc_mono {a b : Int} (h : a ≤ b) (ha : -5000 ≤ a) : sc 1 a ≤ sc 1 b := by
  obtain ⟨d, hd⟩ : ∃ d : Nat, b = a + d := ⟨(b - a).toNat, by omega⟩
  rw [hd, sc_add _ _ _ ha, sc_le, Nat.one_mul]
  exact Nat.two_pow_pos d
theorem sc_double (a : Int) (ha : -5000 ≤ a) : sc 1 (a + 1) = 2 * sc 1 a := by
  have := sc_add 1 a 1 ha
  rw [show a + ((1 : Nat) : Int) = a + 1 from rfl, Nat.one_mul, Nat.pow_one] at this
  rw [this, sc_nat]
theorem rep64 {n : Nat} {r : Int} (h : n < 9007199254740992) (h1 : -1074 ≤ r) (h2 : r ≤ 971) : Rep .f64 n r := by
  have e1 : 2 * FloatKind.f64.format.binade = 9007199254740992 := by decide
  have e2 : FloatKind.f64.format.leastPlace = -1074 := by decide
  have e3 : (2 ^ FloatKind.f64.format.exponentBits - 3 : Nat) = 2045 := by decide
  exact ⟨by omega, by omega, by rw [e2, e3]; omega⟩
theorem rep32 {n : Nat} {r : Int} (h : n < 16777216) (h1 : -149 ≤ r) (h2 : r ≤ 104) : Rep .f32 n r := by
  have e1 : 2 * FloatKind.f32.format.binade = 16777216 := by decide
  have e2 : FloatKind.f32.format.leastPlace = -149 := by decide
  have e3 : (2 ^ FloatKind.f32.format.exponentBits - 3 : Nat) = 253 := by decide
  exact ⟨by omega, by omega, by rw [e2, e3]; omega⟩
theorem mag_of {k : FloatKind} {x : Nat} {s : Bool} {m : Nat} {e : Int} (h : k.decode x = .number s m e) : m < 2 * k.format.binade := by
  have hb0 : 0 < k.format.binade := Nat.two_pow_pos _
  unfold FloatKind.decode Ieee.Format.read at h
  simp only [] at h
  split at h
  · simp only [Ieee.Datum.number.injEq] at h; omega
  · split at h
    · simp only [Ieee.Datum.number.injEq] at h
      have := Nat.mod_lt (x % k.format.signWeight) hb0
      omega
    · split at h <;> cases h
/-- A constant. -/
theorem const {x : Nat} {m : Nat} {e : Int} (h : FloatKind.f64.decode x = .number false m e) : fin .f64 x ∧ val .f64 x = sc m e := ⟨⟨_, _, _, h⟩, by rw [val_eq h]; rfl⟩
theorem zero_ok (k : FloatKind) : fin k 0 ∧ val k 0 = 0 := by
  have h : k.decode 0 = .number false 0 k.format.leastPlace := by cases k <;> decide +kernel
  exact ⟨⟨_, _, _, h⟩, by rw [val_eq h]; unfold sv; rw [sc_zero]; rfl⟩
theorem one_ok : fin .f64 4607182418800017408 ∧ val .f64 4607182418800017408 = sc 1 0 := by
  have h := const (x := 4607182418800017408) (m := 2 ^ 52) (e := -52) (by decide +kernel)
  refine ⟨h.1, h.2.trans ?_⟩
  have := sc_add 1 (-52) 52 (by omega)
  rw [show (-52 : Int) + ((52 : Nat) : Int) = 0 from rfl, Nat.one_mul] at this
  rw [this]
theorem quarter_ok : fin .f64 4598175219545276416 ∧ val .f64 4598175219545276416 = sc 1 (-2) := by
  have h := const (x := 4598175219545276416) (m := 2 ^ 52) (e := -54) (by decide +kernel)
  refine ⟨h.1, h.2.trans ?_⟩
  have := sc_add 1 (-54) 52 (by omega)
  rw [show (-54 : Int) + ((52 : Nat) : Int) = -2 from rfl, Nat.one_mul] at this
  rw [this]
theorem half_ok : fin .f64 4602678819172646912 ∧ val .f64 4602678819172646912 = sc 1 (-1) := by
  have h := const (x := 4602678819172646912) (m := 2 ^ 52) (e := -53) (by decide +kernel)
  refine ⟨h.1, h.2.trans ?_⟩
  have := sc_add 1 (-53) 52 (by omega)
  rw [show (-53 : Int) + ((52 : Nat) : Int) = -1 from rfl, Nat.one_mul] at this
  rw [this]
theorem wide_ok : fin .f64 4841369599423283200 ∧ val .f64 4841369599423283200 = sc 1 52 := by
  have h := const (x := 4841369599423283200) (m := 2 ^ 52) (e := 0) (by decide +kernel)
  refine ⟨h.1, h.2.trans ?_⟩
  have := sc_add 1 0 52 (by omega)
  rw [show (0 : Int) + ((52 : Nat) : Int) = 52 from rfl, Nat.one_mul] at this
  rw [this]
theorem nwide_ok : fin .f64 14064741636278059008 ∧ val .f64 14064741636278059008 = -(sc 1 52 : Int) := by
  have h : FloatKind.f64.decode 14064741636278059008 = .number true (2 ^ 52) 0 := by decide +kernel
  refine ⟨⟨_, _, _, h⟩, ?_⟩
  rw [val_eq h]
  have := sc_add 1 0 52 (by omega)
  rw [show (0 : Int) + ((52 : Nat) : Int) = 52 from rfl, Nat.one_mul] at this
  rw [this]; rfl
theorem turn_ok : fin .f64 4618760256179416344 ∧ (val .f64 4618760256179416344).natAbs ≤ sc 1 3 := by
  have h : ∃ m, m ≤ 2 ^ 53 ∧ FloatKind.f64.decode 4618760256179416344 = .number false m (-50) := ⟨7074237752028440, by decide, by decide +kernel⟩
  obtain ⟨m, hm, h⟩ := h
  have h := const h
  refine ⟨h.1, ?_⟩
  rw [h.2]
  have := sc_add 1 (-50) 53 (by omega)
  rw [show (-50 : Int) + ((53 : Nat) : Int) = 3 from rfl, Nat.one_mul] at this
  rw [this]
  have := (sc_le (e := -50)).2 hm
  omega
/-- A whole number as a float. -/
theorem ofInt_ok {k : FloatKind} {n : Int} (h : n.natAbs < 2 * k.format.binade) : fin k (k.nearest n) ∧ val k (k.nearest n) = n * (sc 1 0 : Int) := by
  have hl := least_ge k
  have hr : Rep k n.natAbs 0 := ⟨h, by omega, by cases k <;> decide⟩
  have R := write_rn (k := k) (s := decide (n < 0)) (mag := n.natAbs) (place := 0) (by omega) hr (Nat.le_refl _)
  refine ⟨R.fin, (R.exact hr ?_).trans ?_⟩
  · unfold sv; split
    · exact .inr rfl
    · exact .inl rfl
  · unfold sv
    rw [sc_nat n.natAbs]
    split
    · rename_i hn; rw [decide_eq_true_eq] at hn
      push_cast
      rw [show ((n.natAbs : Nat) : Int) = -n from by omega, Int.neg_mul, Int.neg_neg]
    · rename_i hn; rw [decide_eq_true_eq] at hn
      push_cast
      rw [show ((n.natAbs : Nat) : Int) = n from by omega]
theorem trunc_eq (s : Bool) (n d : Nat) : Ieee.Toward.zero.cut s n d = n / 2 ^ d := by
  unfold Ieee.Toward.cut
  simp only [Nat.one_shiftLeft, Bool.toNat_false, Nat.add_zero]
  by_cases hd : d ≤ n.log2 + 2
  · rw [Nat.min_eq_left hd]
  · have h1 := log_lt n
    rw [Nat.min_eq_right (by omega), Nat.div_eq_of_lt, Nat.div_eq_of_lt]
    · exact Nat.lt_of_lt_of_le h1 (Nat.pow_le_pow_right (by decide) (by omega))
    · exact Nat.lt_of_lt_of_le h1 (Nat.pow_le_pow_right (by decide) (by omega))
/-- A float cut to a whole number. -/
theorem fti_val {k : FloatKind} {x : Nat} (hx : fin k x) : (k.decode x).toInt .zero = some (fti.sv k x) ∧
    (0 ≤ val k x → 0 ≤ fti.sv k x ∧ fti.sv k x * (sc 1 0 : Int) ≤ val k x ∧ val k x < (fti.sv k x + 1) * (sc 1 0 : Int)) ∧
    (val k x ≤ 0 → fti.sv k x ≤ 0 ∧ val k x ≤ fti.sv k x * (sc 1 0 : Int) ∧ (fti.sv k x - 1) * (sc 1 0 : Int) < val k x) := by
  obtain ⟨s, m, e, hd⟩ := hx
  have pe := place_of hd
  have hl := least_ge k
  generalize hT : (m <<< e.toNat) / 2 ^ (-e).toNat = T
  have ht : (k.decode x).toInt .zero = some (if s then -(T : Int) else (T : Int)) := by
    rw [hd]
    simp only [Ieee.Datum.toInt, Ieee.Datum.integral, trunc_eq, hT, Ieee.signed, Nat.shiftLeft_zero]
  have hf : fti.sv k x = if s then -(T : Int) else (T : Int) := by unfold fti.sv; rw [ht]; rfl
  have hb : T * sc 1 0 ≤ sc m e ∧ sc m e < (T + 1) * sc 1 0 := by
    rw [← sc_nat, ← sc_nat]
    by_cases c : 0 ≤ e
    · obtain ⟨d, rfl⟩ : ∃ d : Nat, e = d := ⟨e.toNat, by omega⟩
      have e1 : (-(d : Int)).toNat = 0 := by omega
      rw [e1, Int.toNat_natCast, Nat.shiftLeft_eq, Nat.pow_zero, Nat.div_one] at hT
      have e2 : sc m (d : Int) = sc T 0 := by
        have := sc_add m 0 d (by omega)
        rw [Int.zero_add] at this
        rw [this, hT]
      rw [e2]
      exact ⟨Nat.le_refl _, sc_lt.2 (by omega)⟩
    · obtain ⟨d, hd2⟩ : ∃ d : Nat, (0 : Int) = e + d := ⟨(-e).toNat, by omega⟩
      have e1 : (-e).toNat = d := by omega
      have e3 : e.toNat = 0 := by omega
      rw [e1, e3, Nat.shiftLeft_zero] at hT
      rw [hd2, sc_add _ _ _ (by omega), sc_add _ _ _ (by omega), sc_le, sc_lt, ← hT]
      refine ⟨Nat.div_mul_le_self m (2 ^ d), ?_⟩
      have h1 := Nat.div_add_mod m (2 ^ d)
      have h2 := Nat.mod_lt m (Nat.two_pow_pos d)
      rw [Nat.add_mul, Nat.mul_comm]
      omega
  have hone : 0 < sc 1 0 := by rw [one_big]; exact big_pos
  rw [val_eq hd, hf]
  refine ⟨ht, ?_⟩
  unfold sv
  generalize sc m e = X at hb
  generalize sc 1 0 = S at hb hone
  have i1 : ((T * S : Nat) : Int) ≤ X := by exact_mod_cast hb.1
  have i2 : (X : Int) < (((T + 1) * S : Nat) : Int) := by exact_mod_cast hb.2
  push_cast at i1 i2
  rw [Int.add_mul, Int.one_mul] at i2
  cases s
  · simp only [Bool.false_eq_true, if_false, Int.add_mul, Int.sub_mul, Int.one_mul]
    generalize hTS : (T : Int) * (S : Int) = TS at i1 i2 ⊢
    by_cases hT0 : T = 0
    · subst hT0; simp at hTS; omega
    · refine ⟨fun _ => by omega, fun h => ?_⟩
      have : 0 < X := by
        have h1 : 1 * S ≤ T * S := Nat.mul_le_mul_right S (by omega)
        omega
      omega
  · simp only [if_true, Int.add_mul, Int.sub_mul, Int.one_mul, Int.neg_mul]
    generalize hTS : (T : Int) * (S : Int) = TS at i1 i2 ⊢
    by_cases hT0 : T = 0
    · subst hT0; simp at hTS; omega
    · refine ⟨fun h => ?_, fun _ => by omega⟩
      have : 0 < X := by
        have h1 : 1 * S ≤ T * S := Nat.mul_le_mul_right S (by omega)
        omega
      omega
/-- The float of a whole number, cut from a float. -/
theorem fti_nat {x : Nat} (hx : fin .f64 x) (hb : (val .f64 x).natAbs ≤ sc 1 52) : (fti.sv .f64 x).natAbs ≤ 4503599627370496 ∧ fti.ok.sp .i64 .f64 x = true := by
  obtain ⟨h1, h2, h3⟩ := fti_val hx
  have hone : 0 < sc 1 0 := by rw [one_big]; exact big_pos
  have e52 : sc 1 52 = 4503599627370496 * sc 1 0 := by
    have := sc_add 1 0 52 (by omega)
    rw [show (0 : Int) + ((52 : Nat) : Int) = 52 from rfl] at this
    rw [this, sc_nat]
  rw [e52] at hb
  have hn : (fti.sv .f64 x).natAbs ≤ 4503599627370496 := by
    generalize fti.sv .f64 x = n at h1 h2 h3 ⊢
    generalize sc 1 0 = S at hb hone h2 h3
    generalize val .f64 x = V at hb h2 h3
    by_cases c : 0 ≤ V
    · obtain ⟨a, b, d⟩ := h2 c
      apply Classical.byContradiction
      intro hc
      have h4 : (4503599627370497 : Int) * S ≤ n * S := Int.mul_le_mul_of_nonneg_right (by omega) (by omega)
      have h5 : (V : Int) ≤ 4503599627370496 * S := by omega
      have h6 : (4503599627370497 : Int) * S = 4503599627370496 * S + S := by rw [show (4503599627370497 : Int) = 4503599627370496 + 1 from rfl, Int.add_mul, Int.one_mul]
      omega
    · obtain ⟨a, b, d⟩ := h3 (by omega)
      apply Classical.byContradiction
      intro hc
      have h4 : n * S ≤ (-4503599627370497 : Int) * S := Int.mul_le_mul_of_nonneg_right (by omega) (by omega)
      have h5 : -(4503599627370496 * S : Int) ≤ V := by omega
      have h6 : (-4503599627370497 : Int) * S = -(4503599627370496 * S) - S := by rw [show (-4503599627370497 : Int) = -4503599627370496 - 1 from rfl, Int.sub_mul, Int.one_mul, Int.neg_mul]
      omega
  refine ⟨hn, ?_⟩
  unfold fti.ok.sp
  rw [h1]
  have e1 : IntKind.i64.min = -9223372036854775808 := by decide
  have e2 : IntKind.i64.max = 9223372036854775807 := by decide
  simp only [e1, e2, decide_eq_true_eq]
  omega
/-- Turns without whole ones. -/
def fr.sv (x : Nat) : Nat := bif FloatKind.f64.format.order (fsub .f64 x (FloatKind.f64.nearest (fti.sv .f64 x))) 0 == some Ordering.lt then fadd .f64 (fsub .f64 x (FloatKind.f64.nearest (fti.sv .f64 x))) 4607182418800017408 else fsub .f64 x (FloatKind.f64.nearest (fti.sv .f64 x))
theorem cmp_lt (a b : Int) : (some (compare a b) == some Ordering.lt) = decide (a < b) := by
  simp only [compare, compareOfLessAndEq]
  split
  · rename_i h; simp [h]
  · rename_i h
    rw [decide_eq_false h]
    split <;> rfl
theorem cmp_gt (a b : Int) : (some (compare a b) == some Ordering.gt) = decide (b < a) := by
  simp only [compare, compareOfLessAndEq]
  split
  · rename_i h; rw [decide_eq_false (by omega)]; rfl
  · split
    · rename_i h; rw [decide_eq_false (by omega)]; rfl
    · rename_i h1 h2; rw [decide_eq_true (by omega)]; rfl
theorem cmp_eq (a b : Int) : (some (compare a b) == some Ordering.eq) = decide (a = b) := by
  simp only [compare, compareOfLessAndEq]
  split
  · rename_i h; rw [decide_eq_false (by omega)]; rfl
  · split
    · rename_i h; rw [decide_eq_true h]; rfl
    · rename_i h1 h2; rw [decide_eq_false h2]; rfl
theorem fr_ok {x : Nat} (hx : fin .f64 x) (hb : (val .f64 x).natAbs ≤ sc 1 52) : fin .f64 (fr.sv x) ∧ 0 ≤ val .f64 (fr.sv x) ∧ val .f64 (fr.sv x) ≤ sc 1 0 := by
  obtain ⟨hn, _⟩ := fti_nat hx hb
  obtain ⟨_, h2, h3⟩ := fti_val hx
  have e1 : 2 * FloatKind.f64.format.binade = 9007199254740992 := by decide
  obtain ⟨k1, k2⟩ := ofInt_ok (k := .f64) (n := fti.sv .f64 x) (by omega)
  have r0 : Rep .f64 1 0 := rep64 (by omega) (by omega) (by omega)
  have z0 : Rep .f64 0 0 := rep64 (by omega) (by omega) (by omega)
  have hone : 0 < sc 1 0 := by rw [one_big]; exact big_pos
  rw [Int.add_mul, Int.one_mul] at h2
  rw [Int.sub_mul, Int.one_mul] at h3
  rw [← k2] at h2 h3
  have R := sub_rn hx k1 r0 (by omega)
  have z := sc_zero 0
  have a1 := R.le r0 (by omega)
  have a2 := R.nge r0 (by omega)
  have a3 := fun h => R.ge z0 h
  rw [z] at a3
  have ho := order_val R.fin (zero_ok .f64).1
  have hz := (zero_ok .f64).2
  unfold fr.sv
  rw [ho, cmp_lt, hz]
  generalize fsub .f64 x (FloatKind.f64.nearest (fti.sv .f64 x)) = F at R a1 a2 a3 ⊢
  by_cases c : val .f64 F < 0
  · rw [decide_eq_true c, cond_true]
    obtain ⟨o1, o2⟩ := one_ok
    have R2 := add_rn R.fin o1 r0 (by omega)
    have b1 := R2.le r0 (by omega)
    have b2 := R2.ge z0 (by rw [z]; omega)
    rw [z] at b2
    exact ⟨R2.fin, by omega, b1⟩
  · rw [decide_eq_false c, cond_false]
    exact ⟨R.fin, by omega, a1⟩
/-- A quarter is taken away. -/
theorem quarter_step {x j : Nat} (hx : fin .f64 x) (hj : j ≤ 4) (h1 : (sc 1 (-2) : Int) ≤ val .f64 x) (h2 : val .f64 x ≤ (j : Int) * (sc 1 (-2) : Int)) : fin .f64 (fsub .f64 x 4598175219545276416) ∧ 0 ≤ val .f64 (fsub .f64 x 4598175219545276416) ∧ val .f64 (fsub .f64 x 4598175219545276416) ≤ ((j - 1 : Nat) : Int) * (sc 1 (-2) : Int) := by
  obtain ⟨q1, q2⟩ := quarter_ok
  have rj : Rep .f64 (j - 1) (-2) := rep64 (by omega) (by omega) (by omega)
  have z0 : Rep .f64 0 0 := rep64 (by omega) (by omega) (by omega)
  have e := sc_nat (j - 1) (-2)
  have hpos : 0 < sc 1 (-2) := by rw [sc_pw (-2) 4998 rfl]; exact pw_pos _
  have hj1 : 1 ≤ j := by
    rcases Nat.eq_zero_or_pos j with h | h
    · subst h; simp at h2; omega
    · exact h
  obtain ⟨i, rfl⟩ : ∃ i, j = i + 1 := ⟨j - 1, by omega⟩
  simp only [Nat.add_sub_cancel] at *
  rw [show ((i + 1 : Nat) : Int) = (i : Int) + 1 from rfl, Int.add_mul, Int.one_mul] at h2
  have e' : (sc i (-2) : Int) = (i : Int) * (sc 1 (-2) : Int) := by rw [e]; push_cast; rfl
  have R := sub_rn hx q1 rj (by rw [q2]; omega)
  rw [q2] at R
  have a1 := R.le rj (by omega)
  have a2 := R.ge z0 (by rw [sc_zero]; omega)
  rw [sc_zero] at a2
  exact ⟨R.fin, by omega, by omega⟩
end fl


namespace fl
def isf.sp (x : Nat) : Bool := FloatKind.f64.format.order (fsub .f64 x x) 0 == some Ordering.eq
def abs.sv (x : Nat) : Nat := x % 9223372036854775808
def ge.sp (x y : Nat) : Bool := FloatKind.f64.format.order x y == some Ordering.gt || FloatKind.f64.format.order x y == some Ordering.eq
def le.sp (x y : Nat) : Bool := FloatKind.f64.format.order x y == some Ordering.lt || FloatKind.f64.format.order x y == some Ordering.eq
def gt.sp (x y : Nat) : Bool := FloatKind.f64.format.order x y == some Ordering.gt
def small.sp (x : Nat) : Bool := isf.sp x && (!ge.sp x 4841369599423283200 && (!le.sp x 14064741636278059008 && fti.ok.sp .i64 .f64 x))
/-- The divisors of the sine's series. -/
def den (k : Nat) : Nat := FloatKind.f64.nearest ((2 * k * (2 * k + 1) : Nat) : Int)
def pk.sv (u : Nat) : Nat → Nat → Nat
  | 0, p => p
  | k + 1, p => pk.sv u k (fsub .f64 4607182418800017408 (fdiv .f64 (fmul .f64 u p) (den (k + 1))))
def t.sp (x : Nat) : Bool := ge.sp (fr.sv x) 4602678819172646912
def f1.sv (x : Nat) : Nat := bif t.sp x then fsub .f64 (fr.sv x) 4602678819172646912 else fr.sv x
def f2.sv (x : Nat) : Nat := bif gt.sp (f1.sv x) 4598175219545276416 then fsub .f64 4602678819172646912 (f1.sv x) else f1.sv x
def z.sv (x : Nat) : Nat := fmul .f64 (f2.sv x) 4618760256179416344
def u.sv (x : Nat) : Nat := fmul .f64 (z.sv x) (z.sv x)
def sn.sv (x : Nat) : Nat := bif t.sp x then Op.negFloat .f64 (fmul .f64 (z.sv x) (pk.sv (u.sv x) 8 4607182418800017408)) else fmul .f64 (z.sv x) (pk.sv (u.sv x) 8 4607182418800017408)
/-- Quarters taken away: what is left, and how many. -/
def qg.sv : Nat → Nat → Nat
  | 0, g => g
  | d + 1, g => bif ge.sp g 4598175219545276416 then qg.sv d (fsub .f64 g 4598175219545276416) else g
def qq.sv : Nat → Nat → Nat → Nat
  | 0, _, q => q
  | d + 1, g, q => bif ge.sp g 4598175219545276416 then qq.sv d (fsub .f64 g 4598175219545276416) (q + 1) else q
def g.sv (x : Nat) : Nat := qg.sv 4 (fr.sv x)
def q.sv (x : Nat) : Nat := qq.sv 4 (fr.sv x) 0
def c.sv (x : Nat) : Nat := sn.sv (fsub .f64 4598175219545276416 (g.sv x))
def s.sv (x : Nat) : Nat := sn.sv (g.sv x)
def wide.sp (x : Nat) : Bool := ge.sp x 4841369599423283200 || le.sp x 14064741636278059008
def re.sv (x : Nat) : Nat := bif wide.sp x then 1065353216 else nar.sv (bif q.sv x == 1 then fsub .f64 0 (s.sv x) else bif q.sv x == 2 then fsub .f64 0 (c.sv x) else bif q.sv x == 3 then s.sv x else c.sv x)
def im.sv (x : Nat) : Nat := bif wide.sp x then 0 else nar.sv (bif q.sv x == 1 then c.sv x else bif q.sv x == 2 then fsub .f64 0 (s.sv x) else bif q.sv x == 3 then fsub .f64 0 (c.sv x) else s.sv x)
def ok.sp (x : Nat) : Bool := num64.sp x && decide (x < 18446744073709551616)
theorem num_fin {x : Nat} (h : num64.sp x = true) : fin .f64 x := by
  unfold num64.sp at h
  split at h
  · rename_i s m e hd; exact ⟨s, m, e, hd⟩
  · cases h
theorem fin_num {x : Nat} (h : fin .f64 x) : num64.sp x = true := by
  obtain ⟨s, m, e, hd⟩ := h
  unfold num64.sp; rw [hd]
theorem ge_val {x y : Nat} (hx : fin .f64 x) (hy : fin .f64 y) : ge.sp x y = decide (val .f64 y ≤ val .f64 x) := by
  unfold ge.sp
  rw [order_val hx hy, cmp_gt, cmp_eq]
  by_cases h1 : val .f64 y < val .f64 x
  · simp [h1]; omega
  · by_cases h2 : val .f64 x = val .f64 y
    · simp [h2]
    · simp [h1, h2]; omega
theorem le_val {x y : Nat} (hx : fin .f64 x) (hy : fin .f64 y) : le.sp x y = decide (val .f64 x ≤ val .f64 y) := by
  unfold le.sp
  rw [order_val hx hy, cmp_lt, cmp_eq]
  by_cases h1 : val .f64 x < val .f64 y
  · simp [h1]; omega
  · by_cases h2 : val .f64 x = val .f64 y
    · simp [h2]
    · simp [h1, h2]; omega
theorem gt_val {x y : Nat} (hx : fin .f64 x) (hy : fin .f64 y) : gt.sp x y = decide (val .f64 y < val .f64 x) := by
  unfold gt.sp
  rw [order_val hx hy, cmp_gt]
theorem isf_ok {x : Nat} (hx : fin .f64 x) : isf.sp x = true := by
  have z0 : Rep .f64 0 0 := rep64 (by omega) (by omega) (by omega)
  have R := sub_rn hx hx z0 (by omega)
  have a := R.le z0 (by omega)
  have b := R.ge z0 (by rw [sc_zero]; omega)
  rw [sc_zero] at a b
  unfold isf.sp
  rw [order_val R.fin (zero_ok .f64).1, cmp_eq, (zero_ok .f64).2]
  exact decide_eq_true (by omega)
theorem one_le_wide : sc 1 0 < sc 1 52 := by
  have h := sc_add 1 0 52 (by omega)
  rw [show (0 : Int) + ((52 : Nat) : Int) = 52 from rfl, Nat.one_mul] at h
  rw [h, sc_lt]; decide
theorem small_of {y : Nat} (hy : fin .f64 y) (hb : (val .f64 y).natAbs ≤ sc 1 0) : small.sp y = true := by
  have h1 := one_le_wide
  unfold small.sp
  rw [isf_ok hy, ge_val hy wide_ok.1, le_val hy nwide_ok.1, wide_ok.2, nwide_ok.2, (fti_nat hy (by omega)).2]
  rw [decide_eq_false (by omega), decide_eq_false (by omega)]
  rfl
theorem unit4 : sc 1 0 = 4 * sc 1 (-2) := by
  have h := sc_add 1 (-2) 2 (by omega)
  rw [show (-2 : Int) + ((2 : Nat) : Int) = 0 from rfl, Nat.one_mul] at h
  rw [h, sc_nat]
theorem unit_pos : 0 < sc 1 (-2) := by rw [sc_pw (-2) 4998 rfl]; exact pw_pos _
/-- What is left of the quarters. -/
theorem qg_ok : ∀ (d g : Nat), d ≤ 4 → fin .f64 g → 0 ≤ val .f64 g → val .f64 g ≤ (d : Int) * (sc 1 (-2) : Int) → fin .f64 (qg.sv d g) ∧ 0 ≤ val .f64 (qg.sv d g) ∧ (val .f64 (qg.sv d g) < sc 1 (-2)) := by
  intro d
  induction d with
  | zero =>
    intro g _ hg h0 h1
    simp only [qg.sv]
    have := unit_pos
    simp at h1
    exact ⟨hg, h0, by omega⟩
  | succ d ih =>
    intro g hd hg h0 h1
    simp only [qg.sv]
    rw [ge_val hg quarter_ok.1, quarter_ok.2]
    by_cases c : (sc 1 (-2) : Int) ≤ val .f64 g
    · rw [decide_eq_true c, cond_true]
      obtain ⟨a1, a2, a3⟩ := quarter_step hg hd c h1
      exact ih _ (by omega) a1 a2 a3
    · rw [decide_eq_false c, cond_false]
      exact ⟨hg, h0, by omega⟩
theorem g_ok {x : Nat} (hx : fin .f64 x) (hb : (val .f64 x).natAbs ≤ sc 1 52) : fin .f64 (g.sv x) ∧ 0 ≤ val .f64 (g.sv x) ∧ (val .f64 (g.sv x) < sc 1 (-2)) := by
  obtain ⟨a1, a2, a3⟩ := fr_ok hx hb
  exact qg_ok 4 _ (by omega) a1 a2 (by rw [unit4] at a3; push_cast at a3; omega)
theorem c_ok {y : Nat} (hy : fin .f64 y) (h0 : 0 ≤ val .f64 y) (h1 : val .f64 y < sc 1 (-2)) : fin .f64 (fsub .f64 4598175219545276416 y) ∧ (val .f64 (fsub .f64 4598175219545276416 y)).natAbs ≤ sc 1 0 := by
  have r0 : Rep .f64 1 (-2) := rep64 (by omega) (by omega) (by omega)
  have hq := quarter_ok
  have R := sub_rn hq.1 hy r0 (by rw [hq.2]; omega)
  rw [hq.2] at R
  have a1 := R.le r0 (by omega)
  have a2 := R.nge r0 (by omega)
  have := unit4
  exact ⟨R.fin, by omega⟩
/-- One step of the sine's series. -/
theorem p_step {u p d D : Nat} {e g : Nat} (hu : fin .f64 u) (hub : (val .f64 u).natAbs ≤ sc 1 8) (hp : fin .f64 p) (hpb : (val .f64 p).natAbs ≤ sc 1 (e : Int)) (hd : fin .f64 d) (hdv : val .f64 d = (D : Int) * (sc 1 0 : Int)) (hD : 2 ^ g ≤ D) (hg : g ≤ e + 8) (he : e ≤ 100) :
    fin .f64 (fsub .f64 4607182418800017408 (fdiv .f64 (fmul .f64 u p) d)) ∧ (val .f64 (fsub .f64 4607182418800017408 (fdiv .f64 (fmul .f64 u p) d))).natAbs ≤ sc 1 ((e + 8 - g + 1 : Nat) : Int) := by
  have r1 : Rep .f64 1 ((e + 8 : Nat) : Int) := rep64 (by omega) (by omega) (by omega)
  have r2 : Rep .f64 1 ((e + 8 - g : Nat) : Int) := rep64 (by omega) (by omega) (by omega)
  have r3 : Rep .f64 1 ((e + 8 - g + 1 : Nat) : Int) := rep64 (by omega) (by omega) (by omega)
  obtain ⟨m1, m2⟩ := mul_rn hu hp (A := 1) (B := 1) (a := 8) (b := (e : Int)) (by omega) (by omega) hub hpb r1 (by rw [Nat.one_mul, show (8 : Int) + (e : Int) = ((e + 8 : Nat) : Int) from by omega]; exact Nat.le_refl _)
  have hone : 0 < sc 1 0 := by rw [one_big]; exact big_pos
  have hdn : (val .f64 d).natAbs = D * sc 1 0 := by
    rw [hdv, Int.natAbs_mul, Int.natAbs_natCast, Int.natAbs_natCast]
  have hD0 : 0 < D := Nat.lt_of_lt_of_le (Nat.two_pow_pos g) hD
  have hd0 : val .f64 d ≠ 0 := by
    intro h
    have : (val .f64 d).natAbs = 0 := by rw [h]; rfl
    rw [hdn] at this
    have := Nat.mul_pos hD0 hone
    omega
  obtain ⟨d1, d2⟩ := div_rn m1 hd hd0 r2 (by
    rw [hdn, ← one_big]
    have e1 : sc 1 ((e + 8 : Nat) : Int) = sc 1 ((e + 8 - g : Nat) : Int) * 2 ^ g := by
      have h := sc_add 1 ((e + 8 - g : Nat) : Int) g (by omega)
      rw [show ((e + 8 - g : Nat) : Int) + (g : Int) = ((e + 8 : Nat) : Int) from by omega, Nat.one_mul] at h
      rw [h, sc_nat, Nat.mul_comm]
    rw [← Nat.mul_assoc]
    refine Nat.mul_le_mul_right _ (Nat.le_trans m2 ?_)
    rw [e1]
    exact Nat.mul_le_mul_left _ hD)
  have hs := sc_double ((e + 8 - g : Nat) : Int) (by omega)
  have hm : sc 1 0 ≤ sc 1 ((e + 8 - g : Nat) : Int) := sc_mono (by omega) (by omega)
  have e3 : ((e + 8 - g + 1 : Nat) : Int) = ((e + 8 - g : Nat) : Int) + 1 := by omega
  rw [← e3] at hs
  have ho := one_ok
  have R := sub_rn ho.1 d1 r3 (by rw [ho.2]; omega)
  rw [ho.2] at R
  have a1 := R.le r3 (by omega)
  have a2 := R.nge r3 (by omega)
  exact ⟨R.fin, by omega⟩
theorem den_ok {k : Nat} (h : k ≤ 8) : fin .f64 (den k) ∧ val .f64 (den k) = ((2 * k * (2 * k + 1) : Nat) : Int) * (sc 1 0 : Int) := by
  have e1 : 2 * FloatKind.f64.format.binade = 9007199254740992 := by decide
  refine ofInt_ok ?_
  rw [Int.natAbs_natCast, e1]
  have : k * (2 * k + 1) ≤ 8 * 17 := Nat.mul_le_mul h (by omega)
  rw [Nat.mul_assoc]
  omega
theorem pk_ok {u p : Nat} (hu : fin .f64 u) (hub : (val .f64 u).natAbs ≤ sc 1 8) (hp : fin .f64 p) (hpb : (val .f64 p).natAbs ≤ sc 1 (0 : Nat)) : fin .f64 (pk.sv u 8 p) ∧ (val .f64 (pk.sv u 8 p)).natAbs ≤ sc 1 (27 : Nat) := by
  obtain ⟨a1, b1⟩ := p_step (e := 0) (g := 8) (D := 2 * 8 * (2 * 8 + 1)) hu hub hp hpb (den_ok (k := 8) (by omega)).1 (den_ok (k := 8) (by omega)).2 (by decide) (by omega) (by omega)
  obtain ⟨a2, b2⟩ := p_step (e := 1) (g := 7) (D := 2 * 7 * (2 * 7 + 1)) hu hub a1 b1 (den_ok (k := 7) (by omega)).1 (den_ok (k := 7) (by omega)).2 (by decide) (by omega) (by omega)
  obtain ⟨a3, b3⟩ := p_step (e := 3) (g := 7) (D := 2 * 6 * (2 * 6 + 1)) hu hub a2 b2 (den_ok (k := 6) (by omega)).1 (den_ok (k := 6) (by omega)).2 (by decide) (by omega) (by omega)
  obtain ⟨a4, b4⟩ := p_step (e := 5) (g := 6) (D := 2 * 5 * (2 * 5 + 1)) hu hub a3 b3 (den_ok (k := 5) (by omega)).1 (den_ok (k := 5) (by omega)).2 (by decide) (by omega) (by omega)
  obtain ⟨a5, b5⟩ := p_step (e := 8) (g := 6) (D := 2 * 4 * (2 * 4 + 1)) hu hub a4 b4 (den_ok (k := 4) (by omega)).1 (den_ok (k := 4) (by omega)).2 (by decide) (by omega) (by omega)
  obtain ⟨a6, b6⟩ := p_step (e := 11) (g := 5) (D := 2 * 3 * (2 * 3 + 1)) hu hub a5 b5 (den_ok (k := 3) (by omega)).1 (den_ok (k := 3) (by omega)).2 (by decide) (by omega) (by omega)
  obtain ⟨a7, b7⟩ := p_step (e := 15) (g := 4) (D := 2 * 2 * (2 * 2 + 1)) hu hub a6 b6 (den_ok (k := 2) (by omega)).1 (den_ok (k := 2) (by omega)).2 (by decide) (by omega) (by omega)
  obtain ⟨a8, b8⟩ := p_step (e := 20) (g := 2) (D := 2 * 1 * (2 * 1 + 1)) hu hub a7 b7 (den_ok (k := 1) (by omega)).1 (den_ok (k := 1) (by omega)).2 (by decide) (by omega) (by omega)
  exact ⟨a8, b8⟩
theorem neg_ok {x : Nat} (hx : fin .f64 x) : fin .f64 (Op.negFloat .f64 x) ∧ val .f64 (Op.negFloat .f64 x) = -(val .f64 x) := by
  obtain ⟨s, m, e, hd⟩ := hx
  have e0 : FloatKind.f64.format.exponentBits + FloatKind.f64.format.fractionBits = 63 := by decide
  have eS : FloatKind.f64.format.signWeight = 2 ^ 63 := by decide
  have h1 : Op.negFloat .f64 x % 2 ^ 63 = x % 2 ^ 63 := by
    unfold Op.negFloat
    rw [e0, Nat.xor_mod_two_pow, Nat.mod_self, Nat.xor_zero]
  have h2 : Op.negFloat .f64 x / 2 ^ 63 % 2 = 1 - x / 2 ^ 63 % 2 := by
    unfold Op.negFloat
    rw [e0, ← Nat.shiftRight_eq_div_pow, Nat.shiftRight_xor_distrib, Nat.shiftRight_eq_div_pow, Nat.shiftRight_eq_div_pow, Nat.div_self (Nat.two_pow_pos 63)]
    have : (x / 2 ^ 63 ^^^ 1) % 2 = (x / 2 ^ 63 % 2) ^^^ (1 % 2) := Nat.xor_mod_two_pow (n := 1)
    rw [this]
    rcases Nat.mod_two_eq_zero_or_one (x / 2 ^ 63) with h | h <;> rw [h] <;> rfl
  have hd' : FloatKind.f64.decode (Op.negFloat .f64 x) = .number (!s) m e := by
    unfold FloatKind.decode Ieee.Format.read at hd ⊢
    simp only [eS] at hd ⊢
    rw [h1, h2]
    have hb : ((1 - x / 2 ^ 63 % 2) == 1) = !(x / 2 ^ 63 % 2 == 1) := by
      rcases Nat.mod_two_eq_zero_or_one (x / 2 ^ 63) with h | h <;> rw [h] <;> rfl
    rw [hb]
    split at hd
    · rename_i hc; rw [if_pos hc]; simp only [Ieee.Datum.number.injEq] at hd ⊢; obtain ⟨rfl, rfl, rfl⟩ := hd; exact ⟨rfl, rfl, rfl⟩
    · rename_i hc
      rw [if_neg hc]
      split at hd
      · rename_i hc2; rw [if_pos hc2]; simp only [Ieee.Datum.number.injEq] at hd ⊢; obtain ⟨rfl, rfl, rfl⟩ := hd; exact ⟨rfl, rfl, rfl⟩
      · split at hd <;> cases hd
  refine ⟨⟨_, _, _, hd'⟩, ?_⟩
  rw [val_eq hd', val_eq hd]
  unfold sv; cases s <;> simp
/-- The sine is a number, of a moderate size. -/
theorem sn_ok {y : Nat} (hy : fin .f64 y) (hb : (val .f64 y).natAbs ≤ sc 1 52) : fin .f64 (sn.sv y) ∧ (val .f64 (sn.sv y)).natAbs ≤ sc 1 (31 : Nat) := by
  obtain ⟨a1, a2, a3⟩ := fr_ok hy hb
  have r0 : Rep .f64 1 0 := rep64 (by omega) (by omega) (by omega)
  have r1 : Rep .f64 1 1 := rep64 (by omega) (by omega) (by omega)
  have r4 : Rep .f64 1 4 := rep64 (by omega) (by omega) (by omega)
  have r8 : Rep .f64 1 8 := rep64 (by omega) (by omega) (by omega)
  have r31 : Rep .f64 1 (31 : Nat) := rep64 (by omega) (by omega) (by omega)
  have hh := half_ok
  have hhalf : sc 1 0 = 2 * sc 1 (-1) := by
    have h := sc_double (-1) (by omega)
    rw [show (-1 : Int) + 1 = 0 from rfl] at h
    exact h
  have htwo : sc 1 1 = 2 * sc 1 0 := by
    have h := sc_double 0 (by omega)
    rw [show (0 : Int) + 1 = 1 from rfl] at h
    exact h
  have hf1 : fin .f64 (f1.sv y) ∧ (val .f64 (f1.sv y)).natAbs ≤ sc 1 0 := by
    unfold f1.sv
    cases t.sp y
    · exact ⟨a1, by rw [cond_false]; omega⟩
    · rw [cond_true]
      have R := sub_rn a1 hh.1 r0 (by rw [hh.2]; omega)
      rw [hh.2] at R
      have b1 := R.le r0 (by omega)
      have b2 := R.nge r0 (by omega)
      exact ⟨R.fin, by omega⟩
  have hf2 : fin .f64 (f2.sv y) ∧ (val .f64 (f2.sv y)).natAbs ≤ sc 1 1 := by
    unfold f2.sv
    cases gt.sp (f1.sv y) 4598175219545276416
    · exact ⟨hf1.1, by rw [cond_false]; omega⟩
    · rw [cond_true]
      have R := sub_rn hh.1 hf1.1 r1 (by rw [hh.2]; omega)
      rw [hh.2] at R
      have b1 := R.le r1 (by omega)
      have b2 := R.nge r1 (by omega)
      exact ⟨R.fin, by omega⟩
  obtain ⟨z1, z2⟩ := mul_rn hf2.1 turn_ok.1 (A := 1) (B := 1) (a := 1) (b := 3) (by omega) (by omega) hf2.2 turn_ok.2 r4 (by rw [Nat.one_mul]; exact Nat.le_refl _)
  obtain ⟨u1, u2⟩ := mul_rn z1 z1 (A := 1) (B := 1) (a := 4) (b := 4) (by omega) (by omega) z2 z2 r8 (by rw [Nat.one_mul]; exact Nat.le_refl _)
  obtain ⟨p1, p2⟩ := pk_ok u1 u2 one_ok.1 (by rw [one_ok.2, Int.natAbs_natCast]; exact Nat.le_refl _)
  obtain ⟨v1, v2⟩ := mul_rn z1 p1 (A := 1) (B := 1) (a := 4) (b := ((27 : Nat) : Int)) (by omega) (by omega) z2 p2 r31 (by rw [Nat.one_mul]; exact Nat.le_refl _)
  obtain ⟨n1, n2⟩ := neg_ok v1
  unfold sn.sv
  cases t.sp y
  · exact ⟨v1, v2⟩
  · exact ⟨n1, by rw [cond_true]; unfold u.sv z.sv; rw [n2]; rw [Int.natAbs_neg]; exact v2⟩
/-- To single. -/
theorem nar_rn {x M : Nat} {q : Int} (hx : fin .f64 x) (hr : Rep .f32 M q) (hb : (val .f64 x).natAbs ≤ sc M q) : nar.ok.sp x = true ∧ fin .f32 (nar.sv x) ∧ (val .f32 (nar.sv x)).natAbs ≤ sc M q := by
  obtain ⟨s, m, e, hd⟩ := hx
  have pe := place_of hd
  have hl := least_ge .f64
  rw [val_bound hd] at hb
  have R := write_rn (k := .f32) (s := s) (by omega) hr hb
  obtain ⟨s', m', e', hd'⟩ := R.fin
  have hn : nar.sv x = FloatKind.f32.encode (.number s m e) := by unfold nar.sv; rw [hd]
  have a1 := R.le hr (by have := sv_abs s m e; omega)
  have a2 := R.nge hr (by have := sv_abs s m e; omega)
  refine ⟨?_, by rw [hn]; exact R.fin, by rw [hn]; omega⟩
  unfold nar.ok.sp
  rw [hd]
  simp only [hd']
  rfl
end fl

end Go.Proofs.YtjhofofieiiplaaGreatDoor.Ab
