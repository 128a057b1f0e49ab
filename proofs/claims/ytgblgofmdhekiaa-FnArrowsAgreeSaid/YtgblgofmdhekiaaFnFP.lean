/-
  Functions: how far floats are from what they stand for.
-/
import Derived.Test.YtgblgofmdhekiaaFnL
namespace Go.Proofs.Ytgblgofmdhekiaa.Ab
open Go
set_option linter.unusedVariables false
set_option linter.unusedSimpArgs false
set_option maxRecDepth 100000

namespace fp
open Ieee

theorem shl (n k : Nat) : n <<< k = n * 2 ^ k := Nat.shiftLeft_eq n k
theorem log2_le {n : Nat} (h : n ≠ 0) : 2 ^ n.log2 ≤ n := Nat.log2_self_le h
theorem lt_log2 (n : Nat) : n < 2 ^ (n.log2 + 1) := Nat.lt_log2_self

/-- What is cut off is half a unit at most. -/
theorem cut_err (neg : Bool) (n drop : Nat) : 2 * (Toward.even.cut neg n drop * 2 ^ drop) ≤ 2 * n + 2 ^ drop ∧ 2 * n ≤ 2 * (Toward.even.cut neg n drop * 2 ^ drop) + 2 ^ drop := by
  unfold Toward.cut
  rcases Nat.lt_or_ge (n.log2 + 2) drop with h | h
  · rw [Nat.min_eq_right (by omega)]
    have h1 := lt_log2 n
    have e : 1 <<< (n.log2 + 2) = 2 * 2 ^ (n.log2 + 1) := by rw [shl, Nat.one_mul, Nat.pow_succ 2 (n.log2 + 1)]; omega
    rw [e]
    have d : n / (2 * 2 ^ (n.log2 + 1)) = 0 := Nat.div_eq_of_lt (by omega)
    have m : n % (2 * 2 ^ (n.log2 + 1)) = n := Nat.mod_eq_of_lt (by omega)
    simp only [d, m]
    have c1 : decide (2 * 2 ^ (n.log2 + 1) < 2 * n) = false := decide_eq_false (by omega)
    have c2 : (2 * 2 ^ (n.log2 + 1) == 2 * n) = false := beq_eq_false_iff_ne.2 (by omega)
    simp only [c1, c2, Bool.false_or, Bool.false_and, Bool.toNat_false, Nat.zero_add, Nat.zero_mul, Nat.mul_zero]
    have h3 : 2 ^ (n.log2 + 2) ≤ 2 ^ drop := Nat.pow_le_pow_right (by omega) (by omega)
    have h4 : 2 ^ (n.log2 + 2) = 2 * 2 ^ (n.log2 + 1) := by rw [Nat.pow_succ 2 (n.log2 + 1)]; omega
    omega
  · rw [Nat.min_eq_left (by omega)]
    have e : 1 <<< drop = 2 ^ drop := by rw [shl, Nat.one_mul]
    rw [e]
    generalize hg : 2 ^ drop = g
    have hp : 0 < g := by rw [← hg]; exact Nat.two_pow_pos _
    have dm := Nat.div_add_mod n g
    have ml := Nat.mod_lt n hp
    dsimp only
    generalize n / g = q at *
    generalize n % g = r at *
    have key : ∀ b : Bool, (b = true → g ≤ 2 * r) → (b = false → 2 * r ≤ g) → 2 * ((q + b.toNat) * g) ≤ 2 * n + g ∧ 2 * n ≤ 2 * ((q + b.toNat) * g) + g := by
      intro b h1 h2
      rw [Nat.add_mul, Nat.mul_comm q g]
      cases b
      · have := h2 rfl
        simp only [Bool.toNat_false, Nat.zero_mul]
        omega
      · have := h1 rfl
        simp only [Bool.toNat_true, Nat.one_mul]
        omega
    refine key _ (fun h => ?_) (fun h => ?_)
    · simp only [Bool.or_eq_true, Bool.and_eq_true, decide_eq_true_eq, beq_iff_eq] at h
      omega
    · simp only [Bool.or_eq_false_iff, decide_eq_false_iff_not] at h
      omega
/-- What is whole is not changed. -/
theorem cut_exact (neg : Bool) (q drop : Nat) : Toward.even.cut neg (q * 2 ^ drop) drop = q := by
  have hp : 0 < 2 ^ drop := Nat.two_pow_pos _
  obtain ⟨h1, h2⟩ := cut_err neg (q * 2 ^ drop) drop
  generalize Toward.even.cut neg (q * 2 ^ drop) drop = c at *
  generalize 2 ^ drop = g at *
  rcases Nat.lt_trichotomy c q with h | h | h
  · have : (c + 1) * g ≤ q * g := Nat.mul_le_mul_right g h
    rw [Nat.add_mul, Nat.one_mul] at this
    omega
  · exact h
  · have : (q + 1) * g ≤ c * g := Nat.mul_le_mul_right g h
    rw [Nat.add_mul, Nat.one_mul] at this
    omega


/-! ### A word that is the nearest one -/

/-- The number of a word: so many units of so great a place. -/
structure Num (f : Format) (w : Nat) (neg : Bool) (m : Nat) (e : Int) : Prop where
  rd : f.read w = .number neg m e
  lo : f.leastPlace ≤ e

theorem read_word {f : Format} {neg : Bool} {rung : Nat} (h : rung < f.infRung) (hs : f.infRung < f.signWeight) : f.read (f.word neg rung) =
    if rung < f.binade then .number neg rung f.leastPlace else .number neg (f.binade + rung % f.binade) (f.leastPlace + (rung / f.binade - 1 : Nat)) := by
  have hp : 0 < f.signWeight := Nat.two_pow_pos _
  have h1 : f.word neg rung / f.signWeight % 2 = (if neg then 1 else 0) := by
    unfold Format.word
    cases neg
    · simp only [Bool.false_eq_true, if_false]
      rw [Nat.div_eq_of_lt (by omega)]
    · simp only [if_true]
      rw [Nat.add_div_left _ hp, Nat.div_eq_of_lt (by omega)]
  have h2 : f.word neg rung % f.signWeight = rung := by
    unfold Format.word
    cases neg
    · simp only [Bool.false_eq_true, if_false]; exact Nat.mod_eq_of_lt (by omega)
    · simp only [if_true]; rw [Nat.add_mod_left]; exact Nat.mod_eq_of_lt (by omega)
  unfold Format.read
  simp only [h1, h2]
  have h3 : ((if neg = true then 1 else 0) == 1) = neg := by cases neg <;> rfl
  rw [h3]
  split
  · rfl
  · first | rfl | rw [if_pos h]

/-- The rungs, read: a rung made of a binade's number and a full significand. -/
theorem read_rung {f : Format} {neg : Bool} {k c : Nat} (hk : k = 0 ∨ f.binade ≤ c) (hc : c ≤ 2 * f.binade) (h : k * f.binade + c < f.infRung) (hs : f.infRung < f.signWeight) :
    ∃ (m : Nat) (j : Nat), f.read (f.word neg (k * f.binade + c)) = .number neg m (f.leastPlace + j) ∧ m * 2 ^ j = c * 2 ^ k := by
  have hb : 0 < f.binade := Nat.two_pow_pos _
  rw [read_word h hs]
  generalize f.binade = B at *
  by_cases c0 : k * B + c < B
  · rw [if_pos c0]
    have hk0 : k = 0 := by
      rcases hk with h | h
      · exact h
      · exact absurd h (by omega)
    subst hk0
    exact ⟨c, 0, by simp, by simp⟩
  · rw [if_neg c0]
    rcases Nat.lt_or_ge c B with c1 | c1
    · exfalso
      rcases hk with h | h
      · subst h; simp at c0; omega
      · omega
    · rcases Nat.lt_or_ge c (2 * B) with c2 | c2
      · have e1 : (k * B + c) / B = k + 1 := by
          rw [Nat.add_comm, Nat.add_mul_div_right _ _ hb]
          have : c / B = 1 := Nat.div_eq_of_lt_le (by omega) (by omega)
          omega
        have e2 : (k * B + c) % B = c - B := by
          rw [Nat.add_comm, Nat.add_mul_mod_self_right]
          rw [Nat.mod_eq_sub_mod c1, Nat.mod_eq_of_lt (by omega)]
        rw [e1, e2]
        exact ⟨B + (c - B), k, by simp, by rw [show B + (c - B) = c by omega]⟩
      · obtain rfl : c = 2 * B := by omega
        have e1 : (k * B + 2 * B) / B = k + 2 := by
          rw [← Nat.add_mul, Nat.mul_div_cancel _ hb]
        have e2 : (k * B + 2 * B) % B = 0 := by rw [← Nat.add_mul, Nat.mul_mod_left]
        rw [e1, e2]
        refine ⟨B + 0, k + 1, by simp, ?_⟩
        rw [Nat.pow_succ]
        have : B * (2 ^ k * 2) = 2 * B * 2 ^ k := by rw [Nat.mul_comm (2 ^ k) 2, ← Nat.mul_assoc, Nat.mul_comm B 2]
        simpa using this


/-- What is kept of a number, and the place of its last digit. -/
def lst (f : Format) (m : Nat) (p : Int) : Int := max (p + m.log2 - f.fractionBits) f.leastPlace
def kep (f : Format) (neg : Bool) (m : Nat) (p : Int) : Nat := Toward.even.cut neg (m <<< (p - lst f m p).toNat) (lst f m p - p).toNat
theorem pow_add' (a b : Nat) : 2 ^ (a + b) = 2 ^ a * 2 ^ b := Nat.pow_add 2 a b

theorem kep_ok {f : Format} {neg : Bool} {m : Nat} {p : Int} (hm : m ≠ 0) : kep f neg m p ≤ 2 * f.binade ∧ (f.leastPlace < lst f m p → f.binade ≤ kep f neg m p) ∧
    (∀ b : Int, b ≤ p → b ≤ f.leastPlace → 2 * (kep f neg m p * 2 ^ (lst f m p - b).toNat) ≤ 2 * (m * 2 ^ (p - b).toNat) + 2 ^ (lst f m p - b).toNat ∧ 2 * (m * 2 ^ (p - b).toNat) ≤ 2 * (kep f neg m p * 2 ^ (lst f m p - b).toNat) + 2 ^ (lst f m p - b).toNat) := by
  have l1 := log2_le hm
  have l2 := lt_log2 m
  have hlst : lst f m p = max (p + m.log2 - f.fractionBits) f.leastPlace := rfl
  unfold kep
  generalize lst f m p = L at *
  have hL1 : p + m.log2 - f.fractionBits ≤ L := by omega
  have hL2 : f.leastPlace ≤ L := by omega
  have hL3 : f.leastPlace < L → L = p + m.log2 - f.fractionBits := by omega
  unfold Format.binade
  generalize f.fractionBits = fb at *
  generalize f.leastPlace = lp at *
  generalize m.log2 = g at *
  rcases Int.le_total L p with h | h
  · have e1 : (L - p).toNat = 0 := by omega
    obtain ⟨a, ha⟩ : ∃ a : Nat, p = L + a := ⟨(p - L).toNat, by omega⟩
    have e2 : (p - L).toNat = a := by omega
    rw [e1, e2, shl]
    have e3 : Toward.even.cut neg (m * 2 ^ a) 0 = m * 2 ^ a := by
      have := cut_exact neg (m * 2 ^ a) 0
      simpa using this
    rw [e3]
    have hag : a + g ≤ fb := by omega
    refine ⟨?_, fun hh => ?_, fun b hb1 hb2 => ?_⟩
    · have h1 : m * 2 ^ a < 2 ^ (g + 1) * 2 ^ a := Nat.mul_lt_mul_of_pos_right l2 (Nat.two_pow_pos _)
      rw [← pow_add'] at h1
      have h2 : 2 ^ (g + 1 + a) ≤ 2 ^ (fb + 1) := Nat.pow_le_pow_right (by omega) (by omega)
      rw [Nat.pow_succ 2 fb] at h2
      omega
    · have := hL3 hh
      have h1 : 2 ^ g * 2 ^ a ≤ m * 2 ^ a := Nat.mul_le_mul_right _ l1
      rw [← pow_add', show g + a = fb by omega] at h1
      exact h1
    · have e4 : (p - b).toNat = a + (L - b).toNat := by omega
      rw [e4, pow_add', show m * (2 ^ a * 2 ^ (L - b).toNat) = m * 2 ^ a * 2 ^ (L - b).toNat from (Nat.mul_assoc _ _ _).symm]
      exact ⟨Nat.le_add_right _ _, Nat.le_add_right _ _⟩
  · obtain ⟨d, hd⟩ : ∃ d : Nat, L = p + d := ⟨(L - p).toNat, by omega⟩
    have e1 : (L - p).toNat = d := by omega
    have e2 : (p - L).toNat = 0 := by omega
    rw [e1, e2, shl, Nat.pow_zero, Nat.mul_one]
    obtain ⟨c1, c2⟩ := cut_err neg m d
    generalize Toward.even.cut neg m d = c at *
    have hp : 0 < 2 ^ d := Nat.two_pow_pos _
    refine ⟨?_, fun hh => ?_, fun b hb1 hb2 => ?_⟩
    · have h2 : 2 ^ (g + 1) ≤ 2 ^ (fb + 1 + d) := Nat.pow_le_pow_right (by omega) (by omega)
      rw [pow_add' (fb + 1) d, Nat.pow_succ 2 fb] at h2
      rw [Nat.mul_comm 2 (2 ^ fb)]
      rcases Nat.lt_or_ge (2 ^ fb * 2) c with hc | hc
      · have : (2 ^ fb * 2 + 1) * 2 ^ d ≤ c * 2 ^ d := Nat.mul_le_mul_right _ hc
        rw [Nat.add_mul, Nat.one_mul] at this
        omega
      · exact hc
    · have := hL3 hh
      have h1 : 2 ^ (fb + d) ≤ m := by rw [show fb + d = g by omega]; exact l1
      rw [pow_add'] at h1
      rcases Nat.lt_or_ge c (2 ^ fb) with hc | hc
      · have : (c + 1) * 2 ^ d ≤ 2 ^ fb * 2 ^ d := Nat.mul_le_mul_right _ hc
        rw [Nat.add_mul, Nat.one_mul] at this
        omega
      · exact hc
    · have e4 : (L - b).toNat = d + (p - b).toNat := by omega
      rw [e4, pow_add']
      generalize 2 ^ (p - b).toNat = w
      have h1 := Nat.mul_le_mul_right w c1
      have h2 := Nat.mul_le_mul_right w c2
      simp only [Nat.add_mul, Nat.mul_assoc] at h1 h2
      exact ⟨by simpa [Nat.mul_assoc] using h1, by simpa [Nat.mul_assoc] using h2⟩

/-- The nearest word of a number, read. -/
theorem near_read {f : Format} {neg : Bool} {m : Nat} {p : Int} (hm : m ≠ 0) (hfit : p + m.log2 + 4 ≤ f.leastPlace + f.fractionBits + (2 ^ f.exponentBits : Nat)) (hlo : 4 ≤ 2 ^ f.exponentBits) (hs : f.infRung < f.signWeight) :
    ∃ (M : Nat) (j : Nat), f.read (f.nearest neg m p) = .number neg M (f.leastPlace + j) ∧ M * 2 ^ j = kep f neg m p * 2 ^ (lst f m p - f.leastPlace).toNat := by
  obtain ⟨h1, h2, _⟩ := kep_ok (f := f) (neg := neg) (p := p) hm
  have hlp : f.leastPlace ≤ lst f m p := by unfold lst; omega
  have hk : (lst f m p - f.leastPlace).toNat = 0 ∨ f.binade ≤ kep f neg m p := by
    by_cases h : f.leastPlace < lst f m p
    · exact .inr (h2 h)
    · exact .inl (by omega)
  have hle : (lst f m p - f.leastPlace).toNat + 4 ≤ 2 ^ f.exponentBits := by
    unfold lst
    omega
  have hfits : (lst f m p - f.leastPlace).toNat * f.binade + kep f neg m p < f.infRung := by
    unfold Format.infRung
    have hb : 0 < f.binade := Nat.two_pow_pos _
    have : ((lst f m p - f.leastPlace).toNat + 3) * f.binade ≤ (2 ^ f.exponentBits - 1) * f.binade := Nat.mul_le_mul_right _ (by omega)
    rw [Nat.add_mul] at this
    omega
  have e : f.nearest neg m p = f.word neg ((lst f m p - f.leastPlace).toNat * f.binade + kep f neg m p) := by
    unfold Format.nearest
    rw [if_neg hm]
    show f.word neg (min ((lst f m p - f.leastPlace).toNat * f.binade + kep f neg m p) f.infRung) = _
    rw [Nat.min_eq_left (by omega)]
  rw [e]
  exact read_rung hk h1 hfits hs


/-! ### Values -/

def tw (e : Int) : Rat := (2 : Rat) ^ e
theorem tw_add (a b : Int) : tw (a + b) = tw a * tw b := Rat.zpow_add (by decide) a b
theorem tw_pos (a : Int) : 0 < tw a := Rat.zpow_pos (by decide)
theorem tw_nat (n : Nat) : tw (n : Int) = ((2 ^ n : Nat) : Rat) := by
  unfold tw
  rw [Rat.zpow_natCast, Rat.natCast_pow]
  rfl
theorem tw_zero : tw 0 = 1 := by have := tw_nat 0; simpa using this
theorem tw_one_le {n : Nat} : (1 : Rat) ≤ tw (n : Int) := by
  rw [tw_nat]
  have : (1 : Nat) ≤ 2 ^ n := Nat.one_le_two_pow
  exact_mod_cast Rat.natCast_le_natCast.2 this
theorem tw_mono {a b : Int} (h : a ≤ b) : tw a ≤ tw b := by
  obtain ⟨n, rfl⟩ : ∃ n : Nat, b = a + n := ⟨(b - a).toNat, by omega⟩
  rw [tw_add]
  have h1 := Rat.mul_le_mul_of_nonneg_left (tw_one_le (n := n)) (Rat.le_of_lt (tw_pos a))
  rwa [Rat.mul_one] at h1
theorem tw_lt {a b : Int} (h : a < b) : tw a < tw b := by
  have h1 := tw_mono (show a + 1 ≤ b by omega)
  have h2 := tw_pos a
  rw [tw_add] at h1
  have : tw 1 = 2 := by have := tw_nat 1; simpa using this
  rw [this] at h1
  grind
theorem tw_le_iff {a b : Int} : tw a ≤ tw b ↔ a ≤ b := by
  constructor
  · intro h
    by_cases c : a ≤ b
    · exact c
    · have := tw_lt (show b < a by omega)
      grind
  · exact tw_mono

def sg (neg : Bool) : Rat := if neg then -1 else 1
/-- The word stands for the number. -/
def Vl (f : Format) (w : Nat) (x : Rat) : Prop := ∃ (neg : Bool) (m : Nat) (e : Int), f.read w = .number neg m e ∧ f.leastPlace ≤ e ∧ x = sg neg * ((m : Rat) * tw e)

/-- Enough room for the format's greatest numbers. -/
structure Rm (f : Format) : Prop where
  lo : 4 ≤ 2 ^ f.exponentBits
  hs : f.infRung < f.signWeight
  top : (104 : Int) ≤ f.leastPlace + f.fractionBits + (2 ^ f.exponentBits : Nat)
  lp : f.leastPlace ≤ 0
theorem rm_single : Rm single := ⟨by decide, by decide, by decide, by decide⟩
theorem rm_double : Rm double := ⟨by decide, by decide, by decide, by decide⟩
/-- What is small is not carried beyond a whole number. -/
def Wh (f : Format) (v z : Rat) : Prop := v < tw ((f.fractionBits : Int) + 1) → -tw ((f.fractionBits : Int) + 1) < v → ∀ N : Int, (v ≤ N → z ≤ N) ∧ ((N : Rat) ≤ v → (N : Rat) ≤ z)
def Wn (f : Format) (v z : Rat) : Prop := v < tw ((f.fractionBits : Int) + 1) → ∀ N : Nat, (v ≤ N → z ≤ N) ∧ ((N : Rat) ≤ v → (N : Rat) ≤ z)

theorem shift_cast (m : Nat) {p b : Int} (h : b ≤ p) : ((m * 2 ^ (p - b).toNat : Nat) : Rat) * tw b = (m : Rat) * tw p := by
  rw [Rat.natCast_mul, ← tw_nat, Rat.mul_assoc, ← tw_add]
  congr 2
  omega

theorem near_val {f : Format} (R : Rm f) (neg : Bool) {m : Nat} {p : Int} (hm : m ≠ 0) (hb : (m : Rat) * tw p ≤ tw 100) :
    ∃ x : Rat, Vl f (f.nearest neg m p) (sg neg * x) ∧ 0 ≤ x ∧ 2 * x ≤ 2 * ((m : Rat) * tw p) + tw (lst f m p) ∧ 2 * ((m : Rat) * tw p) ≤ 2 * x + tw (lst f m p) ∧ Wn f ((m : Rat) * tw p) x := by
  have hl := log2_le hm
  have hfit : p + m.log2 ≤ 100 := by
    rw [← tw_le_iff, tw_add, tw_nat]
    have h1 : ((2 ^ m.log2 : Nat) : Rat) ≤ (m : Rat) := Rat.natCast_le_natCast.2 hl
    have h2 := Rat.mul_le_mul_of_nonneg_right h1 (Rat.le_of_lt (tw_pos p))
    rw [Rat.mul_comm (tw p)]
    exact Rat.le_trans h2 hb
  obtain ⟨M, j, h1, h2⟩ := near_read (f := f) (neg := neg) (p := p) hm (by have := R.top; omega) R.lo R.hs
  obtain ⟨_, _, h3⟩ := kep_ok (f := f) (neg := neg) (p := p) hm
  have hL : f.leastPlace ≤ lst f m p := by unfold lst; omega
  have ex : (M : Rat) * tw (f.leastPlace + j) = (kep f neg m p : Rat) * tw (lst f m p) := by
    rw [← shift_cast M (p := f.leastPlace + j) (b := f.leastPlace) (by omega), ← shift_cast (kep f neg m p) hL]
    rw [show (f.leastPlace + j - f.leastPlace).toNat = j by omega, h2]
  obtain ⟨b, hb1, hb2⟩ : ∃ b : Int, b ≤ p ∧ b ≤ f.leastPlace := ⟨min p f.leastPlace, by omega, by omega⟩
  obtain ⟨h4, h5⟩ := h3 b hb1 hb2
  have a1 : 2 * ((M : Rat) * tw (f.leastPlace + j)) ≤ 2 * ((m : Rat) * tw p) + tw (lst f m p) := by
    rw [ex]
    have g := Rat.mul_le_mul_of_nonneg_right (Rat.natCast_le_natCast.2 h4) (Rat.le_of_lt (tw_pos b))
    have e1 := shift_cast (kep f neg m p) (p := lst f m p) (b := b) (by omega)
    have e2 := shift_cast m (p := p) (b := b) hb1
    have e3 := shift_cast 1 (p := lst f m p) (b := b) (by omega)
    rw [Nat.one_mul] at e3
    rw [Rat.natCast_add, Rat.natCast_mul 2, Rat.natCast_mul 2, Rat.add_mul, Rat.mul_assoc, Rat.mul_assoc, e1, e2, e3] at g
    grind
  have a2 : 2 * ((m : Rat) * tw p) ≤ 2 * ((M : Rat) * tw (f.leastPlace + j)) + tw (lst f m p) := by
    rw [ex]
    have g := Rat.mul_le_mul_of_nonneg_right (Rat.natCast_le_natCast.2 h5) (Rat.le_of_lt (tw_pos b))
    have e1 := shift_cast (kep f neg m p) (p := lst f m p) (b := b) (by omega)
    have e2 := shift_cast m (p := p) (b := b) hb1
    have e3 := shift_cast 1 (p := lst f m p) (b := b) (by omega)
    rw [Nat.one_mul] at e3
    rw [Rat.natCast_add, Rat.natCast_mul 2, Rat.natCast_mul 2, Rat.add_mul, Rat.mul_assoc, Rat.mul_assoc, e1, e2, e3] at g
    grind
  refine ⟨(M : Rat) * tw (f.leastPlace + j), ⟨neg, M, _, h1, by omega, rfl⟩, Rat.mul_nonneg Rat.natCast_nonneg (Rat.le_of_lt (tw_pos _)), a1, a2, fun hsm N => ?_⟩
  have hL0 : lst f m p ≤ 0 := by
    have h6 : (m.log2 : Int) + p < (f.fractionBits : Int) + 1 := by
      rcases Int.lt_or_le ((m.log2 : Int) + p) ((f.fractionBits : Int) + 1) with c | c
      · exact c
      · exfalso
        have q1 := tw_mono c
        have q2 : tw ((m.log2 : Int) + p) ≤ (m : Rat) * tw p := by
          rw [tw_add, tw_nat]
          exact Rat.mul_le_mul_of_nonneg_right (Rat.natCast_le_natCast.2 hl) (Rat.le_of_lt (tw_pos p))
        grind
    have := R.lp
    unfold lst
    omega
  rw [ex] at a1 a2 ⊢
  generalize lst f m p = L at *
  generalize kep f neg m p = K at *
  have hN : (N : Rat) = ((N * 2 ^ (0 - L).toNat : Nat) : Rat) * tw L := by
    rw [shift_cast N hL0, tw_zero, Rat.mul_one]
  have hLp := tw_pos L
  generalize N * 2 ^ (0 - L).toNat = N' at *
  have nc : ∀ a b : Nat, 2 * ((a : Rat) * tw L) ≤ 2 * ((b : Rat) * tw L) + tw L → a ≤ b := by
    intro a b h
    have h7 : ((2 * a : Nat) : Rat) * tw L ≤ ((2 * b + 1 : Nat) : Rat) * tw L := by
      have c1 : ((1 : Nat) : Rat) = 1 := rfl
      have c2 : ((2 : Nat) : Rat) = 2 := rfl
      rw [Rat.natCast_add, Rat.natCast_mul, Rat.natCast_mul, c1, c2]
      grind
    have h8 := Rat.natCast_le_natCast.1 (Rat.le_of_mul_le_mul_right h7 hLp)
    omega
  have le : ∀ a b : Nat, a ≤ b → (a : Rat) * tw L ≤ (b : Rat) * tw L := fun a b h => Rat.mul_le_mul_of_nonneg_right (Rat.natCast_le_natCast.2 h) (Rat.le_of_lt hLp)
  rw [hN]
  refine ⟨fun h => le _ _ (nc _ _ (by grind)), fun h => le _ _ (nc _ _ (by grind))⟩


theorem lst_tw {f : Format} {m : Nat} {p : Int} (hm : m ≠ 0) : tw (lst f m p) ≤ (m : Rat) * tw p * tw (-(f.fractionBits : Int)) + tw f.leastPlace := by
  have hl := log2_le hm
  have h1 : ((2 ^ m.log2 : Nat) : Rat) ≤ (m : Rat) := Rat.natCast_le_natCast.2 hl
  have h2 := Rat.mul_le_mul_of_nonneg_right h1 (Rat.le_of_lt (tw_pos p))
  have h3 := Rat.mul_le_mul_of_nonneg_right h2 (Rat.le_of_lt (tw_pos (-(f.fractionBits : Int))))
  rw [← tw_nat, ← tw_add, ← tw_add] at h3
  have p1 := tw_pos (f.leastPlace)
  have p2 := tw_pos ((m.log2 : Int) + p + -(f.fractionBits : Int))
  unfold lst
  by_cases c : p + m.log2 - f.fractionBits ≤ f.leastPlace
  · rw [Int.max_eq_right c]; grind
  · rw [Int.max_eq_left (by omega), show p + (m.log2 : Int) - f.fractionBits = (m.log2 : Int) + p + -(f.fractionBits : Int) by omega]
    grind

/-- The word for a number: how far it is from it. -/
theorem write_val {f : Format} (R : Rm f) (neg : Bool) {m : Nat} {p : Int} (hb : (m : Rat) * tw p ≤ tw 100) :
    ∃ x : Rat, Vl f (f.nearest neg m p) (sg neg * x) ∧ 0 ≤ x ∧ 2 * x ≤ 2 * ((m : Rat) * tw p) + ((m : Rat) * tw p * tw (-(f.fractionBits : Int)) + tw f.leastPlace) ∧ 2 * ((m : Rat) * tw p) ≤ 2 * x + ((m : Rat) * tw p * tw (-(f.fractionBits : Int)) + tw f.leastPlace) ∧ Wn f ((m : Rat) * tw p) x := by
  by_cases hm : m = 0
  · subst hm
    have hp := tw_pos f.leastPlace
    refine ⟨0, ⟨neg, 0, f.leastPlace, ?_, Int.le_refl _, ?_⟩, Rat.le_refl, ?_, ?_, fun _ N => ⟨fun _ => Rat.natCast_nonneg, fun h => by simpa using h⟩⟩
    · have e : f.nearest neg 0 p = f.word neg 0 := by unfold Format.nearest; rw [if_pos rfl]
      have hi : 0 < f.infRung := by
        unfold Format.infRung
        exact Nat.mul_pos (by have := R.lo; omega) (Nat.two_pow_pos _)
      rw [e, read_word hi R.hs, if_pos (show 0 < f.binade from Nat.two_pow_pos _)]
    · simp
    · simp; grind
    · simp; grind
  · obtain ⟨x, h1, h2, h3, h4, h5⟩ := near_val R neg hm hb
    have := lst_tw (f := f) (p := p) hm
    exact ⟨x, h1, h2, by grind, by grind, h5⟩
theorem wn_wh {f : Format} {neg : Bool} {v x : Rat} (hx : 0 ≤ x) (hv : 0 ≤ v) (h : Wn f v x) : Wh f (sg neg * v) (sg neg * x) := by
  intro h1 h2 N
  cases neg
  · simp only [sg, Bool.false_eq_true, if_false, Rat.one_mul] at *
    rcases Int.lt_or_le N 0 with c | c
    · have c' : (N : Rat) < 0 := by exact_mod_cast Rat.intCast_lt_intCast.2 c
      exact ⟨fun g => by grind, fun g => by grind⟩
    · obtain ⟨n, rfl⟩ := Int.eq_ofNat_of_zero_le c
      exact h h1 n
  · simp only [sg, if_true] at *
    rcases Int.lt_or_le 0 N with c | c
    · have c' : 0 < (N : Rat) := by exact_mod_cast Rat.intCast_lt_intCast.2 c
      exact ⟨fun g => by grind, fun g => by grind⟩
    · obtain ⟨n, hn⟩ := Int.eq_ofNat_of_zero_le (show 0 ≤ -N by omega)
      have e : (N : Rat) = -(n : Rat) := by
        have : N = -(n : Int) := by omega
        rw [this, Rat.intCast_neg]; rfl
      obtain ⟨g1, g2⟩ := h (by grind) n
      rw [e]
      exact ⟨fun g => by have := g2 (by grind); grind, fun g => by have := g1 (by grind); grind⟩

theorem sg_sq (s : Bool) : sg s * sg s = 1 := by cases s <;> simp [sg] <;> grind
theorem signed_cast (s : Bool) (m k : Nat) : ((signed s m k : Int) : Rat) = sg s * ((m * 2 ^ k : Nat) : Rat) := by
  unfold signed sg
  rw [shl]
  cases s
  · simp only [Bool.false_eq_true, if_false]
    rw [Rat.one_mul]; rfl
  · simp only [if_true]
    rw [Rat.intCast_neg, Rat.neg_mul, Rat.one_mul]; rfl
/-- A finite sum. -/
theorem sum_val {f : Format} (R : Rm f) {s t : Bool} {m n : Nat} {i j : Int} {x y : Rat} (hx : x = sg s * ((m : Rat) * tw i)) (hy : y = sg t * ((n : Rat) * tw j)) {B : Rat} (h1 : -B ≤ x + y) (h2 : x + y ≤ B) (hB : B ≤ tw 100) :
    ∃ (w : Nat) (z : Rat), ((Datum.number s m i).sum (.number t n j)).map f.write = some w ∧ Vl f w z ∧ 2 * z ≤ 2 * (x + y) + (B * tw (-(f.fractionBits : Int)) + tw f.leastPlace) ∧ 2 * (x + y) ≤ 2 * z + (B * tw (-(f.fractionBits : Int)) + tw f.leastPlace) ∧ Wh f (x + y) z := by
  subst hx hy
  simp only [Datum.sum, Option.map_some]
  have hbi : min i j ≤ i := by omega
  have hbj : min i j ≤ j := by omega
  generalize min i j = b at *
  have hT : ((signed s m (i - b).toNat + signed t n (j - b).toNat : Int) : Rat) * tw b = sg s * ((m : Rat) * tw i) + sg t * ((n : Rat) * tw j) := by
    rw [Rat.intCast_add, Rat.add_mul, signed_cast, signed_cast, Rat.mul_assoc, Rat.mul_assoc, shift_cast m hbi, shift_cast n hbj]
  generalize hTT : signed s m (i - b).toNat + signed t n (j - b).toNat = T at *
  generalize sg s * ((m : Rat) * tw i) + sg t * ((n : Rat) * tw j) = v at *
  generalize hneg : (if T = 0 then s && t else decide (T < 0)) = neg
  have hsv : sg neg * ((T.natAbs : Rat) * tw b) = v := by
    rw [← hT]
    by_cases c0 : T = 0
    · subst c0; simp
    · rw [if_neg c0] at hneg
      rw [← hneg]
      by_cases c1 : T < 0
      · have e : ((T.natAbs : Nat) : Rat) = -(T : Rat) := by
          have : ((T.natAbs : Nat) : Int) = -T := by omega
          rw [← Rat.intCast_neg, ← this]; rfl
        rw [e]
        simp only [c1, decide_true, sg, if_true]
        grind
      · have e : ((T.natAbs : Nat) : Rat) = (T : Rat) := by
          have : ((T.natAbs : Nat) : Int) = T := by omega
          exact congrArg (fun z : Int => (z : Rat)) this
        rw [e]
        simp only [c1, decide_false, sg, Bool.false_eq_true, if_false]
        grind
  have hnn : 0 ≤ (T.natAbs : Rat) * tw b := Rat.mul_nonneg Rat.natCast_nonneg (Rat.le_of_lt (tw_pos b))
  have hle : (T.natAbs : Rat) * tw b ≤ B := by
    cases neg
    · simp only [sg, Bool.false_eq_true, if_false] at hsv; grind
    · simp only [sg, if_true] at hsv; grind
  obtain ⟨z, g1, g2, g3, g4, g6⟩ := write_val R neg (m := T.natAbs) (p := b) (Rat.le_trans hle hB)
  have hpf := tw_pos (-(f.fractionBits : Int))
  have g5 := Rat.mul_le_mul_of_nonneg_right hle (Rat.le_of_lt hpf)
  refine ⟨_, sg neg * z, rfl, g1, ?_, ?_, by rw [← hsv]; exact wn_wh g2 hnn g6⟩
  · rw [← hsv]
    cases neg
    · simp only [sg, Bool.false_eq_true, if_false]; grind
    · simp only [sg, if_true]; grind
  · rw [← hsv]
    cases neg
    · simp only [sg, Bool.false_eq_true, if_false]; grind
    · simp only [sg, if_true]; grind

theorem add_val {f : Format} (R : Rm f) {a b : Nat} {x y : Rat} (ha : Vl f a x) (hb : Vl f b y) {B : Rat} (h1 : -B ≤ x + y) (h2 : x + y ≤ B) (hB : B ≤ tw 100) :
    ∃ (w : Nat) (z : Rat), f.add a b = some w ∧ Vl f w z ∧ 2 * z ≤ 2 * (x + y) + (B * tw (-(f.fractionBits : Int)) + tw f.leastPlace) ∧ 2 * (x + y) ≤ 2 * z + (B * tw (-(f.fractionBits : Int)) + tw f.leastPlace) ∧ Wh f (x + y) z := by
  obtain ⟨s, m, i, r1, l1, ex⟩ := ha
  obtain ⟨t, n, j, r2, l2, ey⟩ := hb
  unfold Format.add
  rw [r1, r2]
  exact sum_val R ex ey h1 h2 hB
theorem sg_not (s : Bool) : sg (!s) = -sg s := by cases s <;> simp [sg] <;> grind
theorem sub_val {f : Format} (R : Rm f) {a b : Nat} {x y : Rat} (ha : Vl f a x) (hb : Vl f b y) {B : Rat} (h1 : -B ≤ x - y) (h2 : x - y ≤ B) (hB : B ≤ tw 100) :
    ∃ (w : Nat) (z : Rat), f.sub a b = some w ∧ Vl f w z ∧ 2 * z ≤ 2 * (x - y) + (B * tw (-(f.fractionBits : Int)) + tw f.leastPlace) ∧ 2 * (x - y) ≤ 2 * z + (B * tw (-(f.fractionBits : Int)) + tw f.leastPlace) ∧ Wh f (x - y) z := by
  obtain ⟨s, m, i, r1, l1, ex⟩ := ha
  obtain ⟨t, n, j, r2, l2, ey⟩ := hb
  unfold Format.sub
  rw [r1, r2]
  have e : x - y = x + -y := by grind
  rw [e] at h1 h2 ⊢
  exact sum_val R ex (by rw [sg_not, Rat.neg_mul, ey]) h1 h2 hB
/-- Words stand to each other as their numbers do. -/
theorem order_val {f : Format} {a b : Nat} {x y : Rat} (ha : Vl f a x) (hb : Vl f b y) : ∃ o, f.order a b = some o ∧ (o = .lt ↔ x < y) ∧ (o = .eq ↔ x = y) ∧ (o = .gt ↔ y < x) := by
  obtain ⟨s, m, i, r1, l1, rfl⟩ := ha
  obtain ⟨t, n, j, r2, l2, rfl⟩ := hb
  unfold Format.order
  rw [r1, r2]
  refine ⟨_, rfl, ?_⟩
  have hbi : min i j ≤ i := by omega
  have hbj : min i j ≤ j := by omega
  generalize min i j = b at *
  have e1 : ((signed s m (i - b).toNat : Int) : Rat) * tw b = sg s * ((m : Rat) * tw i) := by rw [signed_cast, Rat.mul_assoc, shift_cast m hbi]
  have e2 : ((signed t n (j - b).toNat : Int) : Rat) * tw b = sg t * ((n : Rat) * tw j) := by rw [signed_cast, Rat.mul_assoc, shift_cast n hbj]
  rw [← e1, ← e2]
  generalize signed s m (i - b).toNat = A
  generalize signed t n (j - b).toNat = C
  have hp := tw_pos b
  have lt : ∀ A C : Int, (A : Rat) * tw b < (C : Rat) * tw b ↔ A < C := fun A C => ⟨fun h => by
    rcases Int.lt_or_le A C with c | c
    · exact c
    · have := Rat.mul_le_mul_of_nonneg_right (Rat.intCast_le_intCast.2 c) (Rat.le_of_lt hp)
      grind, fun h => Rat.mul_lt_mul_of_pos_right (Rat.intCast_lt_intCast.2 h) hp⟩
  refine ⟨?_, ?_, ?_⟩
  · rw [lt]; exact Int.compare_eq_lt
  · constructor
    · intro h; rw [Int.compare_eq_eq.1 h]
    · intro h
      have h1 : ¬ A < C := fun c => by have := (lt A C).2 c; grind
      have h2 : ¬ C < A := fun c => by have := (lt C A).2 c; grind
      exact Int.compare_eq_eq.2 (by omega)
  · rw [lt]; exact Int.compare_eq_gt

theorem sg_xor (s t : Bool) : sg (s ^^ t) = sg s * sg t := by cases s <;> cases t <;> simp [sg] <;> grind
/-- A finite product. -/
theorem mul_val {f : Format} (R : Rm f) {a b : Nat} {x y : Rat} (ha : Vl f a x) (hb : Vl f b y) {B : Rat} (h1 : -B ≤ x * y) (h2 : x * y ≤ B) (hB : B ≤ tw 100) :
    ∃ (w : Nat) (z : Rat), f.mul a b = some w ∧ Vl f w z ∧ 2 * z ≤ 2 * (x * y) + (B * tw (-(f.fractionBits : Int)) + tw f.leastPlace) ∧ 2 * (x * y) ≤ 2 * z + (B * tw (-(f.fractionBits : Int)) + tw f.leastPlace) ∧ Wh f (x * y) z := by
  obtain ⟨s, m, i, r1, l1, rfl⟩ := ha
  obtain ⟨t, n, j, r2, l2, rfl⟩ := hb
  unfold Format.mul
  rw [r1, r2]
  simp only [Datum.product, Option.map_some]
  have hsv : sg (s ^^ t) * (((m * n : Nat) : Rat) * tw (i + j)) = sg s * ((m : Rat) * tw i) * (sg t * ((n : Rat) * tw j)) := by
    rw [sg_xor, Rat.natCast_mul, tw_add]
    grind
  generalize sg s * ((m : Rat) * tw i) * (sg t * ((n : Rat) * tw j)) = v at *
  have hnn : 0 ≤ ((m * n : Nat) : Rat) * tw (i + j) := Rat.mul_nonneg Rat.natCast_nonneg (Rat.le_of_lt (tw_pos _))
  generalize (s ^^ t) = neg at *
  have hle : ((m * n : Nat) : Rat) * tw (i + j) ≤ B := by
    cases neg
    · simp only [sg, Bool.false_eq_true, if_false] at hsv; grind
    · simp only [sg, if_true] at hsv; grind
  obtain ⟨z, g1, g2, g3, g4, g6⟩ := write_val R neg (m := m * n) (p := i + j) (Rat.le_trans hle hB)
  have hpf := tw_pos (-(f.fractionBits : Int))
  have g5 := Rat.mul_le_mul_of_nonneg_right hle (Rat.le_of_lt hpf)
  refine ⟨_, sg neg * z, rfl, g1, ?_, ?_, by rw [← hsv]; exact wn_wh g2 hnn g6⟩
  · rw [← hsv]
    cases neg
    · simp only [sg, Bool.false_eq_true, if_false]; grind
    · simp only [sg, if_true]; grind
  · rw [← hsv]
    cases neg
    · simp only [sg, Bool.false_eq_true, if_false]; grind
    · simp only [sg, if_true]; grind


/-- The quotient's digits: what is left over is less than half a unit of the last digit that counts. -/
theorem quo_digits {d m n : Nat} (hm : m ≠ 0) (hn : n ≠ 0) : let more := d + n.log2 - m.log2
    let q := 2 * ((m <<< more) / n) + ((m <<< more) % n != 0).toNat
    2 * (m * 2 ^ more) ≤ q * n + n ∧ q * n ≤ 2 * (m * 2 ^ more) + n ∧ 2 ^ d ≤ q := by
  intro more q
  have hq : q = 2 * ((m * 2 ^ more) / n) + ((m * 2 ^ more) % n != 0).toNat := by show 2 * ((m <<< more) / n) + _ = _; rw [shl]
  have l1 := log2_le hm
  have l2 := lt_log2 n
  have hbig : 2 ^ (d + n.log2) ≤ m * 2 ^ more := by
    have h1 : 2 ^ m.log2 * 2 ^ more ≤ m * 2 ^ more := Nat.mul_le_mul_right _ l1
    rw [← pow_add'] at h1
    exact Nat.le_trans (Nat.pow_le_pow_right (by omega) (by omega)) h1
  generalize m * 2 ^ more = D at *
  have dm := Nat.div_add_mod D n
  have ml := Nat.mod_lt D (Nat.pos_of_ne_zero hn)
  have hd : 2 ^ d * n ≤ 2 * D := by
    have h1 : 2 ^ d * n ≤ 2 ^ d * 2 ^ (n.log2 + 1) := Nat.mul_le_mul_left _ (Nat.le_of_lt l2)
    rw [← pow_add', ← Nat.add_assoc, Nat.pow_succ] at h1
    omega
  rw [hq]
  generalize D / n = c at *
  generalize hr : D % n = r at *
  have e1 : n * c = c * n := Nat.mul_comm _ _
  by_cases c0 : r = 0
  · subst c0
    simp only [bne_self_eq_false, Bool.toNat_false, Nat.add_zero]
    rw [Nat.mul_assoc]
    refine ⟨by omega, by omega, ?_⟩
    rcases Nat.lt_or_ge (2 * c) (2 ^ d) with h | h
    · have : (2 * c + 1) * n ≤ 2 ^ d * n := Nat.mul_le_mul_right _ h
      rw [Nat.add_mul, Nat.one_mul, Nat.mul_assoc] at this
      have := Nat.pos_of_ne_zero hn
      omega
    · exact h
  · have e2 : (r != 0) = true := by simp [c0]
    simp only [e2, Bool.toNat_true]
    rw [Nat.add_mul, Nat.one_mul, Nat.mul_assoc]
    refine ⟨by omega, by omega, ?_⟩
    rcases Nat.lt_or_ge (2 * c + 1) (2 ^ d) with h | h
    · have : (2 * c + 1 + 1) * n ≤ 2 ^ d * n := Nat.mul_le_mul_right _ h
      rw [Nat.add_mul, Nat.add_mul, Nat.one_mul, Nat.mul_assoc] at this
      omega
    · exact h

theorem quo_le {D n W : Nat} (hn : n ≠ 0) (h : D ≤ n * W) : 2 * (D / n) + (D % n != 0).toNat ≤ 2 * W := by
  have dm := Nat.div_add_mod D n
  have h1 : D / n ≤ W := Nat.div_le_of_le_mul h
  by_cases c : D % n = 0
  · simp [c]; omega
  · have e2 : (D % n != 0) = true := by simp [c]
    rw [e2]
    have : D / n ≠ W := by
      intro e
      rw [e] at dm
      omega
    simp only [Bool.toNat_true]
    omega
/-- A finite quotient. -/
theorem div_val {f : Format} (R : Rm f) {a b : Nat} {x y : Rat} (ha : Vl f a x) (hb : Vl f b y) (hy : y ≠ 0) {v B : Rat} (hv : v * y = x) (h1 : -B ≤ v) (h2 : v ≤ B) (hB : 2 * B ≤ tw 100) :
    ∃ (w : Nat) (z : Rat), f.div a b = some w ∧ Vl f w z ∧ 2 * z ≤ 2 * v + (4 * B * tw (-(f.fractionBits : Int)) + tw f.leastPlace) ∧ 2 * v ≤ 2 * z + (4 * B * tw (-(f.fractionBits : Int)) + tw f.leastPlace) ∧ (0 ≤ v → v ≤ 1 → 0 ≤ z ∧ z ≤ 1) ∧ (0 ≤ v → 0 ≤ z) ∧ (v ≤ 0 → z ≤ 0) := by
  obtain ⟨s, m, i, r1, l1, rfl⟩ := ha
  obtain ⟨t, n, j, r2, l2, rfl⟩ := hb
  have hpf := tw_pos (-(f.fractionBits : Int))
  have hpl := tw_pos f.leastPlace
  have hn : n ≠ 0 := by rintro rfl; exact hy (by simp)
  unfold Format.div
  rw [r1, r2]
  simp only [Datum.quotient, if_neg hn, Option.map_some]
  by_cases hm : m = 0
  · subst hm
    have hv0 : v = 0 := by
      have : v * (sg t * ((n : Rat) * tw j)) = 0 := by rw [hv]; simp
      rcases Rat.mul_eq_zero.1 this with h | h
      · exact h
      · exact absurd h hy
    subst hv0
    have e0 : (0 <<< (f.fractionBits + 2 + n.log2 - Nat.log2 0) : Nat) = 0 := by rw [shl]; simp
    simp only [e0, Nat.zero_div, Nat.zero_mod, Nat.mul_zero, bne_self_eq_false, Bool.toNat_false, Nat.add_zero]
    obtain ⟨z, g1, g2, g3, g4, _⟩ := write_val R (s ^^ t) (m := 0) (p := i - j - (f.fractionBits + 2 + n.log2 - Nat.log2 0 : Nat) - 1) (by simp; exact Rat.le_of_lt (tw_pos _))
    have hz : z = 0 := by
      have : 2 * z ≤ 2 * 0 + (0 * tw (-(f.fractionBits : Int)) + tw f.leastPlace) := by simpa using g3
      obtain ⟨neg, M, e, q1, q2, q3⟩ := g1
      have e1 : f.nearest (s ^^ t) 0 (i - j - (f.fractionBits + 2 + n.log2 - Nat.log2 0 : Nat) - 1) = f.word (s ^^ t) 0 := by unfold Format.nearest; rw [if_pos rfl]
      have hi : 0 < f.infRung := by
        unfold Format.infRung
        exact Nat.mul_pos (by have := R.lo; omega) (Nat.two_pow_pos _)
      rw [e1, read_word hi R.hs, if_pos (show 0 < f.binade from Nat.two_pow_pos _)] at q1
      simp only [Datum.number.injEq] at q1
      obtain ⟨rfl, rfl, rfl⟩ := q1
      have h3 : sg (s ^^ t) * z = 0 := by rw [q3]; simp
      rcases Rat.mul_eq_zero.1 h3 with h | h
      · exfalso
        generalize (s ^^ t) = q at h
        cases q <;> simp [sg] at h <;> grind
      · exact h
    subst hz
    have hB0 : 0 ≤ B := by grind
    have h9 := Rat.mul_nonneg (Rat.mul_nonneg (show (0 : Rat) ≤ 4 by decide) hB0) (Rat.le_of_lt hpf)
    refine ⟨_, sg (s ^^ t) * 0, rfl, g1, ?_, ?_, ?_, ?_, ?_⟩ <;> (rw [Rat.mul_zero]; grind)
  · obtain ⟨q1, q2, q3⟩ := quo_digits (d := f.fractionBits + 2) hm hn
    generalize f.fractionBits + 2 + n.log2 - m.log2 = more at *
    have q4 : ∀ W : Nat, m * 2 ^ more ≤ n * W → 2 * (m <<< more / n) + (m <<< more % n != 0).toNat ≤ 2 * W := fun W h => quo_le hn (by rw [shl]; exact h)
    generalize 2 * (m <<< more / n) + (m <<< more % n != 0).toNat = q at *
    generalize hP : i - j - (more : Int) - 1 = P
    have hny : 0 < (n : Rat) := Rat.natCast_pos.2 (Nat.pos_of_ne_zero hn)
    -- the exact quotient's size
    obtain ⟨u, hu⟩ : ∃ u : Rat, u * (n : Rat) = (m : Rat) * tw (i - j) := ⟨(m : Rat) * tw (i - j) / n, Rat.div_mul_cancel (by grind)⟩
    have huv : sg (s ^^ t) * u = v := by
      have hj := tw_pos j
      have e1 : tw i = tw (i - j) * tw j := by rw [← tw_add]; congr 1; omega
      have key : (sg (s ^^ t) * u) * (sg t * ((n : Rat) * tw j)) = v * (sg t * ((n : Rat) * tw j)) := by
        rw [hv, e1, sg_xor]
        have := sg_sq t
        calc sg s * sg t * u * (sg t * (↑n * tw j)) = sg s * (sg t * sg t) * ((u * ↑n) * tw j) := by grind
          _ = sg s * ((↑m * tw (i - j)) * tw j) := by rw [this, hu, Rat.mul_one]
          _ = sg s * (↑m * (tw (i - j) * tw j)) := by grind
      have h0 : (sg (s ^^ t) * u - v) * (sg t * ((n : Rat) * tw j)) = 0 := by grind
      rcases Rat.mul_eq_zero.1 h0 with h | h
      · grind
      · exact absurd h hy
    have hu0 : 0 ≤ u := by
      have h0 : 0 ≤ u * (n : Rat) := by rw [hu]; exact Rat.mul_nonneg Rat.natCast_nonneg (Rat.le_of_lt (tw_pos _))
      by_cases c : 0 ≤ u
      · exact c
      · have c' : u < 0 := by grind
        have := Rat.mul_lt_mul_of_pos_right c' hny
        grind
    have huB : u ≤ B := by
      generalize (s ^^ t) = neg at huv
      cases neg
      · simp only [sg, Bool.false_eq_true, if_false] at huv; grind
      · simp only [sg, if_true] at huv; grind
    -- digits against the exact one
    have eP : tw (i - j) = (((2 * 2 ^ more : Nat)) : Rat) * tw P := by
      rw [show 2 * 2 ^ more = 2 ^ (more + 1) by rw [Nat.pow_succ]; omega, ← tw_nat, ← tw_add]
      congr 1
      omega
    have hPp := tw_pos P
    have c1 : 2 * ((m : Rat) * ((2 ^ more : Nat) : Rat)) ≤ (q : Rat) * n + n := by
      have := Rat.natCast_le_natCast.2 q1
      rw [Rat.natCast_mul, Rat.natCast_add, Rat.natCast_mul, Rat.natCast_mul] at this
      exact this
    have c2 : (q : Rat) * n ≤ 2 * ((m : Rat) * ((2 ^ more : Nat) : Rat)) + n := by
      have := Rat.natCast_le_natCast.2 q2
      rw [Rat.natCast_add, Rat.natCast_mul, Rat.natCast_mul, Rat.natCast_mul] at this
      exact this
    have hun : u * (n : Rat) = 2 * ((m : Rat) * ((2 ^ more : Nat) : Rat)) * tw P := by
      rw [hu, eP, Rat.natCast_mul]
      grind
    have d1 : u ≤ (q : Rat) * tw P + tw P := by
      have g := Rat.mul_le_mul_of_nonneg_right c1 (Rat.le_of_lt hPp)
      rw [← hun] at g
      refine Rat.le_of_mul_le_mul_right (c := (n : Rat)) ?_ hny
      grind
    have d2 : (q : Rat) * tw P ≤ u + tw P := by
      have g := Rat.mul_le_mul_of_nonneg_right c2 (Rat.le_of_lt hPp)
      rw [Rat.add_mul, ← hun] at g
      refine Rat.le_of_mul_le_mul_right (c := (n : Rat)) ?_ hny
      grind
    have d3 : tw P * 4 ≤ (q : Rat) * tw P * tw (-(f.fractionBits : Int)) := by
      have h4 : ((2 ^ (f.fractionBits + 2) : Nat) : Rat) ≤ (q : Rat) := Rat.natCast_le_natCast.2 q3
      have h5 := Rat.mul_le_mul_of_nonneg_right (Rat.mul_le_mul_of_nonneg_right h4 (Rat.le_of_lt hPp)) (Rat.le_of_lt hpf)
      have h6 : ((2 ^ (f.fractionBits + 2) : Nat) : Rat) * tw (-(f.fractionBits : Int)) = 4 := by
        rw [← tw_nat, ← tw_add]
        have : ((f.fractionBits + 2 : Nat) : Int) + -(f.fractionBits : Int) = (2 : Nat) := by omega
        rw [this, tw_nat]
        rfl
      have h7 : ((2 ^ (f.fractionBits + 2) : Nat) : Rat) * tw P * tw (-(f.fractionBits : Int)) = tw P * 4 := by rw [← h6]; grind
      rw [h7] at h5
      exact h5
    have hf1 : tw (-(f.fractionBits : Int)) ≤ 1 := by
      have := tw_mono (show -(f.fractionBits : Int) ≤ 0 by omega)
      rwa [tw_zero] at this
    have hQ0 : 0 ≤ (q : Rat) * tw P := Rat.mul_nonneg Rat.natCast_nonneg (Rat.le_of_lt hPp)
    have hQf := Rat.mul_le_mul_of_nonneg_left hf1 hQ0
    have hQB : (q : Rat) * tw P ≤ 2 * B := by grind
    have hQE := Rat.mul_le_mul_of_nonneg_right hQB (Rat.le_of_lt hpf)
    obtain ⟨z, g1, g2, g3, g4, g6⟩ := write_val R (s ^^ t) (m := q) (p := P) (Rat.le_trans hQB hB)
    refine ⟨_, sg (s ^^ t) * z, rfl, g1, ?_, ?_, fun v0 v1 => ?_, ?_⟩
    · rw [← huv]
      generalize (s ^^ t) = neg
      cases neg
      · simp only [sg, Bool.false_eq_true, if_false]; grind
      · simp only [sg, if_true]; grind
    · rw [← huv]
      generalize (s ^^ t) = neg
      cases neg
      · simp only [sg, Bool.false_eq_true, if_false]; grind
      · simp only [sg, if_true]; grind
    · have hu1 : u ≤ 1 := by
        generalize (s ^^ t) = neg at huv
        cases neg
        · simp only [sg, Bool.false_eq_true, if_false] at huv; grind
        · simp only [sg, if_true] at huv; grind
      have hf4 : tw P * 4 ≤ 1 + tw P := by grind
      have hP1 : P ≤ -1 := by
        rcases Int.lt_or_le P 0 with c | c
        · omega
        · exfalso
          have := tw_mono c
          rw [tw_zero] at this
          grind
      obtain ⟨W, hW⟩ : ∃ W : Nat, (0 - P).toNat = W + 1 := ⟨(0 - P).toNat - 1, by omega⟩
      have e1 := shift_cast 1 (p := 0) (b := P) (by omega)
      rw [hW, Nat.one_mul, tw_zero, Rat.mul_one, Nat.pow_succ] at e1
      have hD : m * 2 ^ more ≤ n * 2 ^ W := by
        have k1 := Rat.mul_le_mul_of_nonneg_right hu1 (Rat.le_of_lt hny)
        rw [hun] at k1
        have k2 : ((m * 2 ^ more : Nat) : Rat) * (2 * tw P) ≤ ((n * 2 ^ W : Nat) : Rat) * (2 * tw P) := by
          rw [Rat.natCast_mul] at e1
          rw [Rat.natCast_mul, Rat.natCast_mul]
          have : ((2 : Nat) : Rat) = 2 := rfl
          have k3 : (n : Rat) * (((2 ^ W : Nat) : Rat) * ((2 : Nat) : Rat) * tw P) = n := by rw [e1]; simp
          grind
        exact Rat.natCast_le_natCast.1 (Rat.le_of_mul_le_mul_right k2 (by grind))
      have k4 := q4 _ hD
      have k5 := Rat.mul_le_mul_of_nonneg_right (Rat.natCast_le_natCast.2 k4) (Rat.le_of_lt hPp)
      rw [Nat.mul_comm 2, e1] at k5
      have k5' : (q : Rat) * tw P ≤ 1 := by simpa using k5
      have k6 := g6 (by
        have := tw_mono (show (1 : Int) ≤ (f.fractionBits : Int) + 1 by omega)
        have e2 : tw 1 = 2 := by have := tw_nat 1; simpa using this
        grind) 1
      have k7 : z ≤ 1 := by simpa using k6.1 (by simpa using k5')
      cases hneg : (s ^^ t)
      · simp only [sg, Bool.false_eq_true, if_false, Rat.one_mul]
        exact ⟨g2, k7⟩
      · rw [hneg] at huv
        simp only [sg, if_true] at huv ⊢
        have hu00 : u = 0 := by grind
        exfalso
        have hm0 : 0 < (m : Rat) := Rat.natCast_pos.2 (Nat.pos_of_ne_zero hm)
        have := Rat.mul_pos hm0 (tw_pos (i - j))
        rw [hu00] at hu
        grind
    · have hm0 : 0 < (m : Rat) := Rat.natCast_pos.2 (Nat.pos_of_ne_zero hm)
      have hup : 0 < u := by
        have h0 := Rat.mul_pos hm0 (tw_pos (i - j))
        rw [← hu] at h0
        by_cases c : u = 0
        · rw [c] at h0; grind
        · grind
      rw [← huv]
      generalize (s ^^ t) = neg
      cases neg
      · simp only [sg, Bool.false_eq_true, if_false]
        exact ⟨fun _ => by grind, fun h => by grind⟩
      · simp only [sg, if_true]
        exact ⟨fun h => by grind, fun _ => by grind⟩

/-! ### Single words -/

abbrev V (w : Nat) (x : Rat) : Prop := Vl single w x
def u : Rat := tw (-23)
theorem u_pos : 0 < u := tw_pos _
theorem u_one : u * 8388608 = 1 := by
  have h := tw_add (-23) ((23 : Nat) : Int)
  rw [tw_nat] at h
  have e : tw (-23 + ((23 : Nat) : Int)) = 1 := tw_zero
  rw [e] at h
  exact h.symm
theorem tiny : tw single.leastPlace ≤ u := tw_mono (by decide)
theorem frac : tw (-(single.fractionBits : Int)) = u := rfl
theorem big {n : Nat} (h : n ≤ 100000000) : (n : Rat) ≤ tw 100 := by
  have e := tw_nat 100
  rw [show ((100 : Nat) : Int) = 100 from rfl] at e
  rw [e]
  exact Rat.natCast_le_natCast.2 (Nat.le_trans h (by decide))
theorem top24 : tw ((single.fractionBits : Int) + 1) = 16777216 := tw_nat 24
/-- So near to a number, in units of u. -/
def Ap (w : Nat) (x : Rat) (k : Nat) : Prop := ∃ z, V w z ∧ z ≤ x + (k : Rat) * u ∧ x ≤ z + (k : Rat) * u
theorem Ap.of {w : Nat} {x : Rat} (h : V w x) : Ap w x 0 := ⟨x, h, by simp; grind, by simp; grind⟩
theorem ku {k : Nat} (h : k ≤ 8388608) : (k : Rat) * u ≤ 1 := by
  have h1 := Rat.mul_le_mul_of_nonneg_right (Rat.natCast_le_natCast.2 h) (Rat.le_of_lt u_pos)
  have h2 := u_one
  have c : ((8388608 : Nat) : Rat) = 8388608 := rfl
  rw [c] at h1
  grind
theorem ku0 (k : Nat) : 0 ≤ (k : Rat) * u := Rat.mul_nonneg Rat.natCast_nonneg (Rat.le_of_lt u_pos)
theorem ap_add {a b : Nat} {x y : Rat} {i j : Nat} (N : Nat) (ha : Ap a x i) (hb : Ap b y j) (h1 : -(N : Rat) ≤ x + y) (h2 : x + y ≤ N) (hij : i + j ≤ 8388608) (hN : N ≤ 1000000) : Ap (fadd .f32 a b) (x + y) (i + j + N + 1) := by
  obtain ⟨p, vp, p1, p2⟩ := ha
  obtain ⟨q, vq, q1, q2⟩ := hb
  have k1 := ku hij
  have t := tiny
  have hu := u_pos
  have c1 : ((1 : Nat) : Rat) = 1 := rfl
  have i0 := ku0 i
  have j0 := ku0 j
  rw [Rat.natCast_add, Rat.add_mul] at k1
  have hB := big (n := N + 1) (by omega)
  rw [Rat.natCast_add, c1] at hB
  obtain ⟨w, z, e, vz, z1, z2, _⟩ := add_val rm_single vp vq (B := (N : Rat) + 1) (by grind) (by grind) hB
  rw [frac] at z1 z2
  refine ⟨z, ?_, ?_, ?_⟩
  · show Vl single ((single.add a b).getD (qnan .f32)) z
    rw [e]; exact vz
  · rw [Rat.natCast_add, Rat.natCast_add, Rat.natCast_add, c1, Rat.add_mul, Rat.add_mul, Rat.add_mul]
    have := ku0 N
    grind
  · rw [Rat.natCast_add, Rat.natCast_add, Rat.natCast_add, c1, Rat.add_mul, Rat.add_mul, Rat.add_mul]
    have := ku0 N
    grind
theorem ap_sub {a b : Nat} {x y : Rat} {i j : Nat} (N : Nat) (ha : Ap a x i) (hb : Ap b y j) (h1 : -(N : Rat) ≤ x - y) (h2 : x - y ≤ N) (hij : i + j ≤ 8388608) (hN : N ≤ 1000000) : Ap (fsub .f32 a b) (x - y) (i + j + N + 1) := by
  obtain ⟨p, vp, p1, p2⟩ := ha
  obtain ⟨q, vq, q1, q2⟩ := hb
  have k1 := ku hij
  have t := tiny
  have hu := u_pos
  have c1 : ((1 : Nat) : Rat) = 1 := rfl
  have i0 := ku0 i
  have j0 := ku0 j
  rw [Rat.natCast_add, Rat.add_mul] at k1
  have hB := big (n := N + 1) (by omega)
  rw [Rat.natCast_add, c1] at hB
  obtain ⟨w, z, e, vz, z1, z2, _⟩ := sub_val rm_single vp vq (B := (N : Rat) + 1) (by grind) (by grind) hB
  rw [frac] at z1 z2
  refine ⟨z, ?_, ?_, ?_⟩
  · show Vl single ((single.sub a b).getD (qnan .f32)) z
    rw [e]; exact vz
  · rw [Rat.natCast_add, Rat.natCast_add, Rat.natCast_add, c1, Rat.add_mul, Rat.add_mul, Rat.add_mul]
    have := ku0 N
    grind
  · rw [Rat.natCast_add, Rat.natCast_add, Rat.natCast_add, c1, Rat.add_mul, Rat.add_mul, Rat.add_mul]
    have := ku0 N
    grind
theorem mul_abs {p q P Q : Rat} (hP : 0 ≤ P) (hQ : 0 ≤ Q) (h1 : -P ≤ p) (h2 : p ≤ P) (h3 : -Q ≤ q) (h4 : q ≤ Q) : -(P * Q) ≤ p * q ∧ p * q ≤ P * Q := by
  have a1 := Rat.mul_nonneg (show 0 ≤ P - p by grind) (show 0 ≤ Q - q by grind)
  have a2 := Rat.mul_nonneg (show 0 ≤ P - p by grind) (show 0 ≤ Q + q by grind)
  have a3 := Rat.mul_nonneg (show 0 ≤ P + p by grind) (show 0 ≤ Q - q by grind)
  have a4 := Rat.mul_nonneg (show 0 ≤ P + p by grind) (show 0 ≤ Q + q by grind)
  constructor <;> grind
theorem ap_mul {a b : Nat} {x y : Rat} {i j : Nat} (X Y : Nat) (ha : Ap a x i) (hb : Ap b y j) (h1 : -(X : Rat) ≤ x) (h2 : x ≤ X) (h3 : -(Y : Rat) ≤ y) (h4 : y ≤ Y) (hi : i ≤ 2000) (hj : j ≤ 2000) (hX : X ≤ 1000) (hY : Y ≤ 1000) : Ap (fmul .f32 a b) (x * y) (i * Y + X * j + X * Y + 2) := by
  obtain ⟨p, vp, p1, p2⟩ := ha
  obtain ⟨q, vq, q1, q2⟩ := hb
  have t := tiny
  have hu := u_pos
  have c1 : ((1 : Nat) : Rat) = 1 := rfl
  have c2 : ((2 : Nat) : Rat) = 2 := rfl
  have i0 := ku0 i
  have j0 := ku0 j
  have X0 : 0 ≤ (X : Rat) := Rat.natCast_nonneg
  have Y0 : 0 ≤ (Y : Rat) := Rat.natCast_nonneg
  have b1 : i * Y ≤ 2000 * 1000 := Nat.mul_le_mul hi hY
  have b2 : X * j ≤ 1000 * 2000 := Nat.mul_le_mul hX hj
  have b3 : X * Y ≤ 1000 * 1000 := Nat.mul_le_mul hX hY
  have b4 : i * j ≤ 2000 * 2000 := Nat.mul_le_mul hi hj
  have k1 := ku (k := i * Y + X * j + 1) (by omega)
  have k2 := ku (k := i * j) (by omega)
  -- the product of the errors
  have k3 : ((i * j : Nat) : Rat) * u * u ≤ 1 * u := Rat.mul_le_mul_of_nonneg_right k2 (Rat.le_of_lt hu)
  rw [Rat.natCast_mul] at k3
  rw [Rat.natCast_add, Rat.natCast_add, Rat.natCast_mul, Rat.natCast_mul, c1, Rat.add_mul, Rat.add_mul] at k1
  obtain ⟨m1, m2⟩ := mul_abs (p := p - x) (q := y) i0 Y0 (by grind) (by grind) h3 h4
  obtain ⟨m3, m4⟩ := mul_abs (p := p - x) (q := q - y) i0 j0 (by grind) (by grind) (by grind) (by grind)
  obtain ⟨m5, m6⟩ := mul_abs (p := x) (q := q - y) X0 j0 h1 h2 (by grind) (by grind)
  obtain ⟨m7, m8⟩ := mul_abs (p := x) (q := y) X0 Y0 h1 h2 h3 h4
  have e0 : p * q = x * y + (p - x) * y + (p - x) * (q - y) + x * (q - y) := by grind
  have hB := big (n := X * Y + 1) (by omega)
  rw [Rat.natCast_add, Rat.natCast_mul, c1] at hB
  have d1 : p * q ≤ x * y + ((i : Rat) * Y * u + X * j * u + u) := by grind
  have d2 : x * y ≤ p * q + ((i : Rat) * Y * u + X * j * u + u) := by grind
  obtain ⟨w, z, e, vz, z1, z2, _⟩ := mul_val rm_single vp vq (B := (X : Rat) * Y + 1) (by grind) (by grind) hB
  rw [frac] at z1 z2
  have XY0 : 0 ≤ (X : Rat) * Y * u := Rat.mul_nonneg (Rat.mul_nonneg X0 Y0) (Rat.le_of_lt hu)
  refine ⟨z, ?_, ?_, ?_⟩
  · show Vl single ((single.mul a b).getD (qnan .f32)) z
    rw [e]; exact vz
  · rw [Rat.natCast_add, Rat.natCast_add, Rat.natCast_add, Rat.natCast_mul, Rat.natCast_mul, Rat.natCast_mul, c2]
    grind
  · rw [Rat.natCast_add, Rat.natCast_add, Rat.natCast_add, Rat.natCast_mul, Rat.natCast_mul, Rat.natCast_mul, c2]
    grind
/-- A chance. -/
theorem ap_div {a b : Nat} {x y v : Rat} (ha : V a x) (hb : V b y) (hy : y ≠ 0) (hv : v * y = x) (h0 : 0 ≤ v) (h1 : v ≤ 1) : ∃ z, V (fdiv .f32 a b) z ∧ 0 ≤ z ∧ z ≤ 1 ∧ z ≤ v + 3 * u ∧ v ≤ z + 3 * u := by
  have hB := big (n := 2) (by omega)
  have t := tiny
  have hu := u_pos
  obtain ⟨w, z, e, vz, z1, z2, z3, _⟩ := div_val rm_single ha hb hy hv (B := 1) (by grind) h1 (by have c2 : ((2 : Nat) : Rat) = 2 := rfl; grind)
  rw [frac] at z1 z2
  obtain ⟨g0, g1⟩ := z3 h0 h1
  refine ⟨z, ?_, g0, g1, by grind, by grind⟩
  show Vl single ((single.div a b).getD (qnan .f32)) z
  rw [e]; exact vz
/-- Whole numbers are kept. -/
theorem whole {v z : Rat} {n : Int} (h : Wh single v z) (e : v = n) (hn : -16777216 < n ∧ n < 16777216) : z = n := by
  have h1 := h (by rw [top24, e]; have := Rat.intCast_lt_intCast.2 hn.2; exact this) (by rw [top24, e]; have := Rat.intCast_lt_intCast.2 hn.1; exact this) n
  rw [e] at h1
  have a := h1.1 Rat.le_refl
  have b := h1.2 Rat.le_refl
  grind
theorem ibig {n : Int} (hn : -16777216 < n ∧ n < 16777216) : -(16777216 : Rat) ≤ n ∧ (n : Rat) ≤ 16777216 := by
  have h1 := Rat.intCast_lt_intCast.2 hn.1
  have h2 := Rat.intCast_lt_intCast.2 hn.2
  have c : ((-16777216 : Int) : Rat) = -16777216 := rfl
  have c' : ((16777216 : Int) : Rat) = 16777216 := rfl
  rw [c] at h1
  rw [c'] at h2
  exact ⟨Rat.le_of_lt h1, Rat.le_of_lt h2⟩
theorem big24 : (16777216 : Rat) ≤ tw 100 := big (n := 16777216) (by omega)
theorem v_int {n : Int} (hn : -16777216 < n ∧ n < 16777216) : V (FloatKind.f32.nearest n) n := by
  have hb : ((n.natAbs : Nat) : Rat) * tw 0 ≤ tw 100 := by
    rw [tw_zero, Rat.mul_one]
    exact big (by omega)
  obtain ⟨x, h1, h2, h3, h4, h5⟩ := write_val rm_single (decide (n < 0)) (m := n.natAbs) (p := 0) hb
  have hx : x = ((n.natAbs : Nat) : Rat) := by
    rw [tw_zero, Rat.mul_one] at h5
    obtain ⟨a, b⟩ := h5 (by
      rw [top24]
      have h : n.natAbs < 16777216 := by omega
      exact Rat.natCast_lt_natCast.2 h) n.natAbs
    have a' := a Rat.le_refl
    have b' := b Rat.le_refl
    grind
  have e : (n : Rat) = sg (decide (n < 0)) * x := by
    rw [hx]
    by_cases c : n < 0
    · have : n = -((n.natAbs : Nat) : Int) := by omega
      rw [decide_eq_true c]
      simp only [sg, if_true]
      rw [show (n : Rat) = ((-((n.natAbs : Nat) : Int) : Int) : Rat) from congrArg (fun z : Int => (z : Rat)) this, Rat.intCast_neg]
      show -((n.natAbs : Nat) : Rat) = _
      grind
    · have : n = ((n.natAbs : Nat) : Int) := by omega
      rw [decide_eq_false c]
      simp only [sg, Bool.false_eq_true, if_false]
      rw [show (n : Rat) = ((((n.natAbs : Nat) : Int) : Int) : Rat) from congrArg (fun z : Int => (z : Rat)) this]
      show ((n.natAbs : Nat) : Rat) = _
      grind
  rw [e]
  exact h1
theorem v_addi {a b : Nat} {x y : Int} (ha : V a x) (hb : V b y) (h : -16777216 < x + y ∧ x + y < 16777216) : V (fadd .f32 a b) ((x + y : Int) : Rat) := by
  have e : (x : Rat) + y = ((x + y : Int) : Rat) := (Rat.intCast_add _ _).symm
  obtain ⟨b1, b2⟩ := ibig h
  obtain ⟨w, z, g, vz, _, _, hw⟩ := add_val rm_single ha hb (B := 16777216) (by rw [e]; exact b1) (by rw [e]; exact b2) big24
  rw [whole hw e h] at vz
  show Vl single ((single.add a b).getD (qnan .f32)) _
  rw [g]; exact vz
theorem v_subi {a b : Nat} {x y : Int} (ha : V a x) (hb : V b y) (h : -16777216 < x - y ∧ x - y < 16777216) : V (fsub .f32 a b) ((x - y : Int) : Rat) := by
  have e : (x : Rat) - y = ((x - y : Int) : Rat) := (Rat.intCast_sub _ _).symm
  obtain ⟨b1, b2⟩ := ibig h
  obtain ⟨w, z, g, vz, _, _, hw⟩ := sub_val rm_single ha hb (B := 16777216) (by rw [e]; exact b1) (by rw [e]; exact b2) big24
  rw [whole hw e h] at vz
  show Vl single ((single.sub a b).getD (qnan .f32)) _
  rw [g]; exact vz
theorem v_muli {a b : Nat} {x y : Int} (ha : V a x) (hb : V b y) (h : -16777216 < x * y ∧ x * y < 16777216) : V (fmul .f32 a b) ((x * y : Int) : Rat) := by
  have e : (x : Rat) * y = ((x * y : Int) : Rat) := (Rat.intCast_mul _ _).symm
  obtain ⟨b1, b2⟩ := ibig h
  obtain ⟨w, z, g, vz, _, _, hw⟩ := mul_val rm_single ha hb (B := 16777216) (by rw [e]; exact b1) (by rw [e]; exact b2) big24
  rw [whole hw e h] at vz
  show Vl single ((single.mul a b).getD (qnan .f32)) _
  rw [g]; exact vz
theorem v_zero : V 0 ((0 : Int) : Rat) := v_int (n := 0) (by omega)
theorem v_one : V 1065353216 ((1 : Int) : Rat) := v_int (n := 1) (by omega)
theorem v_order {a b : Nat} {x y : Rat} (ha : V a x) (hb : V b y) : ∃ o, FloatKind.f32.format.order a b = some o ∧ (o = .lt ↔ x < y) ∧ (o = .eq ↔ x = y) ∧ (o = .gt ↔ y < x) := order_val ha hb
theorem v_fin {a : Nat} {x : Rat} (ha : V a x) : flo.fin.sp a = true := by
  have h0 : x - x = ((0 : Int) : Rat) := by have : ((0 : Int) : Rat) = 0 := rfl; grind
  have h0' : ((0 : Int) : Rat) = 0 := rfl
  obtain ⟨w, z, g, vz, _, _, hw⟩ := sub_val rm_single ha ha (B := 16777216) (by rw [h0]; exact (ibig (n := 0) (by omega)).1) (by rw [h0]; exact (ibig (n := 0) (by omega)).2) big24
  rw [whole hw h0 (by omega)] at vz
  have e : fsub .f32 a a = w := by show (single.sub a a).getD (qnan .f32) = w; rw [g]; rfl
  unfold flo.fin.sp
  rw [e]
  obtain ⟨o, ho, _, h2, _⟩ := v_order vz v_zero
  rw [ho, h2.2 rfl]
  rfl
theorem v_least {a : Nat} {x : Rat} (ha : V a x) (h : 0 ≤ x) : flo.least.sp a = true := by
  unfold flo.least.sp flo.nn.sp
  rw [v_fin ha]
  obtain ⟨o, ho, h1, h2, h3⟩ := v_order ha v_zero
  have h0' : ((0 : Int) : Rat) = 0 := rfl
  rw [h0'] at h1 h2 h3
  rw [ho]
  cases o
  · have := h1.1 rfl
    grind
  · rfl
  · rfl
end fp

end Go.Proofs.Ytgblgofmdhekiaa.Ab
