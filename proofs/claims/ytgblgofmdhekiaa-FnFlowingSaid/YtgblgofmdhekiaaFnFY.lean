/-
  Functions: the law of flows, what it asks.
-/
import Derived.Test.YtgblgofmdhekiaaFnFV
namespace Go.Proofs.Ytgblgofmdhekiaa.Ab
open Go
set_option linter.unusedVariables false
set_option linter.unusedSimpArgs false
set_option maxRecDepth 100000

namespace flw
open fp
theorem termC {s b z G F d : Rat} (hs : 0 < s) (hF : 0 ≤ F) (hG : 0 ≤ G) (hd : 0 ≤ d) (h : (G = 0 ∧ z ≤ b) ∨ (b ≤ z ∧ 2 * s * G ≤ (z - b) + d ∧ z - b ≤ 2 * s * G + d)) : G * (s * G + b) ≤ F * (s * F + b) + (-z) * F + z * G + d * F + d * G := by
  have sq : ∀ x : Rat, 0 ≤ x * x := fun x => by
    rcases rlt x 0 with c | c
    · have := Rat.mul_nonneg (show 0 ≤ -x by grind) (show 0 ≤ -x by grind)
      grind
    · exact Rat.mul_nonneg c c
  rcases h with ⟨h1, h2⟩ | ⟨h1, h2, h3⟩
  · subst h1
    have a := Rat.mul_nonneg hF (show 0 ≤ b - z by grind)
    have c := Rat.mul_nonneg (Rat.le_of_lt hs) (sq F)
    have e := Rat.mul_nonneg hd hF
    grind
  · have a := Rat.mul_nonneg (show 0 ≤ (2 * s * G + b - z) + d by grind) hF
    have c := Rat.mul_nonneg (show 0 ≤ d - (2 * s * G + b - z) by grind) hG
    have e := Rat.mul_nonneg (Rat.le_of_lt hs) (sq (F - G))
    grind
theorem termE {s b z F d : Rat} (hF : 0 ≤ F) (hd : 0 ≤ d) (h : (F = 0 ∧ z ≤ b) ∨ (b ≤ z ∧ s * F ≤ (z - b) + d ∧ z - b ≤ s * F + d)) : F * (s * F + b) ≤ z * F + d * F ∧ z * F ≤ F * (s * F + b) + d * F := by
  rcases h with ⟨h1, h2⟩ | ⟨h1, h2, h3⟩
  · subst h1
    constructor <;> grind
  · have a := Rat.mul_nonneg (show 0 ≤ (z - b) + d - s * F by grind) hF
    have c := Rat.mul_nonneg (show 0 ≤ s * F + d - (z - b) by grind) hF
    constructor <;> grind
theorem termL {s b z G d : Rat} (hb : 0 ≤ b) (hG : 0 ≤ G) (h : (G = 0 ∧ z ≤ b) ∨ (b ≤ z ∧ 2 * s * G ≤ (z - b) + d ∧ z - b ≤ 2 * s * G + d)) : (z - d) * G ≤ 2 * (G * (s * G + b)) := by
  rcases h with ⟨h1, h2⟩ | ⟨h1, h2, h3⟩
  · subst h1; grind
  · have a := Rat.mul_nonneg (show 0 ≤ 2 * s * G + d - (z - b) by grind) hG
    have c := Rat.mul_nonneg hb hG
    grind
/-- How far off a level may be. -/
def de (z : Rat) : Rat := 4 * u * z + u / 100000
theorem de0 {z : Rat} (h : 0 ≤ z) : 0 ≤ de z := by
  have hu := u_pos
  have := Rat.mul_nonneg (Rat.le_of_lt hu) h
  unfold de; grind
theorem cheaper {n : Nat} {s b G F : Nat → Rat} {z : Rat} (hz : 0 ≤ z) (hs : ∀ i, i < n → 0 < s i) (hG : ∀ i, i < n → Fl z (2 * s i) (b i) (G i)) (hF : ∀ i, i < n → 0 ≤ F i) :
    co s b G n ≤ co s b F n + (-z) * sm F n + z * sm G n + de z * sm F n + de z * sm G n := by
  have h := sm_le (f := fun i => G i * (s i * G i + b i)) (g := fun i => F i * (s i * F i + b i) + (-z) * F i + z * G i + de z * F i + de z * G i) n fun i hi => by
    obtain ⟨g0, g1⟩ := hG i hi
    exact termC (hs i hi) (hF i hi) g0 (de0 hz) g1
  rw [sm_add, sm_add, sm_add, sm_add, sm_mul, sm_mul, sm_mul, sm_mul] at h
  exact h
theorem evenC {n : Nat} {s b F : Nat → Rat} {z : Rat} (hz : 0 ≤ z) (hF : ∀ i, i < n → Fl z (s i) (b i) (F i)) : co s b F n ≤ z * sm F n + de z * sm F n ∧ z * sm F n ≤ co s b F n + de z * sm F n := by
  have h1 := sm_le (f := fun i => F i * (s i * F i + b i)) (g := fun i => z * F i + de z * F i) n fun i hi => (termE (hF i hi).1 (de0 hz) (hF i hi).2).1
  have h2 := sm_le (f := fun i => z * F i) (g := fun i => F i * (s i * F i + b i) + de z * F i) n fun i hi => (termE (hF i hi).1 (de0 hz) (hF i hi).2).2
  rw [sm_add, sm_mul, sm_mul] at h1
  rw [sm_add, sm_mul, sm_mul] at h2
  exact ⟨h1, h2⟩
theorem lowC {n : Nat} {s b G : Nat → Rat} {z : Rat} (hb : ∀ i, i < n → 0 ≤ b i) (hG : ∀ i, i < n → Fl z (2 * s i) (b i) (G i)) : (z - de z) * sm G n ≤ 2 * co s b G n := by
  have h := sm_le (f := fun i => (z - de z) * G i) (g := fun i => 2 * (G i * (s i * G i + b i))) n fun i hi => termL (hb i hi) (hG i hi).1 (hG i hi).2
  rw [sm_mul, sm_mul] at h
  exact h
/-- With tolls it costs least, nearly. -/
theorem least {n : Nat} {s b G F : Nat → Rat} {z T : Rat} (hz : 0 ≤ z) (hz1 : z ≤ 4 * T + 5) (hT : 0 ≤ T) (hT8 : T ≤ 8) (hs : ∀ i, i < n → 0 < s i) (hb : ∀ i, i < n → 0 ≤ b i) (hG : ∀ i, i < n → Fl z (2 * s i) (b i) (G i)) (hF : ∀ i, i < n → 0 ≤ F i)
    (g1 : sm G n ≤ T + (40 * T + 1601) * u) (g2 : T ≤ sm G n + (40 * T + 1601) * u) (f1 : sm F n ≤ T + (40 * T + 3201) * u) (f2 : T ≤ sm F n + (40 * T + 3201) * u) (hc : 0 ≤ co s b F n) : co s b G n + 13000 * u ≤ co s b F n + (1 + co s b F n) / 100 := by
  have hu := u_pos
  have u1 := u_one
  have h := cheaper hz hs hG hF
  have hl := lowC hb hG
  generalize co s b G n = C at *
  generalize co s b F n = X at *
  generalize sm G n = a at *
  generalize sm F n = c at *
  have uz := Rat.mul_nonneg (Rat.le_of_lt hu) hz
  -- the difference
  have Tu := Rat.mul_le_mul_of_nonneg_right hT8 (Rat.le_of_lt hu)
  have k2 := Rat.mul_le_mul_of_nonneg_left (show a + c ≤ 17 by grind) (de0 hz)
  unfold de at h k2 hl
  rcases rlt 2 T with c2 | c2
  · have k1 := Rat.mul_le_mul_of_nonneg_left (show a - c ≤ 5442 * u by grind) hz
    have hD2 : C ≤ X + 5510 * (u * z) + u := by grind
    have a1 : 19 / 10 ≤ a := by grind
    have uz2 := Rat.mul_le_mul_of_nonneg_right (show u * 1000000 ≤ 1 by grind) hz
    have k3 := Rat.mul_le_mul_of_nonneg_left a1 (show 0 ≤ (z - (4 * u * z + u / 100000)) + u by grind)
    have ua := Rat.mul_le_mul_of_nonneg_left (show a ≤ 9 by grind) (Rat.le_of_lt hu)
    have k4 : 9 / 10 * z ≤ C + u * 100 := by grind
    clear h hl k1 k2 k3 ua g1 g2 f1 f2 hs hb hG hF
    grind
  · have Tu2 := Rat.mul_le_mul_of_nonneg_right c2 (Rat.le_of_lt hu)
    have k1 := Rat.mul_le_mul_of_nonneg_left (show a - c ≤ 4962 * u by grind) hz
    have hD2 : C ≤ X + 5030 * (u * z) + u := by grind
    have z13 : z ≤ 13 := by grind
    have k3 := Rat.mul_le_mul_of_nonneg_left z13 (Rat.le_of_lt hu)
    clear h hl k1 k2 g1 g2 f1 f2 hs hb hG hF
    grind
end flw

end Go.Proofs.Ytgblgofmdhekiaa.Ab
