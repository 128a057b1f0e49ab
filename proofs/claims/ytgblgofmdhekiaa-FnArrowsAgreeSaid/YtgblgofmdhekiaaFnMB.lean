/-
  Floats as exact numbers, all scaled alike: sums, products and quotients are rounded, the plain law.
-/
import Derived.Test.YtgblgofmdhekiaaFnMA
namespace Go.Proofs.Ytgblgofmdhekiaa.Ab
open Go
set_option linter.unusedVariables false
set_option linter.unusedSimpArgs false

namespace fl
def pw (n : Nat) : Nat := 2 ^ n
theorem pw_pos (n : Nat) : 0 < pw n := Nat.two_pow_pos n
theorem pw_add (a n : Nat) : 2 ^ (a + n) = 2 ^ a * pw n := Nat.pow_add 2 a n
def big : Nat := pw 5000
theorem big_pos : 0 < big := pw_pos 5000
theorem big_add (a : Nat) : 2 ^ (a + 5000) = 2 ^ a * big := pw_add a 5000
def sv (s : Bool) (m : Nat) (e : Int) : Int := if s then -(sc m e : Int) else sc m e
/-- What a word stands for, scaled. -/
def val (k : FloatKind) (x : Nat) : Int := match k.decode x with
  | .number s m e => sv s m e
  | _ => 0
def fin (k : FloatKind) (x : Nat) : Prop := ∃ s m e, k.decode x = .number s m e
structure Rep (k : FloatKind) (n : Nat) (r : Int) : Prop where
  n : n < 2 * k.format.binade
  lo : k.format.leastPlace ≤ r
  hi : r ≤ k.format.leastPlace + (2 ^ k.format.exponentBits - 3 : Nat)
theorem val_eq {k : FloatKind} {x : Nat} {s : Bool} {m : Nat} {e : Int} (h : k.decode x = .number s m e) : val k x = sv s m e := by
  unfold val; rw [h]
theorem least_ge (k : FloatKind) : -1074 ≤ k.format.leastPlace ∧ k.format.leastPlace ≤ -149 := by cases k <;> decide
theorem place_of {k : FloatKind} {x : Nat} {s : Bool} {m : Nat} {e : Int} (h : k.decode x = .number s m e) : k.format.leastPlace ≤ e ∧ e ≤ 971 := by
  have hb0 : 0 < k.format.binade := Nat.two_pow_pos _
  unfold FloatKind.decode Ieee.Format.read at h
  simp only [] at h
  split at h
  · simp only [Ieee.Datum.number.injEq] at h
    obtain ⟨_, _, rfl⟩ := h
    have := (least_ge k).2
    exact ⟨Int.le_refl _, by omega⟩
  · split at h
    · rename_i h1
      simp only [Ieee.Datum.number.injEq] at h
      obtain ⟨_, _, rfl⟩ := h
      refine ⟨by omega, ?_⟩
      have h2 : x % k.format.signWeight / k.format.binade < 2 ^ k.format.exponentBits - 1 := (Nat.div_lt_iff_lt_mul hb0).2 h1
      cases k
      · have e1 : FloatKind.f32.format.exponentBits = 8 := rfl
        have e2 : FloatKind.f32.format.leastPlace = -149 := by decide
        rw [e1] at h2; rw [e2]; omega
      · have e1 : FloatKind.f64.format.exponentBits = 11 := rfl
        have e2 : FloatKind.f64.format.leastPlace = -1074 := by decide
        rw [e1] at h2; rw [e2]; omega
    · split at h <;> cases h
/-- What a number is rounded to. -/
structure Rn (k : FloatKind) (V : Int) (w : Nat) : Prop where
  fin : fin k w
  le : ∀ {n : Nat} {r : Int}, Rep k n r → V ≤ sc n r → val k w ≤ sc n r
  ge : ∀ {n : Nat} {r : Int}, Rep k n r → (sc n r : Int) ≤ V → (sc n r : Int) ≤ val k w
  nle : ∀ {n : Nat} {r : Int}, Rep k n r → V ≤ -(sc n r : Int) → val k w ≤ -(sc n r : Int)
  nge : ∀ {n : Nat} {r : Int}, Rep k n r → -(sc n r : Int) ≤ V → -(sc n r : Int) ≤ val k w
theorem write_rn {k : FloatKind} {s : Bool} {mag : Nat} {place : Int} (hp : -4900 ≤ place) {M : Nat} {q : Int} (hr : Rep k M q) (h : sc mag place ≤ sc M q) : Rn k (sv s mag place) (k.encode (.number s mag place)) := by
  have hl := least_ge k
  have he : 2 ≤ k.format.exponentBits := by cases k <;> decide
  obtain ⟨m', p', h1, h2, h3, h4⟩ := nearest_le (f := k.format) (neg := s) (mag := mag) (place := place) (by omega) hp hr.n hr.lo hr.hi he h
  have hread : k.decode (k.encode (.number s mag place)) = .number s m' p' := h1
  have hv := val_eq hread
  have up : ∀ {n : Nat} {r : Int}, Rep k n r → sc mag place ≤ sc n r → sc m' p' ≤ sc n r := fun {n r} hnr hle => by
    obtain ⟨m2, p2, g1, g2, _⟩ := nearest_le (f := k.format) (neg := s) (mag := mag) (place := place) (by omega) hp hnr.n hnr.lo hnr.hi he hle
    rw [h1] at g1
    simp only [Ieee.Datum.number.injEq] at g1
    obtain ⟨_, rfl, rfl⟩ := g1
    exact g2
  have down : ∀ {n : Nat} {r : Int}, Rep k n r → sc n r ≤ sc mag place → sc n r ≤ sc m' p' := fun {n r} hnr hle => h4 n r hnr.n hnr.lo hle
  have z0 : Rep k 0 (k.format.leastPlace) := ⟨by cases k <;> decide, Int.le_refl _, by omega⟩
  refine ⟨⟨_, _, _, hread⟩, fun {n r} hnr hle => ?_, fun {n r} hnr hle => ?_, fun {n r} hnr hle => ?_, fun {n r} hnr hle => ?_⟩ <;> rw [hv] <;> cases s <;> simp only [sv, Bool.false_eq_true, if_false, if_true] at hle ⊢
  · have := up hnr (by omega); omega
  · omega
  · have := down hnr (by omega); omega
  · have e : sc n r = 0 := by omega
    have : sc m' p' ≤ sc 0 k.format.leastPlace := up z0 (by rw [sc_zero]; omega)
    rw [sc_zero] at this
    omega
  · have e : sc mag place = 0 := by omega
    have : sc m' p' ≤ sc 0 k.format.leastPlace := up z0 (by rw [sc_zero]; omega)
    rw [sc_zero] at this
    omega
  · have := down hnr (by omega); omega
  · omega
  · have := up hnr (by omega); omega
/-- A number that the format has is kept. -/
theorem Rn.exact {k : FloatKind} {V : Int} {w : Nat} (h : Rn k V w) {n : Nat} {r : Int} (hr : Rep k n r) (hv : V = sc n r ∨ V = -(sc n r : Int)) : val k w = V := by
  rcases hv with hv | hv
  · have a := h.le hr (by omega); have b := h.ge hr (by omega); omega
  · have a := h.nle hr (by omega); have b := h.nge hr (by omega); omega
theorem val_bound {k : FloatKind} {x : Nat} {s : Bool} {m : Nat} {e : Int} (h : k.decode x = .number s m e) : (val k x).natAbs = sc m e := by
  rw [val_eq h]; unfold sv; split <;> omega
theorem signed_sc (s : Bool) (m d : Nat) (e base : Int) (he : e = base + d) (hb : -5000 ≤ base) : Ieee.signed s m d * 2 ^ (base + 5000).toNat = sv s m e := by
  subst he
  unfold Ieee.signed sv
  rw [sc_add _ _ _ hb]
  simp only [Nat.shiftLeft_eq, sc]
  split
  · rw [Int.neg_mul]; push_cast; rfl
  · push_cast; rfl
theorem sum_sv {s t : Bool} {m n : Nat} {i j : Int} (hi : -4000 ≤ i) (hj : -4000 ≤ j) : ∃ σ μ β, (Ieee.Datum.number s m i).sum (.number t n j) = some (.number σ μ β) ∧ -4000 ≤ β ∧ sv σ μ β = sv s m i + sv t n j := by
  refine ⟨_, _, _, rfl, by omega, ?_⟩
  have e1 := signed_sc s m (i - min i j).toNat i (min i j) (by omega) (by omega)
  have e2 := signed_sc t n (j - min i j).toNat j (min i j) (by omega) (by omega)
  rw [← e1, ← e2, ← Int.add_mul]
  generalize Ieee.signed s m (i - min i j).toNat + Ieee.signed t n (j - min i j).toNat = T
  unfold sv sc
  by_cases h0 : T = 0
  · subst h0; simp
  · rw [if_neg h0]
    by_cases hn : T < 0
    · have : decide (T < 0) = true := decide_eq_true hn
      simp only [this, if_true]
      push_cast
      rw [show ((T.natAbs : Nat) : Int) = -T from by omega, Int.neg_mul, Int.neg_neg]
    · have : decide (T < 0) = false := decide_eq_false hn
      simp only [this, Bool.false_eq_true, if_false]
      push_cast
      rw [show ((T.natAbs : Nat) : Int) = T from by omega]
theorem sv_abs (s : Bool) (m : Nat) (e : Int) : (sv s m e).natAbs = sc m e := by unfold sv; split <;> omega
theorem add_rn {k : FloatKind} {x y : Nat} (hx : fin k x) (hy : fin k y) {M : Nat} {q : Int} (hr : Rep k M q) (h : (val k x + val k y).natAbs ≤ sc M q) : Rn k (val k x + val k y) (fadd k x y) := by
  obtain ⟨s, m, i, hx⟩ := hx
  obtain ⟨t, n, j, hy⟩ := hy
  have px := place_of hx
  have py := place_of hy
  have hl := least_ge k
  obtain ⟨σ, μ, β, h1, h2, h3⟩ := sum_sv (s := s) (t := t) (m := m) (n := n) (i := i) (j := j) (by omega) (by omega)
  rw [val_eq hx, val_eq hy] at h ⊢
  rw [← h3] at h ⊢
  rw [sv_abs] at h
  have hx' : k.format.read x = .number s m i := hx
  have hy' : k.format.read y = .number t n j := hy
  have e : fadd k x y = k.encode (.number σ μ β) := by
    unfold fadd Ieee.Format.add
    rw [hx', hy', h1]; rfl
  rw [e]
  exact write_rn (by omega) hr h
theorem sub_rn {k : FloatKind} {x y : Nat} (hx : fin k x) (hy : fin k y) {M : Nat} {q : Int} (hr : Rep k M q) (h : (val k x - val k y).natAbs ≤ sc M q) : Rn k (val k x - val k y) (fsub k x y) := by
  obtain ⟨s, m, i, hx⟩ := hx
  obtain ⟨t, n, j, hy⟩ := hy
  have px := place_of hx
  have py := place_of hy
  have hl := least_ge k
  obtain ⟨σ, μ, β, h1, h2, h3⟩ := sum_sv (s := s) (t := !t) (m := m) (n := n) (i := i) (j := j) (by omega) (by omega)
  have hn : sv (!t) n j = - sv t n j := by unfold sv; cases t <;> simp
  rw [val_eq hx, val_eq hy] at h ⊢
  rw [hn, ← Int.sub_eq_add_neg] at h3
  rw [← h3] at h ⊢
  rw [sv_abs] at h
  have hx' : k.format.read x = .number s m i := hx
  have hy' : k.format.read y = .number t n j := hy
  have e : fsub k x y = k.encode (.number σ μ β) := by
    unfold fsub Ieee.Format.sub
    have h1' : (Ieee.Datum.number s m i).sum (Ieee.Datum.number t n j).opposite = some (.number σ μ β) := h1
    rw [hx', hy', h1']; rfl
  rw [e]
  exact write_rn (by omega) hr h
theorem sc_mul (m n : Nat) (i j : Int) (hi : -2000 ≤ i) (hj : -2000 ≤ j) : sc m i * sc n j = sc (m * n) (i + j) * big := by
  unfold sc
  have : (i + 5000).toNat + (j + 5000).toNat = (i + j + 5000).toNat + 5000 := by omega
  rw [Nat.mul_mul_mul_comm, ← Nat.pow_add, this, big_add, ← Nat.mul_assoc]
/-- A product: within what the magnitudes say. -/
theorem mul_rn {k : FloatKind} {x y : Nat} (hx : fin k x) (hy : fin k y) {A B M : Nat} {a b q : Int} (ha : -2000 ≤ a) (hb : -2000 ≤ b) (hax : (val k x).natAbs ≤ sc A a) (hby : (val k y).natAbs ≤ sc B b) (hr : Rep k M q) (h : sc (A * B) (a + b) ≤ sc M q) :
    fin k (fmul k x y) ∧ (val k (fmul k x y)).natAbs ≤ sc M q := by
  obtain ⟨s, m, i, hx⟩ := hx
  obtain ⟨t, n, j, hy⟩ := hy
  have px := place_of hx
  have py := place_of hy
  have hl := least_ge k
  rw [val_bound hx] at hax
  rw [val_bound hy] at hby
  have hx' : k.format.read x = .number s m i := hx
  have hy' : k.format.read y = .number t n j := hy
  have e : fmul k x y = k.encode (.number (s ^^ t) (m * n) (i + j)) := by
    unfold fmul Ieee.Format.mul
    rw [hx', hy']; rfl
  have hle : sc (m * n) (i + j) ≤ sc M q := by
    refine Nat.le_trans ?_ h
    have := Nat.mul_le_mul hax hby
    rw [sc_mul _ _ _ _ (by omega) (by omega), sc_mul _ _ _ _ ha hb] at this
    exact Nat.le_of_mul_le_mul_right this big_pos
  have R := write_rn (k := k) (s := s ^^ t) (mag := m * n) (place := i + j) (by omega) hr hle
  rw [e]
  have a1 := sv_abs (s ^^ t) (m * n) (i + j)
  have a2 := R.le hr (by omega)
  have a3 := R.nge hr (by omega)
  exact ⟨R.fin, by omega⟩
/-- A quotient: within what the magnitudes say. -/
theorem div_rn {k : FloatKind} {x y : Nat} (hx : fin k x) (hy : fin k y) (hy0 : val k y ≠ 0) {M : Nat} {q : Int} (hr : Rep k M q) (h : (val k x).natAbs * big ≤ sc M q * (val k y).natAbs) :
    fin k (fdiv k x y) ∧ (val k (fdiv k x y)).natAbs ≤ sc M q := by
  obtain ⟨s, m, i, hx⟩ := hx
  obtain ⟨t, n, j, hy⟩ := hy
  have px := place_of hx
  have py := place_of hy
  have hl := least_ge k
  rw [val_bound hx, val_bound hy] at h
  have hn0 : n ≠ 0 := by
    intro h0; subst h0
    apply hy0
    rw [val_eq hy]; unfold sv; rw [sc_zero]; split <;> rfl
  have hx' : k.format.read x = .number s m i := hx
  have hy' : k.format.read y = .number t n j := hy
  have hq2000 : -2000 ≤ q := by have := hr.lo; omega
  generalize hmore : (k.format.fractionBits + 2) + n.log2 - m.log2 = more
  have hml : more ≤ 54 + 53 := by
    have h1 : n < 2 * k.format.binade := by
      have h2 := hy'
      unfold Ieee.Format.read at h2
      simp only [] at h2
      have hb0 : 0 < k.format.binade := Nat.two_pow_pos _
      split at h2
      · simp only [Ieee.Datum.number.injEq] at h2; omega
      · split at h2
        · simp only [Ieee.Datum.number.injEq] at h2
          have := Nat.mod_lt (y % k.format.signWeight) hb0
          omega
        · split at h2 <;> cases h2
    have h3 : n.log2 < k.format.fractionBits + 1 := by
      refine (Nat.log2_lt hn0).2 ?_
      rw [Nat.pow_succ, Nat.mul_comm]; exact h1
    have : k.format.fractionBits ≤ 52 := by cases k <;> decide
    omega
  have e : fdiv k x y = k.encode (.number (s ^^ t) (2 * (m <<< more / n) + (m <<< more % n != 0).toNat) (i - j - more - 1)) := by
    unfold fdiv Ieee.Format.div
    rw [hx', hy']
    simp only [Ieee.Datum.quotient, if_neg hn0, hmore]
    rfl
  rw [Nat.shiftLeft_eq] at e
  have hle : sc (2 * (m * 2 ^ more / n) + (m * 2 ^ more % n != 0).toNat) (i - j - more - 1) ≤ sc M q := by
    by_cases hm0 : m = 0
    · subst hm0; simp [sc_zero]
    · -- in units of the quotient's place
      -- the bound is a whole number of units
      have hunit : ∃ E : Nat, q = i - j - more + (E : Int) := by
        refine ⟨(q - (i - j - more)).toNat, ?_⟩
        have hpos : 0 ≤ q - (i - j - more) := by
          apply Int.not_lt.1
          intro hlt
          -- then the quotient would be too great
          have hbin : k.format.binade = 2 ^ k.format.fractionBits := rfl
          have hMM := hr.n
          have hk : m * 2 ^ (i + 5000).toNat * big ≤ M * 2 ^ (q + 5000).toNat * (n * 2 ^ (j + 5000).toNat) := h
          have lm := log_le hm0
          have ln := log_lt n
          have b1 : 2 ^ (m.log2 + (i + 5000).toNat + 5000) ≤ m * 2 ^ (i + 5000).toNat * big := by
            rw [big_add, Nat.pow_add]
            exact Nat.mul_le_mul_right _ (Nat.mul_le_mul_right _ lm)
          have b2 : M * 2 ^ (q + 5000).toNat * (n * 2 ^ (j + 5000).toNat) < 2 ^ (k.format.fractionBits + 1 + (q + 5000).toNat + (n.log2 + 1 + (j + 5000).toNat)) := by
            have c1 : M * 2 ^ (q + 5000).toNat < 2 ^ (k.format.fractionBits + 1 + (q + 5000).toNat) := by
              rw [Nat.pow_add]
              refine Nat.mul_lt_mul_of_pos_right ?_ (Nat.two_pow_pos _)
              rw [Nat.pow_succ, Nat.mul_comm]; exact hMM
            have c2 : n * 2 ^ (j + 5000).toNat < 2 ^ (n.log2 + 1 + (j + 5000).toNat) := by
              rw [Nat.pow_add]
              exact Nat.mul_lt_mul_of_pos_right ln (Nat.two_pow_pos _)
            rw [Nat.pow_add 2 (k.format.fractionBits + 1 + (q + 5000).toNat)]
            exact Nat.mul_lt_mul'' c1 c2
          have b3 := (Nat.pow_lt_pow_iff_right (a := 2) (by decide)).1 (Nat.lt_of_le_of_lt b1 (Nat.lt_of_le_of_lt hk b2))
          omega
        omega
      obtain ⟨E, hE⟩ := hunit
      have hN : m * 2 ^ more ≤ M * 2 ^ E * n := by
        have hk : sc m i * big ≤ sc M q * sc n j := h
        have e1 : sc m i = sc (m * 2 ^ more) (i - more) := by rw [← sc_add _ _ _ (by omega), show i - more + (more : Int) = i from by omega]
        have e2 : sc M q = sc (M * 2 ^ E) (i - j - more) := by rw [hE, sc_add _ _ _ (by omega)]
        rw [e1, e2] at hk
        have e3 : sc (M * 2 ^ E) (i - j - more) * sc n j = sc (M * 2 ^ E * n) (i - more) * big := by
          unfold sc
          have : (i - j - more + 5000).toNat + (j + 5000).toNat = (i - more + 5000).toNat + 5000 := by omega
          rw [Nat.mul_mul_mul_comm, ← Nat.pow_add, this, big_add, ← Nat.mul_assoc]
        rw [e3] at hk
        exact sc_le.1 (Nat.le_of_mul_le_mul_right hk big_pos)
      have e2 : sc M q = sc (M * 2 ^ E * 2 ^ 1) (i - j - more - 1) := by
        rw [← sc_add _ _ _ (by omega), ← sc_add _ _ _ (by omega), hE]
        congr 1; omega
      rw [e2, sc_le]
      have hn1 : 0 < n := by omega
      have hdm := Nat.div_add_mod (m * 2 ^ more) n
      generalize m * 2 ^ more = D at hN hdm ⊢
      generalize M * 2 ^ E = N at hN ⊢
      by_cases hrem : D % n = 0
      · have : D / n ≤ N := Nat.div_le_of_le_mul (by rwa [Nat.mul_comm])
        simp [hrem]; omega
      · have hb : (D % n != 0) = true := by simp [hrem]
        rw [hb]
        simp only [Bool.toNat_true]
        have : n * (D / n) < N * n := by omega
        rw [Nat.mul_comm] at this
        have := Nat.lt_of_mul_lt_mul_right this
        omega
  have R := write_rn (k := k) (s := s ^^ t) (by omega) hr hle
  rw [e]
  have a1 := sv_abs (s ^^ t) (2 * (m * 2 ^ more / n) + (m * 2 ^ more % n != 0).toNat) (i - j - more - 1)
  have a2 := R.le hr (by omega)
  have a3 := R.nge hr (by omega)
  exact ⟨R.fin, by omega⟩
/-- How two floats stand to one another. -/
theorem order_val {k : FloatKind} {x y : Nat} (hx : fin k x) (hy : fin k y) : k.format.order x y = some (compare (val k x) (val k y)) := by
  obtain ⟨s, m, i, hx⟩ := hx
  obtain ⟨t, n, j, hy⟩ := hy
  have px := place_of hx
  have py := place_of hy
  have hl := least_ge k
  have hx' : k.format.read x = .number s m i := hx
  have hy' : k.format.read y = .number t n j := hy
  unfold Ieee.Format.order
  rw [hx', hy', val_eq hx, val_eq hy]
  have e1 := signed_sc s m (i - min i j).toNat i (min i j) (by omega) (by omega)
  have e2 := signed_sc t n (j - min i j).toNat j (min i j) (by omega) (by omega)
  simp only [Ieee.Datum.order]
  rw [← e1, ← e2]
  generalize Ieee.signed s m (i - min i j).toNat = A
  generalize Ieee.signed t n (j - min i j).toNat = B
  have hp : (0 : Int) < 2 ^ (min i j + 5000).toNat := Int.pow_pos (by decide)
  generalize (2 : Int) ^ (min i j + 5000).toNat = P at hp
  congr 1
  simp only [compare, compareOfLessAndEq]
  have l1 : (A * P < B * P) ↔ (A < B) := Int.mul_lt_mul_right hp
  have l2 : (A * P = B * P) ↔ (A = B) := ⟨fun h => Int.eq_of_mul_eq_mul_right (by omega) h, fun h => by rw [h]⟩
  simp only [l1, l2]
end fl

end Go.Proofs.Ytgblgofmdhekiaa.Ab
