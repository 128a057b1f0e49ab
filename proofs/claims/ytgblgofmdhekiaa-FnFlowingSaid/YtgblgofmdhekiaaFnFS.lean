/-
  Functions: levels of even flows, and the flows.
-/
import Derived.Test.YtgblgofmdhekiaaFnFR
namespace Go.Proofs.Ytgblgofmdhekiaa.Ab
open Go
set_option linter.unusedVariables false
set_option linter.unusedSimpArgs false
set_option maxRecDepth 100000

namespace flw
open fp
theorem rl_mono {w : Nat} {x : Rat} {k l : Nat} (h : Rl w x k) (hk : k ≤ l) : Rl w x l := by
  obtain ⟨⟨z, v, h1, h2⟩, hm⟩ := h
  have := Rat.mul_le_mul_of_nonneg_right (Rat.natCast_le_natCast.2 hk) (Rat.mul_nonneg (Rat.le_of_lt u_pos) hm.nonneg)
  exact ⟨⟨z, v, by grind, by grind⟩, hm⟩
section
variable {az ys : List Nat} {n : Nat} {s b r : Nat → Rat} {R : Nat}
/-- Sums over the roads that are used. -/
def A (ys : List Nat) (r : Nat → Rat) (m : Nat) : Rat := sm (fun t => r (ix ys t)) m
def B (ys : List Nat) (b r : Nat → Rat) (m : Nat) : Rat := sm (fun t => b (ix ys t) * r (ix ys t)) m
theorem Rd.R4' (h : Rd az ys n s b r R) : (R : Rat) ≤ 4 := Rat.natCast_le_natCast.2 h.R4
theorem Rd.br (h : Rd az ys n s b r R) {i : Nat} (hi : i < n) : (b i * r i = 0 ∨ 1 ≤ 8 * (b i * r i)) ∧ b i * r i ≤ 4 * R ∧ 0 ≤ b i * r i ∧ b i * r i ≤ 4 * r i := by
  obtain ⟨_, _, _, hb, hr⟩ := h.s0 hi
  have r0 := h.r0 i hi
  have r1 := h.r1 i hi
  have b1 := h.b1 i hi
  have m1 := Rat.mul_le_mul_of_nonneg_right b1 (Rat.le_of_lt hr)
  have m0 := Rat.mul_nonneg hb (Rat.le_of_lt hr)
  refine ⟨?_, by grind, m0, m1⟩
  rcases h.b0 i hi with g | g
  · left; rw [g]; grind
  · right
    have := Rat.mul_le_mul_of_nonneg_right g (Rat.le_of_lt hr)
    grind
theorem Rd.A_in (h : Rd az ys n s b r R) {m : Nat} (hm : m ≤ n) : A ys r m ≤ (m : Rat) * R ∧ (1 ≤ m → 1 ≤ 4 * A ys r m) := by
  constructor
  · unfold A
    rw [← sm_const]
    exact sm_le m fun t ht => h.r1 _ (h.ix_lt (by omega))
  · intro h1
    have := sm_ge (f := fun t => r (ix ys t)) (n := m) (i := 0) (fun t ht => Rat.le_of_lt (h.s0 (h.ix_lt (show t < n by omega))).2.2.2.2) (by omega)
    have r0 := h.r0 _ (h.ix_lt (show 0 < n by omega))
    unfold A
    grind
theorem Rd.B_in (h : Rd az ys n s b r R) {m : Nat} (hm : m ≤ n) : 0 ≤ B ys b r m ∧ B ys b r m ≤ (m : Rat) * (4 * R) ∧ (B ys b r m = 0 ∨ 1 ≤ 8 * B ys b r m) ∧ B ys b r m ≤ 4 * A ys r m := by
  have nn : ∀ t, t < m → (0 : Rat) ≤ b (ix ys t) * r (ix ys t) := fun t ht => (h.br (h.ix_lt (show t < n by omega))).2.2.1
  refine ⟨sm_nonneg m nn, ?_, ?_, ?_⟩
  · unfold B
    rw [← sm_const]
    exact sm_le m fun t ht => (h.br (h.ix_lt (show t < n by omega))).2.1
  · by_cases c : ∃ t, t < m ∧ 1 ≤ 8 * (b (ix ys t) * r (ix ys t))
    · obtain ⟨t, ht, g⟩ := c
      right
      have := sm_ge (f := fun t => b (ix ys t) * r (ix ys t)) nn ht
      unfold B
      grind
    · left
      unfold B
      have e : sm (fun t => b (ix ys t) * r (ix ys t)) m = sm (fun _ => 0) m := sm_congr m fun t ht => by
        rcases (h.br (h.ix_lt (show t < n by omega))).1 with g | g
        · exact g
        · exact absurd ⟨t, ht, g⟩ c
      rw [e, sm_const]; grind
  · unfold B A
    rw [← sm_mul]
    exact sm_le m fun t ht => (h.br (h.ix_lt (show t < n by omega))).2.2.2
theorem md_one : Md 1 := ⟨.inr (by grind), by grind⟩
theorem Rd.step_a (h : Rd az ys n s b r R) {m a : Nat} (hm : m < n) (ha : Rl a (A ys r m) (m + 4)) : Rl (ev.a.sv az (ev.os ys) m a) (A ys r (m + 1)) (m + 1 + 4) := by
  have hi := h.ix_lt hm
  obtain ⟨s0, s4, s1, _, r0⟩ := h.s0 hi
  have g0 := h.r0 _ hi
  have g1 := h.r1 _ hi
  have R4 := h.R4'
  have one : Rl 1065353216 1 0 := Rl.of v_one md_one
  have hd := rl_div one (Rl.of (h.vs _ hi) ⟨.inr (by grind), by grind⟩) (by grind) (h.rs _ hi) (by omega) (by omega) ⟨.inr (by grind), by grind⟩
  have hA := (h.A_in (show m + 1 ≤ n by omega)).1
  have n5 := h.n5
  have cm : ((m + 1 : Nat) : Rat) ≤ 5 := Rat.natCast_le_natCast.2 (show m + 1 ≤ 5 by omega)
  have hA2 : A ys r (m + 1) ≤ 100000 := by
    have c0 : (0 : Rat) ≤ ((m + 1 : Nat) : Rat) := Rat.natCast_nonneg
    have := mul_abs (p := ((m + 1 : Nat) : Rat)) (q := (R : Rat)) (P := 5) (Q := 4) (by decide) (by decide) (by grind) cm (by have : (0 : Rat) ≤ (R : Rat) := Rat.natCast_nonneg; grind) R4
    grind
  exact rl_add (m + 4) ha hd (Nat.le_refl _) (by omega) (by omega) hA2
theorem Rd.step_b (h : Rd az ys n s b r R) {m a : Nat} (hm : m < n) (ha : Rl a (B ys b r m) (m + 4)) : Rl (ev.b.sv az ys (ev.os ys) m a) (B ys b r (m + 1)) (m + 1 + 4) := by
  have hi := h.ix_lt hm
  obtain ⟨s0, s4, s1, b0, r0⟩ := h.s0 hi
  have g0 := h.r0 _ hi
  have g1 := h.r1 _ hi
  have R4 := h.R4'
  obtain ⟨k1, k2, k3, _⟩ := h.br hi
  have b1 := h.b1 _ hi
  have hd := rl_div (v := b (ix ys m) * r (ix ys m)) (Rl.of (h.vb _ hi) ⟨by rcases h.b0 _ hi with g | g; exact .inl g; exact .inr (by grind), by grind⟩) (Rl.of (h.vs _ hi) ⟨.inr (by grind), by grind⟩) (by grind) (by rw [Rat.mul_assoc, h.rs _ hi, Rat.mul_one]) (by omega) (by omega) ⟨by rcases k1 with g | g; exact .inl g; exact .inr (by grind), by grind⟩
  have hB := (h.B_in (show m + 1 ≤ n by omega)).2.1
  have n5 := h.n5
  have cm : ((m + 1 : Nat) : Rat) ≤ 5 := Rat.natCast_le_natCast.2 (show m + 1 ≤ 5 by omega)
  have hB2 : B ys b r (m + 1) ≤ 100000 := by
    have c0 : (0 : Rat) ≤ ((m + 1 : Nat) : Rat) := Rat.natCast_nonneg
    have := mul_abs (p := ((m + 1 : Nat) : Rat)) (q := (4 * (R : Rat))) (P := 5) (Q := 16) (by decide) (by decide) (by grind) cm (by have : (0 : Rat) ≤ (R : Rat) := Rat.natCast_nonneg; grind) (by grind)
    grind
  exact rl_add (m + 4) ha hd (Nat.le_refl _) (by omega) (by omega) hB2
/-- The total. -/
structure Tt (w : Nat) (T : Rat) : Prop where
  v : V w T
  t0 : T = 0 ∨ 1 ≤ 4 * T
  t1 : T ≤ 8
theorem Tt.nonneg {w : Nat} {T : Rat} (h : Tt w T) : 0 ≤ T := by rcases h.t0 with g | g <;> grind
/-- A level for so many roads, all of which are not dearer by more than a little. -/
structure Pr (ys : List Nat) (b r : Nat → Rat) (T : Rat) (m lw : Nat) (z L : Rat) : Prop where
  v : V lw z
  eq : L * A ys r m = T + B ys b r m
  L0 : L = 0 ∨ 1 ≤ 1000 * L
  z1 : z ≤ L + 30 * u * L
  z2 : L ≤ z + 30 * u * L
  lo : ∀ t, t < m → b (ix ys t) ≤ L + 30 * u * L
theorem Pr.Lnn {T : Rat} {m lw : Nat} {z L : Rat} (h : Pr ys b r T m lw z L) : 0 ≤ L := by rcases h.L0 with g | g <;> grind
theorem Rd.step_l (h : Rd az ys n s b r R) {Tw : Nat} {T : Rat} (hT : Tt Tw T) {m a bw l : Nat} (hm : m < n) (ha : Rl a (A ys r m) (m + 4)) (hb : Rl bw (B ys b r m) (m + 4))
    (hl : m = 0 ∨ ∃ z L, Pr ys b r T m l z L ∧ b (ix ys m) < z) : ∃ z L, Pr ys b r T (m + 1) (ev.c.sv Tw (ev.a.sv az (ev.os ys) m a) (ev.b.sv az ys (ev.os ys) m bw)) z L := by
  have hi := h.ix_lt hm
  obtain ⟨s0, s4, s1, b0, r0⟩ := h.s0 hi
  have n5 := h.n5
  have T0 := hT.nonneg
  have T1 := hT.t1
  have sa := rl_mono (h.step_a hm ha) (show m + 1 + 4 ≤ 9 by omega)
  have sb := rl_mono (h.step_b hm hb) (show m + 1 + 4 ≤ 9 by omega)
  obtain ⟨A1, A0⟩ := h.A_in (show m + 1 ≤ n by omega)
  have A0' := A0 (by omega)
  obtain ⟨B0, B1, B2, B3⟩ := h.B_in (show m + 1 ≤ n by omega)
  have R4 := h.R4'
  have Rn : (0 : Rat) ≤ (R : Rat) := Rat.natCast_nonneg
  have cm : ((m + 1 : Nat) : Rat) ≤ 5 := Rat.natCast_le_natCast.2 (show m + 1 ≤ 5 by omega)
  have cm0 : (0 : Rat) ≤ ((m + 1 : Nat) : Rat) := Rat.natCast_nonneg
  have A20 : A ys r (m + 1) ≤ 20 := by
    have := mul_abs (p := ((m + 1 : Nat) : Rat)) (q := (R : Rat)) (P := 5) (Q := 4) (by decide) (by decide) (by grind) cm (by grind) R4
    grind
  have hAp : 0 < A ys r (m + 1) := by grind
  obtain ⟨L, hL⟩ : ∃ L : Rat, L * A ys r (m + 1) = T + B ys b r (m + 1) := ⟨(T + B ys b r (m + 1)) / A ys r (m + 1), Rat.div_mul_cancel (fun e => by rw [e] at hAp; exact absurd hAp (by decide))⟩
  have hTB : T + B ys b r (m + 1) = 0 ∨ 1 ≤ 8 * (T + B ys b r (m + 1)) := by
    rcases hT.t0 with g | g
    · rcases B2 with q | q
      · left; grind
      · right; grind
    · right; grind
  have rlt : ∀ a b : Rat, a < b ∨ b ≤ a := fun a b => by
    by_cases c : a < b
    · exact .inl c
    · exact .inr (Rat.not_lt.1 c)
  have hL0 : L = 0 ∨ 1 ≤ 1000 * L := by
    rcases hTB with g | g
    · left
      rw [g] at hL
      rcases Rat.mul_eq_zero.1 hL with q | q
      · exact q
      · grind
    · right
      rcases rlt (1000 * L) 1 with q | q
      · have := Rat.mul_lt_mul_of_pos_right q hAp
        grind
      · exact q
  have hLn : 0 ≤ L := by rcases hL0 with g | g <;> grind
  have hLm : L ≤ 100000 := by
    rcases rlt 100000 L with q | q
    · have := Rat.mul_lt_mul_of_pos_right q hAp
      grind
    · exact q
  have st := rl_add 9 (Rl.of hT.v ⟨by rcases hT.t0 with g | g; exact .inl g; exact .inr (by grind), by grind⟩) sb (by omega) (Nat.le_refl _) (by omega) (by grind)
  have sd := rl_mono (rl_div st sa (by grind) hL (by omega) (by omega) ⟨hL0, hLm⟩) (show 10 + 9 + 4 ≤ 30 by omega)
  obtain ⟨⟨z, vz, z1, z2⟩, _⟩ := sd
  have c30 : ((30 : Nat) : Rat) = 30 := rfl
  rw [c30] at z1 z2
  have hu := u_pos
  have eA : A ys r (m + 1) = A ys r m + r (ix ys m) := rfl
  have eB : B ys b r (m + 1) = B ys b r m + b (ix ys m) * r (ix ys m) := rfl
  have kL : 0 ≤ 30 * u * L := Rat.mul_nonneg (by grind) hLn
  refine ⟨z, L, ⟨vz, hL, hL0, z1, z2, fun t ht => ?_⟩⟩
  -- what is in, is not dearer
  refine Rat.le_of_mul_le_mul_right (c := A ys r (m + 1)) ?_ hAp
  have e1 : (L + 30 * u * L) * A ys r (m + 1) = (1 + 30 * u) * (T + B ys b r (m + 1)) := by rw [← hL]; grind
  rw [e1, eA, eB]
  have bt0 := (h.s0 (h.ix_lt (show t < n by omega))).2.2.2.1
  have hbm := (h.br hi).2.2.1
  have hkb : 0 ≤ 30 * u * (b (ix ys m) * r (ix ys m)) := Rat.mul_nonneg (by grind) hbm
  have hsr := h.srt (show t ≤ m by omega) hm
  have hsr2 := Rat.mul_le_mul_of_nonneg_right hsr (Rat.le_of_lt r0)
  rcases hl with rfl | ⟨z', L', hp, hlt⟩
  · have a0 : A ys r 0 = 0 := rfl
    have b0' : B ys b r 0 = 0 := rfl
    rw [a0, b0']
    have kT : 0 ≤ 30 * u * T := Rat.mul_nonneg (by grind) T0
    grind
  · have hAm : 0 ≤ A ys r m := sm_nonneg m fun t ht => Rat.le_of_lt (h.s0 (h.ix_lt (show t < n by omega))).2.2.2.2
    have hbt : b (ix ys t) ≤ L' + 30 * u * L' := by
      rcases Nat.lt_or_ge t m with q | q
      · exact hp.lo t q
      · obtain rfl : t = m := by omega
        have := hp.z1
        grind
    have k1 := Rat.mul_le_mul_of_nonneg_right hbt hAm
    have e2 : (L' + 30 * u * L') * A ys r m = (1 + 30 * u) * (T + B ys b r m) := by rw [← hp.eq]; grind
    rw [e2] at k1
    grind
/-- How many are used, and the level. -/
structure Lv (ys : List Nat) (n : Nat) (b r : Nat → Rat) (T : Rat) (m lw : Nat) (z L : Rat) : Prop where
  pr : Pr ys b r T m lw z L
  m1 : 1 ≤ m
  mn : m ≤ n
  hi : ∀ t, m ≤ t → t < n → z ≤ b (ix ys t)
theorem Rd.lev_ok (h : Rd az ys n s b r R) {Tw : Nat} {T : Rat} (hT : Tt Tw T) : ∀ (d m a bw l : Nat), m + d = n → Rl a (A ys r m) (m + 4) → Rl bw (B ys b r m) (m + 4) → (m = 0 ∨ ∃ z L, Pr ys b r T m l z L) →
    ∃ z L, Lv ys n b r T (ev.lev az ys (ev.os ys) Tw d m a bw l).1 (ev.lev az ys (ev.os ys) Tw d m a bw l).2 z L
  | 0, m, a, bw, l, hm, _, _, hl => by
    rcases hl with g | ⟨z, L, hp⟩
    · have := h.n1; omega
    · exact ⟨z, L, hp, by have := h.n1; show 1 ≤ m; omega, by show m ≤ n; omega, fun t h1 h2 => by
        have h1' : m ≤ t := h1
        omega⟩
  | d + 1, m, a, bw, l, hm, ha, hb, hl => by
    have sa := h.step_a (show m < n by omega) ha
    have sb := h.step_b (show m < n by omega) hb
    simp only [ev.lev]
    have go : (m = 0 ∨ ∃ z L, Pr ys b r T m l z L ∧ b (ix ys m) < z) → ∃ z L, Lv ys n b r T (ev.lev az ys (ev.os ys) Tw d (m + 1) (ev.a.sv az (ev.os ys) m a) (ev.b.sv az ys (ev.os ys) m bw) (ev.c.sv Tw (ev.a.sv az (ev.os ys) m a) (ev.b.sv az ys (ev.os ys) m bw))).1 (ev.lev az ys (ev.os ys) Tw d (m + 1) (ev.a.sv az (ev.os ys) m a) (ev.b.sv az ys (ev.os ys) m bw) (ev.c.sv Tw (ev.a.sv az (ev.os ys) m a) (ev.b.sv az ys (ev.os ys) m bw))).2 z L := fun g =>
      Rd.lev_ok h hT d (m + 1) _ _ _ (by omega) sa sb (.inr (h.step_l hT (by omega) ha hb g))
    by_cases c : m = 0
    · rw [decide_eq_true c, Bool.true_or, cond_true]
      exact go (.inl c)
    · rw [decide_eq_false c, Bool.false_or]
      rcases hl with g | ⟨z, L, hp⟩
      · exact absurd g c
      · obtain ⟨o, ho, h1, _, _⟩ := v_order (h.vb _ (h.ix_lt (show m < n by omega))) hp.v
        have e : ev.lo.sp ys (ev.os ys) m l = (some o == some Ordering.lt) := by
          unfold ev.lo.sp
          show (FloatKind.f32.format.order (gn ys (ix ys m)) l == some Ordering.lt) = _
          rw [ho]
        rw [e]
        by_cases c2 : o = Ordering.lt
        · subst c2
          rw [show (some Ordering.lt == some Ordering.lt) = true from rfl, cond_true]
          exact go (.inr ⟨z, L, hp, h1.1 rfl⟩)
        · have e2 : (some o == some Ordering.lt) = false := by cases o <;> first | exact absurd rfl c2 | rfl
          rw [e2, cond_false]
          refine ⟨z, L, hp, by show 1 ≤ m; omega, by show m ≤ n; omega, fun t ht htn => ?_⟩
          have hge : z ≤ b (ix ys m) := Rat.not_lt.1 fun g => c2 (h1.2 g)
          exact Rat.le_trans hge (h.srt ht htn)
end
end flw

end Go.Proofs.Ytgblgofmdhekiaa.Ab
