/-
  Functions: the law of flows, plain.
-/
import Derived.Test.YtgblgofmdhekiaaFnFT
import Derived.Test.YtgblgofmdhekiaaFnM
import Derived.Test.YtgblgofmdhekiaaFnZE
import Derived.Test.YtgblgofmdhekiaaFnNA
namespace Go.Proofs.Ytgblgofmdhekiaa.Ab
open Go
set_option linter.unusedVariables false
set_option linter.unusedSimpArgs false
set_option maxRecDepth 100000

namespace flw
open fp
/-! ### Words of small fractions -/
def chk (w d k : Nat) : Bool := match Ieee.single.read w with
  | .number false m e => (decide (-149 ≤ e) && decide (e ≤ 0)) && m * d == k * 2 ^ (-e).toNat
  | _ => false
theorem tab {w d k : Nat} (h : chk w d k = true) : ∃ q : Rat, V w q ∧ q * d = k := by
  unfold chk at h
  split at h
  · rename_i m e hr
    simp only [Bool.and_eq_true, decide_eq_true_eq, beq_iff_eq] at h
    obtain ⟨⟨h1, h2⟩, h3⟩ := h
    refine ⟨(m : Rat) * tw e, ⟨false, m, e, hr, h1, by simp only [sg, Bool.false_eq_true, if_false, Rat.one_mul]⟩, ?_⟩
    have e1 := shift_cast k (p := 0) (b := e) h2
    rw [show (0 - e).toNat = (-e).toNat by omega, ← h3, tw_zero, Rat.mul_one, Rat.natCast_mul] at e1
    rw [← e1]; grind
  · cases h
def w4 : Nat := 1082130432
def w2 : Nat := 1073741824
theorem tab4 : ((List.range 33).all fun k => chk (fdiv .f32 (FloatKind.f32.nearest (k : Int)) 1082130432) 4 k) = true := by decide +kernel
theorem tab2 : ((List.range 9).all fun k => chk (fdiv .f32 (FloatKind.f32.nearest (k : Int)) 1073741824) 2 k) = true := by decide +kernel
theorem tabt : ((List.range 9).all fun k => chk (fmul .f32 1073741824 (fdiv .f32 (FloatKind.f32.nearest (k : Int)) 1082130432)) 2 k) = true := by decide +kernel
theorem quarter {k : Nat} (h : k ≤ 32) : ∃ q : Rat, V (fdiv .f32 (FloatKind.f32.nearest (k : Int)) 1082130432) q ∧ q * 4 = k := tab (List.all_eq_true.1 tab4 k (List.mem_range.2 (by omega)))
theorem half {k : Nat} (h : k ≤ 8) : ∃ q : Rat, V (fdiv .f32 (FloatKind.f32.nearest (k : Int)) 1073741824) q ∧ q * 2 = k := tab (List.all_eq_true.1 tab2 k (List.mem_range.2 (by omega)))
theorem twice {k : Nat} (h : k ≤ 8) : ∃ q : Rat, V (fmul .f32 1073741824 (fdiv .f32 (FloatKind.f32.nearest (k : Int)) 1082130432)) q ∧ q * 2 = k := tab (List.all_eq_true.1 tabt k (List.mem_range.2 (by omega)))
/-! ### The roads of the law -/
def az.sv (xs : List Int) (n : Nat) : List Nat := (List.range n).map fun i : Nat => fdiv .f32 (FloatKind.f32.nearest (1 + r8.at.sv xs (i : Int) 8)) 1082130432
def ys.sv (xs : List Int) (n : Nat) : List Nat := (List.range n).map fun i : Nat => fdiv .f32 (FloatKind.f32.nearest (r8.at.sv xs ((i : Int) + 8) 9)) 1073741824
def ot.sv (Tw n m : Nat) : List Nat := List.replicate m (fdiv .f32 Tw (FloatKind.f32.nearest (n : Int)))
theorem az_len (xs : List Int) (n : Nat) : (az.sv xs n).length = n := by simp [az.sv]
theorem ys_len (xs : List Int) (n : Nat) : (ys.sv xs n).length = n := by simp [ys.sv]
theorem ot_len (Tw n m : Nat) : (ot.sv Tw n m).length = m := by simp [ot.sv]
theorem az_get {xs : List Int} {n i : Nat} (h : i < n) : gn (az.sv xs n) i = fdiv .f32 (FloatKind.f32.nearest (1 + r8.at.sv xs (i : Int) 8)) 1082130432 := by
  rw [gn_eq (by rw [az_len]; exact h)]; simp [az.sv]
theorem ys_get {xs : List Int} {n i : Nat} (h : i < n) : gn (ys.sv xs n) i = fdiv .f32 (FloatKind.f32.nearest (r8.at.sv xs ((i : Int) + 8) 9)) 1073741824 := by
  rw [gn_eq (by rw [ys_len]; exact h)]; simp [ys.sv]
theorem ot_get {Tw n m i : Nat} (h : i < m) : gn (ot.sv Tw n m) i = fdiv .f32 Tw (FloatKind.f32.nearest (n : Int)) := by
  rw [gn_eq (by rw [ot_len]; exact h)]; simp [ot.sv]
theorem td_get {az : List Nat} {i : Nat} (h : i < az.length) : gn (td.sv az) i = fmul .f32 1073741824 (gn az i) := by
  rw [gn_eq (by rw [td.sv_length]; exact h), gn_eq h]; simp [td.sv, td.two]
/-- Roads as the law makes them, and with slopes twice as steep. -/
theorem roads {xs : List Int} (hx : r8.bytes.sp xs = true) {n : Nat} (n1 : 1 ≤ n) (n5 : n ≤ 5) : ∃ s b r : Nat → Rat, Rd (az.sv xs n) (ys.sv xs n) n s b r 4 ∧ Rd (td.sv (az.sv xs n)) (ys.sv xs n) n (fun i => 2 * s i) b (fun i => r i / 2) 2 ∧ ∀ i, i < n → s i ≤ 2 := by
  have ex : ∀ i : Nat, ∃ s b r : Rat, V (fdiv .f32 (FloatKind.f32.nearest (1 + r8.at.sv xs (i : Int) 8)) 1082130432) s ∧ V (fdiv .f32 (FloatKind.f32.nearest (r8.at.sv xs ((i : Int) + 8) 9)) 1073741824) b ∧ V (fmul .f32 1073741824 (fdiv .f32 (FloatKind.f32.nearest (1 + r8.at.sv xs (i : Int) 8)) 1082130432)) (2 * s) ∧ r * s = 1 ∧ 1 ≤ 2 * r ∧ r ≤ 4 ∧ (b = 0 ∨ 1 ≤ 2 * b) ∧ b ≤ 4 ∧ s ≤ 2 := fun i => by
    obtain ⟨a0, a1⟩ := r8.at_in hx (i : Int) 8 (by decide)
    obtain ⟨b0, b1⟩ := r8.at_in hx ((i : Int) + 8) 9 (by decide)
    obtain ⟨k, hk⟩ : ∃ k : Nat, 1 + r8.at.sv xs (i : Int) 8 = k := ⟨(1 + r8.at.sv xs (i : Int) 8).toNat, by omega⟩
    obtain ⟨l, hl⟩ : ∃ k : Nat, r8.at.sv xs ((i : Int) + 8) 9 = k := ⟨(r8.at.sv xs ((i : Int) + 8) 9).toNat, by omega⟩
    rw [hk, hl]
    obtain ⟨s, vs, es⟩ := quarter (k := k) (by omega)
    obtain ⟨b, vb, eb⟩ := half (k := l) (by omega)
    obtain ⟨t, vt, et⟩ := twice (k := k) (by omega)
    have k1 : (1 : Rat) ≤ (k : Rat) := Rat.natCast_le_natCast.2 (show 1 ≤ k by omega)
    have k8 : (k : Rat) ≤ 8 := Rat.natCast_le_natCast.2 (show k ≤ 8 by omega)
    have l8 : (l : Rat) ≤ 8 := Rat.natCast_le_natCast.2 (show l ≤ 8 by omega)
    have c4 : ((4 : Nat) : Rat) = 4 := rfl
    have c2 : ((2 : Nat) : Rat) = 2 := rfl
    have hs : 0 < s := by grind
    have hsn : s ≠ 0 := fun e => by rw [e] at hs; exact absurd hs (by decide)
    obtain ⟨r, hr⟩ : ∃ r : Rat, r * s = 1 := ⟨1 / s, Rat.div_mul_cancel hsn⟩
    have e2 : t = 2 * s := by grind
    rw [e2] at vt
    have rp : 0 < r := by
      rcases rlt 0 r with g | g
      · exact g
      · have := Rat.mul_le_mul_of_nonneg_right g (Rat.le_of_lt hs)
        grind
    refine ⟨s, b, r, vs, vb, vt, hr, ?_, ?_, ?_, by grind, by grind⟩
    · have := Rat.mul_le_mul_of_nonneg_left (show s ≤ 2 by grind) (Rat.le_of_lt rp)
      grind
    · have := Rat.mul_le_mul_of_nonneg_left (show 1 ≤ 4 * s by grind) (Rat.le_of_lt rp)
      grind
    · rcases Nat.eq_zero_or_pos l with g | g
      · left
        have : (l : Rat) = 0 := by rw [g]; rfl
        grind
      · right
        have : (1 : Rat) ≤ (l : Rat) := Rat.natCast_le_natCast.2 (show 1 ≤ l from g)
        grind
  refine ⟨fun i => (ex i).choose, fun i => (ex i).choose_spec.choose, fun i => (ex i).choose_spec.choose_spec.choose, ?_, ?_, ?_⟩
  · refine ⟨n1, n5, az_len _ _, ys_len _ _, fun i hi => ?_, fun i hi => ?_, fun i hi => ?_, by decide, fun i hi => ?_, fun i hi => ?_, fun i hi => ?_, fun i hi => ?_⟩
    all_goals obtain ⟨h1, h2, h3, h4, h5, h6, h7, h8, h9⟩ := (ex i).choose_spec.choose_spec.choose_spec
    · rw [az_get hi]; exact h1
    · rw [ys_get hi]; exact h2
    · exact h4
    · grind
    · exact h6
    · exact h7
    · exact h8
  · refine ⟨n1, n5, by rw [td.sv_length, az_len], ys_len _ _, fun i hi => ?_, fun i hi => ?_, fun i hi => ?_, by decide, fun i hi => ?_, fun i hi => ?_, fun i hi => ?_, fun i hi => ?_⟩
    all_goals obtain ⟨h1, h2, h3, h4, h5, h6, h7, h8, h9⟩ := (ex i).choose_spec.choose_spec.choose_spec
    · rw [td_get (by rw [az_len]; exact hi), az_get hi]; exact h3
    · rw [ys_get hi]; exact h2
    · grind
    · grind
    · have c2 : ((2 : Nat) : Rat) = 2 := rfl
      rw [c2]; grind
    · exact h7
    · exact h8
  · intro i _
    obtain ⟨h1, h2, h3, h4, h5, h6, h7, h8, h9⟩ := (ex i).choose_spec.choose_spec.choose_spec
    exact h9
theorem total {k : Nat} (h : k ≤ 32) : ∃ T, Tt (fdiv .f32 (FloatKind.f32.nearest (k : Int)) 1082130432) T := by
  obtain ⟨T, v, e⟩ := quarter h
  have c4 : ((4 : Nat) : Rat) = 4 := rfl
  have k32 : (k : Rat) ≤ 32 := Rat.natCast_le_natCast.2 h
  refine ⟨T, v, ?_, by grind⟩
  rcases Nat.eq_zero_or_pos k with g | g
  · left
    have : (k : Rat) = 0 := by rw [g]; rfl
    grind
  · right
    have : (1 : Rat) ≤ (k : Rat) := Rat.natCast_le_natCast.2 (show 1 ≤ k from g)
    grind
section
variable {az ys : List Nat} {n : Nat} {s b r : Nat → Rat} {R : Nat}
theorem all_of {p : Nat → Bool} {l : List Nat} {m : Nat} (hl : l.length = m) (h : ∀ i, i < m → p (gn l i) = true) : l.all p = true := by
  rw [List.all_eq_true]
  intro x hx
  obtain ⟨i, hi, e⟩ := List.getElem_of_mem hx
  rw [← e, ← gn_eq hi]
  exact h i (by omega)
theorem v_above {a : Nat} {x : Rat} (ha : V a x) (h : 0 < x) : flo.above.sp a = true := by
  unfold flo.above.sp
  rw [v_fin ha]
  obtain ⟨o, ho, h1, h2, h3⟩ := v_order ha v_zero
  have h0' : ((0 : Int) : Rat) = 0 := rfl
  rw [h0'] at h3
  rw [ho, h3.2 h]
  rfl
theorem Rd.lines (h : Rd az ys n s b r R) : rdl.sp az ys = true := by
  unfold rdl.sp
  have l1 := h.la
  have l2 := h.ly
  have n1 := h.n1
  have n5 := h.n5
  rw [all_of l1 fun i hi => v_above (h.vs i hi) (h.s0 hi).1, all_of l2 fun i hi => v_least (h.vb i hi) (h.s0 hi).2.2.2.1, decide_eq_true (show 1 ≤ az.length by omega), decide_eq_true (show az.length ≤ 8 by omega), decide_eq_true (show ys.length = az.length by omega)]
  rfl
theorem Rd.spOk (h : Rd az ys n s b r R) {Tw : Nat} {T K z : Rat} {F : Nat → Rat} (hT : Tt Tw T) (he : Ev az ys n s b T K (ev.o.sv az ys Tw) (ev.l.sv az ys Tw) z F) : ev.sp az ys Tw = true := by
  unfold ev.sp ev.fin.sp
  have : (ev.o.sv az ys Tw).any areFinite_1.sp = false := by
    rw [List.any_eq_false]
    intro x hx
    obtain ⟨i, hi, e⟩ := List.getElem_of_mem hx
    have := he.vF i (by rw [← he.len]; exact hi)
    rw [gn_eq hi, e] at this
    unfold areFinite_1.sp
    rw [v_fin this]; decide
  rw [h.lines, v_least hT.v hT.nonneg, this, v_fin he.vz]
  rfl
end
/-! ### What flows cost -/
def co (s b F : Nat → Rat) : Nat → Rat := sm fun i => F i * (s i * F i + b i)
theorem sm_head (f : Nat → Rat) : ∀ n, sm f (n + 1) = f 0 + sm (fun i => f (i + 1)) n
  | 0 => by rw [sm, sm, sm]; grind
  | n + 1 => by rw [sm, sm_head f n, sm]; grind
theorem gn_cons {a : Nat} {l : List Nat} {i : Nat} : gn (a :: l) (i + 1) = gn l i := rfl
/-- Words of roads and flows, not too great. -/
structure Cf (A B X : List Nat) (m : Nat) (s b F : Nat → Rat) : Prop where
  lA : A.length = m
  lB : B.length = m
  lX : X.length = m
  vs : ∀ i, i < m → V (gn A i) (s i) ∧ 0 ≤ s i ∧ s i ≤ 2
  vb : ∀ i, i < m → V (gn B i) (b i) ∧ 0 ≤ b i ∧ b i ≤ 4
  vF : ∀ i, i < m → V (gn X i) (F i) ∧ 0 ≤ F i ∧ F i ≤ 9
theorem cost_ap : ∀ (m : Nat) (A B X : List Nat) (s b F : Nat → Rat) (acc k : Nat) (x : Rat), Cf A B X m s b F → m ≤ 5 → Ap acc x k → 0 ≤ x → x + co s b F m ≤ 198 → k + 786 * m ≤ 10000 → Ap (flow.cost A B X acc) (x + co s b F m) (k + 786 * m)
  | 0, A, B, X, s, b, F, acc, k, x, h, _, ha, _, _, _ => by
    have e := h.lA
    match A, e with
    | [], _ =>
      have : co s b F 0 = 0 := rfl
      rw [this, Rat.add_zero]
      exact ha
  | m + 1, A, B, X, s, b, F, acc, k, x, h, hm, ha, hx, hs, hk => by
    have l1 := h.lA
    have l2 := h.lB
    have l3 := h.lX
    match A, B, X, l1, l2, l3 with
    | a :: A, c :: B, f :: X, l1, l2, l3 =>
      obtain ⟨vs, s0, s1⟩ := h.vs 0 (by omega)
      obtain ⟨vb, b0, b1⟩ := h.vb 0 (by omega)
      obtain ⟨vF, F0, F1⟩ := h.vF 0 (by omega)
      have e1 : gn (a :: A) 0 = a := rfl
      have e2 : gn (c :: B) 0 = c := rfl
      have e3 : gn (f :: X) 0 = f := rfl
      rw [e1] at vs
      rw [e2] at vb
      rw [e3] at vF
      have c2 : ((2 : Nat) : Rat) = 2 := rfl
      have c9 : ((9 : Nat) : Rat) = 9 := rfl
      have c22 : ((22 : Nat) : Rat) = 22 := rfl
      have c198 : ((198 : Nat) : Rat) = 198 := rfl
      have hh : co s b F (m + 1) = F 0 * (s 0 * F 0 + b 0) + co (fun i => s (i + 1)) (fun i => b (i + 1)) (fun i => F (i + 1)) m := sm_head _ m
      have nn : 0 ≤ co (fun i => s (i + 1)) (fun i => b (i + 1)) (fun i => F (i + 1)) m := sm_nonneg m fun t ht => by
        obtain ⟨_, p0, _⟩ := h.vs (t + 1) (by omega)
        obtain ⟨_, p1, _⟩ := h.vb (t + 1) (by omega)
        obtain ⟨_, p2, _⟩ := h.vF (t + 1) (by omega)
        have := Rat.mul_nonneg p0 p2
        exact Rat.mul_nonneg p2 (by grind)
      obtain ⟨m1, m2⟩ := mul_abs (p := s 0) (q := F 0) (P := 2) (Q := 9) (by decide) (by decide) (by grind) s1 (by grind) F1
      have m3 := Rat.mul_nonneg s0 F0
      have d1 := ap_mul 2 9 (Ap.of vs) (Ap.of vF) (by rw [c2]; grind) (by rw [c2]; exact s1) (by rw [c9]; grind) (by rw [c9]; exact F1) (by omega) (by omega) (by omega) (by omega)
      have d2 := ap_add 22 d1 (Ap.of vb) (by rw [c22]; grind) (by rw [c22]; grind) (by omega) (by omega)
      have d3 := ap_mul 9 22 (Ap.of vF) d2 (by rw [c9]; grind) (by rw [c9]; exact F1) (by rw [c22]; grind) (by rw [c22]; grind) (by omega) (by omega) (by omega) (by omega)
      have m4 := Rat.mul_nonneg F0 (show 0 ≤ s 0 * F 0 + b 0 by grind)
      have d4 := ap_add 198 ha d3 (by rw [c198]; grind) (by rw [c198]; grind) (by omega) (by omega)
      have hrec := cost_ap m A B X (fun i => s (i + 1)) (fun i => b (i + 1)) (fun i => F (i + 1)) (flow.step acc a c f) (k + 786) (x + F 0 * (s 0 * F 0 + b 0)) ⟨by simpa using l1, by simpa using l2, by simpa using l3, fun i hi => h.vs (i + 1) (by omega), fun i hi => h.vb (i + 1) (by omega), fun i hi => h.vF (i + 1) (by omega)⟩ (by omega) (by
        obtain ⟨z, v, g1, g2⟩ := d4
        have := Rat.mul_le_mul_of_nonneg_right (Rat.natCast_le_natCast.2 (show k + (0 * 22 + 9 * (0 * 9 + 2 * 0 + 2 * 9 + 2 + 0 + 22 + 1) + 9 * 22 + 2) + 198 + 1 ≤ k + 786 by omega)) (Rat.le_of_lt u_pos)
        exact ⟨z, v, by grind, by grind⟩) (by grind) (by grind) (by omega)
      rw [hh]
      rw [show x + (F 0 * (s 0 * F 0 + b 0) + co (fun i => s (i + 1)) (fun i => b (i + 1)) (fun i => F (i + 1)) m) = x + F 0 * (s 0 * F 0 + b 0) + co (fun i => s (i + 1)) (fun i => b (i + 1)) (fun i => F (i + 1)) m by grind]
      have : k + 786 * (m + 1) = k + 786 + 786 * m := by omega
      rw [this]
      exact hrec
end flw

end Go.Proofs.Ytgblgofmdhekiaa.Ab
