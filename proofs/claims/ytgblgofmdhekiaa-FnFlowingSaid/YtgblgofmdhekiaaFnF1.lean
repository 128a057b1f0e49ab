/-
  Functions: the law of flows, all that it asks.
-/
import Derived.Test.YtgblgofmdhekiaaFnFX
namespace Go.Proofs.Ytgblgofmdhekiaa.Ab
open Go
set_option linter.unusedVariables false
set_option linter.unusedSimpArgs false
set_option maxRecDepth 100000

namespace flw
open fp
/-- All that the law asks. -/
structure Law (A Y X G H : List Nat) (lw Tw n : Nat) : Prop where
  e1 : ev.sp A Y Tw = true
  e2 : ev.sp (td.sv A) Y Tw = true
  lX : X.length = n
  lG : G.length = n
  q1 : flow.sq A Y X = true
  q2 : flow.sq A Y G = true
  q3 : flow.sq A Y H = true
  n1 : ∀ i, i < n → (FloatKind.f32.format.order (gn X i) 0 == some Ordering.lt) = false
  n2 : ∀ i, i < n → (FloatKind.f32.format.order (gn G i) 0 == some Ordering.lt) = false
  ro : ∀ i, i < n → gap.ok.sp (cs.sv A Y X i) (fwid.sv lw) = true ∧ ((FloatKind.f32.format.order (gn X i) 981668463 == some Ordering.gt) = true → (FloatKind.f64.format.order (gap.sv (cs.sv A Y X i) (fwid.sv lw)) 4576918229304087675 == some Ordering.gt) = false) ∧
    (FloatKind.f64.format.order (cs.sv A Y X i) (fsub .f64 (fwid.sv lw) 4576918229304087675) == some Ordering.lt) = false
  s1 : gap.ok.sp (su.sv X n) (fwid.sv Tw) = true ∧ (FloatKind.f64.format.order (gap.sv (su.sv X n) (fwid.sv Tw)) 4576918229304087675 == some Ordering.lt) = true
  s2 : gap.ok.sp (su.sv G n) (fwid.sv Tw) = true ∧ (FloatKind.f64.format.order (gap.sv (su.sv G n) (fwid.sv Tw)) 4576918229304087675 == some Ordering.lt) = true
  co : gap.ok.sp (fwid.sv (flow.sw A Y X)) (fmul .f64 (su.sv X n) (fwid.sv lw)) = true ∧ (FloatKind.f64.format.order (gap.sv (fwid.sv (flow.sw A Y X)) (fmul .f64 (su.sv X n) (fwid.sv lw))) (fmul .f64 4587366580439587226 (fadd .f64 4607182418800017408 (fwid.sv (flow.sw A Y X)))) == some Ordering.lt) = true
  l1 : ∃ o, FloatKind.f64.format.order (fwid.sv (flow.sw A Y G)) (fadd .f64 (fwid.sv (flow.sw A Y X)) (fmul .f64 4576918229304087675 (fadd .f64 4607182418800017408 (fwid.sv (flow.sw A Y X))))) = some o ∧ o ≠ Ordering.gt
  l2 : ∃ o, FloatKind.f64.format.order (fwid.sv (flow.sw A Y G)) (fadd .f64 (fwid.sv (flow.sw A Y H)) (fmul .f64 4576918229304087675 (fadd .f64 4607182418800017408 (fwid.sv (flow.sw A Y H))))) = some o ∧ o ≠ Ordering.gt
theorem ap_mono {w : Nat} {x : Rat} {k l : Nat} (h : Ap w x k) (hk : k ≤ l) : Ap w x l := by
  obtain ⟨z, v, h1, h2⟩ := h
  have := Rat.mul_le_mul_of_nonneg_right (Rat.natCast_le_natCast.2 hk) (Rat.le_of_lt u_pos)
  exact ⟨z, v, by grind, by grind⟩
/-- What flows cost, told by the program. -/
theorem told {A Y X : List Nat} {n : Nat} {s b F : Nat → Rat} (h : Cf A Y X n s b F) (hl : rdl.sp A Y = true) (n5 : n ≤ 5) (h9 : sm F n ≤ 9) : flow.sq A Y X = true ∧ Ap (flow.sw A Y X) (co s b F n) 3930 ∧ 0 ≤ co s b F n ∧ co s b F n ≤ 198 := by
  have nn : ∀ i, i < n → 0 ≤ F i * (s i * F i + b i) ∧ F i * (s i * F i + b i) ≤ 22 * F i := fun i hi => by
    obtain ⟨_, s0, s1⟩ := h.vs i hi
    obtain ⟨_, b0, b1⟩ := h.vb i hi
    obtain ⟨_, F0, F1⟩ := h.vF i hi
    have m3 := Rat.mul_nonneg s0 F0
    obtain ⟨m1, m2⟩ := mul_abs (p := s i) (q := F i) (P := 2) (Q := 9) (by decide) (by decide) (by grind) s1 (by grind) F1
    have a := Rat.mul_nonneg F0 (show 0 ≤ s i * F i + b i by grind)
    have c := Rat.mul_nonneg F0 (show 0 ≤ 22 - (s i * F i + b i) by grind)
    exact ⟨a, by grind⟩
  have c0 : 0 ≤ co s b F n := sm_nonneg n fun i hi => (nn i hi).1
  have c1 : co s b F n ≤ 198 := by
    have := sm_le (f := fun i => F i * (s i * F i + b i)) (g := fun i => 22 * F i) n fun i hi => (nn i hi).2
    rw [sm_mul] at this
    have e : co s b F n = sm (fun i => F i * (s i * F i + b i)) n := rfl
    rw [e]; grind
  have hc := ap_mono (cost_ap n A Y X s b F 0 0 0 h n5 (Ap.of v_zero) Rat.le_refl (by grind) (by omega)) (show 0 + 786 * n ≤ 3930 by omega)
  rw [Rat.zero_add] at hc
  have hsp : flow.sp A Y X = true := by
    unfold flow.sp
    rw [hl, decide_eq_true (show X.length = A.length by rw [h.lX, h.lA]), all_of h.lX fun i hi => v_least (h.vF i hi).1 (h.vF i hi).2.1]
    rfl
  have hq : flow.sq A Y X = true := by
    unfold flow.sq
    rw [hsp]
    obtain ⟨z, v, _⟩ := hc
    show (true && flo.fin.sp (flow.cost A Y X 0)) = true
    rw [v_fin v]; rfl
  refine ⟨hq, ?_, c0, c1⟩
  unfold flow.sw
  rw [hq]
  exact hc
theorem law {xs : List Int} (hx : r8.bytes.sp xs = true) {n : Nat} (n1 : 1 ≤ n) (n5 : n ≤ 5) {k : Nat} (hk : k ≤ 32) {Tw : Nat} (hTw : Tw = fdiv .f32 (FloatKind.f32.nearest (k : Int)) 1082130432) :
    Law (az.sv xs n) (ys.sv xs n) (ev.o.sv (az.sv xs n) (ys.sv xs n) Tw) (ev.o.sv (td.sv (az.sv xs n)) (ys.sv xs n) Tw) (ot.sv Tw n n) (ev.l.sv (az.sv xs n) (ys.sv xs n) Tw) Tw n := by
  subst hTw
  obtain ⟨s, b, r, hE, hD, hs2⟩ := roads hx n1 n5
  obtain ⟨T, hT⟩ := total hk
  generalize fdiv .f32 (FloatKind.f32.nearest (k : Int)) 1082130432 = Tw at *
  obtain ⟨z, F, eF⟩ := hE.even hT
  obtain ⟨z', G, eG⟩ := hD.even hT
  have sp1 := hE.spOk hT eF
  have sp2 := hD.spOk hT eG
  have ln := hE.lines
  have c4 : ((4 : Nat) : Rat) = 4 := rfl
  have c2 : ((2 : Nat) : Rat) = 2 := rfl
  rw [c4] at eF
  rw [c2] at eG
  have T0 := hT.nonneg
  have T1 := hT.t1
  have hu := u_pos
  have u1 := u_one
  have Tu := Rat.mul_le_mul_of_nonneg_right T1 (Rat.le_of_lt hu)
  have Tu0 := Rat.mul_nonneg T0 (Rat.le_of_lt hu)
  generalize az.sv xs n = A at *
  generalize ys.sv xs n = Y at *
  have F0 : ∀ i, i < n → 0 ≤ F i := fun i hi => (eF.fl i hi).1
  have G0 : ∀ i, i < n → 0 ≤ G i := fun i hi => (eG.fl i hi).1
  have f1 := eF.t1
  have f2 := eF.t2
  have g1 := eG.t1
  have g2 := eG.t2
  have F9 : sm F n ≤ 9 := by grind
  have G9 : sm G n ≤ 9 := by grind
  have base : ∀ (X : List Nat) (f : Nat → Rat), X.length = n → (∀ i, i < n → V (gn X i) (f i)) → (∀ i, i < n → 0 ≤ f i) → sm f n ≤ 9 → Cf A Y X n s b f := fun X f lx vx f0 f9 =>
    ⟨hE.la, hE.ly, lx, fun i hi => ⟨hE.vs i hi, Rat.le_of_lt (hE.s0 hi).1, hs2 i hi⟩, fun i hi => ⟨hE.vb i hi, (hE.s0 hi).2.2.2.1, hE.b1 i hi⟩, fun i hi => ⟨vx i hi, f0 i hi, Rat.le_trans (sm_ge f0 hi) f9⟩⟩
  have cF := base _ F eF.len eF.vF F0 F9
  have cG := base _ G eG.len eG.vF G0 G9
  -- others
  have nr : (1 : Rat) ≤ (n : Rat) := Rat.natCast_le_natCast.2 n1
  have nr5 : (n : Rat) ≤ 5 := Rat.natCast_le_natCast.2 (show n ≤ 5 from n5)
  have nn0 : (n : Rat) ≠ 0 := fun e => by rw [e] at nr; exact absurd nr (by decide)
  obtain ⟨v, hv⟩ : ∃ v : Rat, v * n = T := ⟨T / n, Rat.div_mul_cancel nn0⟩
  have v0 : 0 ≤ v := by
    rcases rlt v 0 with g | g
    · have := Rat.mul_lt_mul_of_pos_right g (show (0 : Rat) < n by grind)
      grind
    · exact g
  have v8 : v ≤ 8 := by
    have := Rat.mul_le_mul_of_nonneg_left nr v0
    grind
  have vm : v = 0 ∨ 1 ≤ 1000 * v := by
    rcases hT.t0 with g | g
    · left
      rw [g] at hv
      rcases Rat.mul_eq_zero.1 hv with q | q
      · exact q
      · exact absurd q nn0
    · right
      have := Rat.mul_le_mul_of_nonneg_left nr5 v0
      grind
  have vn : V (FloatKind.f32.nearest (n : Int)) (n : Rat) := v_int (n := (n : Int)) (by omega)
  obtain ⟨⟨h, vh, h1, h2⟩, _⟩ := rl_div (Rl.of hT.v ⟨by rcases hT.t0 with g | g; exact .inl g; exact .inr (by grind), by grind⟩) (Rl.of vn ⟨.inr (by grind), by grind⟩) (by grind) hv (by omega) (by omega) ⟨vm, by grind⟩
  have c04 : ((0 + 0 + 4 : Nat) : Rat) = 4 := rfl
  rw [c04] at h1 h2
  have u1v := Rat.mul_le_mul_of_nonneg_right (show 4 * u ≤ 1 by grind) v0
  have h0 : 0 ≤ h := by grind
  have hn1 := Rat.mul_le_mul_of_nonneg_right h1 (show (0 : Rat) ≤ n by grind)
  have hn2 := Rat.mul_le_mul_of_nonneg_right h2 (show (0 : Rat) ≤ n by grind)
  have e4 : 4 * u * v * n = 4 * u * T := by rw [Rat.mul_assoc, hv]
  have sH : sm (fun _ => h) n = (n : Rat) * h := sm_const h n
  have b1 : sm (fun _ => h) n ≤ T + 4 * u * T := by rw [sH]; grind
  have b2 : T ≤ sm (fun _ => h) n + 4 * u * T := by rw [sH]; grind
  have H9 : sm (fun _ => h) n ≤ 9 := by grind
  have cH := base (ot.sv Tw n n) (fun _ => h) (ot_len _ _ _) (fun i hi => by rw [ot_get hi]; exact vh) (fun _ _ => h0) H9
  obtain ⟨q1, a1, p1, p2⟩ := told cF ln n5 F9
  obtain ⟨q2, a2, p3, p4⟩ := told cG ln n5 G9
  obtain ⟨q3, a3, p5, p6⟩ := told cH ln n5 H9
  have S1 := (su_ap (fun i hi => ⟨eF.vF i hi, F0 i hi⟩) F9 n5 n (Nat.le_refl _)).mono (show 10 * n ≤ 50 by omega)
  have S2 := (su_ap (fun i hi => ⟨eG.vF i hi, G0 i hi⟩) G9 n5 n (Nat.le_refl _)).mono (show 10 * n ≤ 50 by omega)
  have sF := sm_nonneg n F0
  have sG := sm_nonneg n G0
  have z37 : z ≤ 37 := by have := eF.z1; grind
  obtain ⟨k1, k2⟩ := evenC eF.z0 eF.fl
  have L1 := least eG.z0 eG.z1 T0 T1 (fun i hi => (hE.s0 hi).1) (fun i hi => (hE.s0 hi).2.2.2.1) eG.fl F0 (by grind) (by grind) (by grind) (by grind) p1
  have L2 := least eG.z0 eG.z1 T0 T1 (fun i hi => (hE.s0 hi).1) (fun i hi => (hE.s0 hi).2.2.2.1) eG.fl (F := fun _ => h) (fun _ _ => h0) (by grind) (by grind) (by grind) (by grind) p5
  exact {
    e1 := sp1
    e2 := sp2
    lX := eF.len
    lG := eG.len
    q1 := q1
    q2 := q2
    q3 := q3
    n1 := fun i hi => test_neg (eF.vF i hi) (F0 i hi)
    n2 := fun i hi => test_neg (eG.vF i hi) (G0 i hi)
    ro := fun i hi => test_road cF eF.vz eF.z0 z37 hi (eF.fl i hi)
    s1 := test_sum S1 hT sF F9 (by grind) (by grind)
    s2 := test_sum S2 hT sG G9 (by grind) (by grind)
    co := test_cost a1 p1 p2 S1 sF F9 eF.vz eF.z0 z37 k1 k2
    l1 := test_le a1 a2 p1 p2 p3 p4 L1
    l2 := test_le a3 a2 p5 p6 p3 p4 L2 }
end flw

end Go.Proofs.Ytgblgofmdhekiaa.Ab
