/-
  The abstract machine: floats. What is not a number is one value here; in the model its bits are drawn.
-/
import Derived.Test.YtjhofofieiiplaaGreatDoorAbMem
namespace Go.Proofs.YtjhofofieiiplaaGreatDoor.Ab
open Go
set_option linter.unusedVariables false
set_option linter.unusedSimpArgs false

theorem nan_iff (k : FloatKind) (b : Nat) : (k.decode b).isNaN = decide (k.format.infRung < b % k.format.signWeight) := by
  unfold FloatKind.decode Ieee.Format.read
  have h : k.format.binade ≤ k.format.infRung := by cases k <;> decide
  simp only []
  split
  · rename_i h1; simp only [Ieee.Datum.isNaN]; symm; rw [decide_eq_false_iff_not]; omega
  · split
    · rename_i h1 h2; simp only [Ieee.Datum.isNaN]; symm; rw [decide_eq_false_iff_not]; omega
    · split
      · rename_i h1 h2 h3; simp only [Ieee.Datum.isNaN]; symm; rw [decide_eq_false_iff_not]; omega
      · rename_i h1 h2 h3; simp only [Ieee.Datum.isNaN]; symm; rw [decide_eq_true_eq]; omega

theorem nan_of {k : FloatKind} {b : Nat} (h : (k.decode b).isNaN = true) : ∃ s f, k.format.read b = .nan s f := by
  unfold FloatKind.decode at h
  cases hr : k.format.read b <;> simp [hr, Ieee.Datum.isNaN] at h
  exact ⟨_, _, rfl⟩

theorem isnan_qnan (k : FloatKind) : (k.decode (qnan k)).isNaN = true := by cases k <;> rw [nan_iff] <;> decide
theorem isnan_neg {k : FloatKind} {b : Nat} (h : (k.decode b).isNaN = true) : (k.decode (Op.negFloat k b)).isNaN = true := by
  rw [nan_iff] at h ⊢
  rw [decide_eq_true_eq] at h ⊢
  have : Op.negFloat k b % k.format.signWeight = b % k.format.signWeight := by
    unfold Op.negFloat Ieee.Format.signWeight
    rw [Nat.xor_mod_two_pow, Nat.mod_self, Nat.xor_zero]
  rwa [this]

theorem nanCut32 (t : Nat) : (FloatKind.f32.decode ((t % 2) * 2 ^ 31 + 0x7f800000 + 1 + (t / 2) % (2 ^ 23 - 1))).isNaN = true := by
  rw [nan_iff, decide_eq_true_eq]
  have h1 : FloatKind.f32.format.infRung = 2139095040 := rfl
  have h2 : FloatKind.f32.format.signWeight = 2147483648 := rfl
  rw [h1, h2]
  have h3 := Nat.mod_lt (t / 2) (show 0 < (2 ^ 23 - 1) by omega)
  generalize t / 2 % (2 ^ 23 - 1) = r at *
  rcases Nat.mod_two_eq_zero_or_one t with h | h <;> rw [h] <;> omega
theorem nanCut64 (t : Nat) : (FloatKind.f64.decode ((t % 2) * 2 ^ 63 + 0x7ff0000000000000 + 1 + (t / 2) % (2 ^ 52 - 1))).isNaN = true := by
  rw [nan_iff, decide_eq_true_eq]
  have h1 : FloatKind.f64.format.infRung = 9218868437227405312 := rfl
  have h2 : FloatKind.f64.format.signWeight = 9223372036854775808 := rfl
  rw [h1, h2]
  have h3 := Nat.mod_lt (t / 2) (show 0 < (2 ^ 52 - 1) by omega)
  generalize t / 2 % (2 ^ 52 - 1) = r at *
  rcases Nat.mod_two_eq_zero_or_one t with h | h <;> rw [h] <;> omega
theorem nanBits_isnan (k : FloatKind) (x y t : Nat) : (k.decode ((Question.nanBits k x y).cut t)).isNaN = true := by
  cases k
  · exact nanCut32 t
  · exact nanCut64 t
theorem nanConv_isnan (k : FloatKind) (x t : Nat) : (k.decode ((Question.nanConv k x).cut t)).isNaN = true := by
  cases k
  · exact nanCut32 t
  · exact nanCut64 t

theorem order_same {k : FloatKind} {a b c d : Nat} (h1 : fsame k a c) (h2 : fsame k b d) : k.format.order a b = k.format.order c d := by
  unfold Ieee.Format.order
  rcases h1 with rfl | ⟨n1, m1⟩
  · rcases h2 with rfl | ⟨n2, m2⟩
    · rfl
    · obtain ⟨s, f, e⟩ := nan_of n2; obtain ⟨s', f', e'⟩ := nan_of m2
      rw [e, e']; cases k.format.read a <;> rfl
  · obtain ⟨s, f, e⟩ := nan_of n1; obtain ⟨s', f', e'⟩ := nan_of m1
    rw [e, e']; cases k.format.read b <;> cases k.format.read d <;> rfl

/-- One operation: the same answer, or neither is a number. -/
theorem op_same {k : FloatKind} {f : Nat → Nat → Option Nat} (hl : ∀ a b, (k.decode a).isNaN = true → f a b = none) (hr : ∀ a b, (k.decode b).isNaN = true → f a b = none)
    {a b c d : Nat} (h1 : fsame k a c) (h2 : fsame k b d) : f a b = f c d := by
  rcases h1 with rfl | ⟨n1, m1⟩
  · rcases h2 with rfl | ⟨n2, m2⟩
    · rfl
    · rw [hr a b n2, hr a d m2]
  · rw [hl a b n1, hl c d m1]
theorem add_l {k : FloatKind} (a b : Nat) (h : (k.decode a).isNaN = true) : k.format.add a b = none := by
  obtain ⟨s, f, e⟩ := nan_of h; unfold Ieee.Format.add; rw [e]; cases k.format.read b <;> rfl
theorem add_r {k : FloatKind} (a b : Nat) (h : (k.decode b).isNaN = true) : k.format.add a b = none := by
  obtain ⟨s, f, e⟩ := nan_of h; unfold Ieee.Format.add; rw [e]; cases k.format.read a <;> rfl
theorem sub_l {k : FloatKind} (a b : Nat) (h : (k.decode a).isNaN = true) : k.format.sub a b = none := by
  obtain ⟨s, f, e⟩ := nan_of h; unfold Ieee.Format.sub; rw [e]; cases k.format.read b <;> rfl
theorem sub_r {k : FloatKind} (a b : Nat) (h : (k.decode b).isNaN = true) : k.format.sub a b = none := by
  obtain ⟨s, f, e⟩ := nan_of h; unfold Ieee.Format.sub; rw [e]; cases k.format.read a <;> rfl
theorem mul_l {k : FloatKind} (a b : Nat) (h : (k.decode a).isNaN = true) : k.format.mul a b = none := by
  obtain ⟨s, f, e⟩ := nan_of h; unfold Ieee.Format.mul; rw [e]; cases k.format.read b <;> rfl
theorem mul_r {k : FloatKind} (a b : Nat) (h : (k.decode b).isNaN = true) : k.format.mul a b = none := by
  obtain ⟨s, f, e⟩ := nan_of h; unfold Ieee.Format.mul; rw [e]; cases k.format.read a <;> rfl
theorem div_l {k : FloatKind} (a b : Nat) (h : (k.decode a).isNaN = true) : k.format.div a b = none := by
  obtain ⟨s, f, e⟩ := nan_of h; unfold Ieee.Format.div; rw [e]; cases k.format.read b <;> rfl
theorem div_r {k : FloatKind} (a b : Nat) (h : (k.decode b).isNaN = true) : k.format.div a b = none := by
  obtain ⟨s, f, e⟩ := nan_of h; unfold Ieee.Format.div; rw [e]; cases k.format.read a <;> rfl

/-- Where a step only draws. -/
def Drawn (w w' : World) : Prop := w' = w ∨ w' = w.drew
theorem Drawn.heap {w w' : World} (h : Drawn w w') : w'.heap = w.heap := by rcases h with rfl | rfl <;> rfl
theorem Drawn.mv {w w' : World} (h : Drawn w w') (ρ : List Nat) (H : Heap) : Mv ρ H w ρ H w' := by
  rcases h with rfl | rfl
  · exact Mv.refl _ _ _
  · exact Mv.drew _ _ _

theorem farith_ok {P : Program} {k : FloatKind} {op : BinOp} {f : Nat → Nat → Option Nat} (w : World) (c d : Nat)
    (hop : (op = .add ∧ f = k.format.add) ∨ (op = .sub ∧ f = k.format.sub) ∨ (op = .mul ∧ f = k.format.mul) ∨ (op = .quo ∧ f = k.format.div)) :
    ∃ r w', (Op.floatArith op k c d).run P w = .ok (.float k r) w' ∧ Drawn w w' ∧ fsame k ((f c d).getD (qnan k)) r := by
  have drawn : (do pure (.float k (← choose (.nanBits k c d))) : Sem Value).run P w = .ok (.float k ((Question.nanBits k c d).cut (w.tape w.drawn (.nanBits k c d)))) w.drew := by
    simp only [Sem.run_bind, choose, Sem.run, Question.forced, Result.andThen_ok, Sem.run_pure]
    rfl
  have fin : fsame k (qnan k) ((Question.nanBits k c d).cut (w.tape w.drawn (.nanBits k c d))) := .inr ⟨isnan_qnan k, nanBits_isnan k c d _⟩
  rcases hop with ⟨rfl, rfl⟩ | ⟨rfl, rfl⟩ | ⟨rfl, rfl⟩ | ⟨rfl, rfl⟩
  · cases hr : k.format.add c d with
    | some r => exact ⟨r, w, by simp [Op.floatArith, hr], .inl rfl, .inl rfl⟩
    | none => exact ⟨_, _, by simp only [Op.floatArith, hr, Sem.run_bind, Sem.run_pure, Result.andThen_ok]; simpa using drawn, .inr rfl, fin⟩
  · cases hr : k.format.sub c d with
    | some r => exact ⟨r, w, by simp [Op.floatArith, hr], .inl rfl, .inl rfl⟩
    | none => exact ⟨_, _, by simp only [Op.floatArith, hr, Sem.run_bind, Sem.run_pure, Result.andThen_ok]; simpa using drawn, .inr rfl, fin⟩
  · cases hr : k.format.mul c d with
    | some r => exact ⟨r, w, by simp [Op.floatArith, hr], .inl rfl, .inl rfl⟩
    | none => exact ⟨_, _, by simp only [Op.floatArith, hr, Sem.run_bind, Sem.run_pure, Result.andThen_ok]; simpa using drawn, .inr rfl, fin⟩
  · cases hr : k.format.div c d with
    | some r => exact ⟨r, w, by simp [Op.floatArith, hr], .inl rfl, .inl rfl⟩
    | none => exact ⟨_, _, by simp only [Op.floatArith, hr, Sem.run_bind, Sem.run_pure, Result.andThen_ok]; simpa using drawn, .inr rfl, fin⟩

/-! Words that are written. -/
theorem word_mod (f : Ieee.Format) (neg : Bool) (r : Nat) (h : r < f.signWeight) : f.word neg r % f.signWeight = r := by
  unfold Ieee.Format.word
  cases neg
  · simp [Nat.mod_eq_of_lt h]
  · simp [Nat.mod_eq_of_lt h]
theorem infRung_lt' (k : FloatKind) : k.format.infRung < k.format.signWeight := by cases k <;> decide
/-- A number that is written is a number, or infinite. -/
theorem write_number_not_nan (k : FloatKind) (s : Bool) (m : Nat) (e : Int) : (k.decode (k.encode (.number s m e))).isNaN = false := by
  rw [nan_iff, decide_eq_false_iff_not]
  have hi := infRung_lt' k
  unfold FloatKind.encode Ieee.Format.write Ieee.Format.nearest
  simp only []
  split
  · rw [word_mod _ _ _ (by omega)]; omega
  · rw [word_mod _ _ _ (by omega)]; omega
theorem order_self (k : FloatKind) (b : Nat) (h : (k.decode b).isNaN = false) : k.format.order b b = some .eq := by
  unfold Ieee.Format.order
  have : k.decode b = k.format.read b := rfl
  rw [this] at h
  cases hr : k.format.read b with
  | nan s f => rw [hr] at h; cases h
  | infinity s => simp [Ieee.Datum.order]
  | number s m e => simp [Ieee.Datum.order]
theorem nearest_self (k : FloatKind) (n : Int) : k.format.order (k.nearest n) (k.nearest n) = some .eq := order_self k _ (write_number_not_nan k _ _ _)

theorem read_single {b : Nat} {s : Bool} {m : Nat} {e : Int} (h : FloatKind.f32.decode b = .number s m e) : m < 16777216 ∧ -149 ≤ e ∧ e ≤ 104 := by
  have h1 : FloatKind.f32.format.infRung = 2139095040 := rfl
  have h2 : FloatKind.f32.format.signWeight = 2147483648 := rfl
  have h3 : FloatKind.f32.format.binade = 8388608 := rfl
  have h4 : FloatKind.f32.format.leastPlace = -149 := rfl
  unfold FloatKind.decode Ieee.Format.read at h
  simp only [h1, h2, h3, h4] at h
  split at h
  · simp only [Ieee.Datum.number.injEq] at h; omega
  · split at h
    · simp only [Ieee.Datum.number.injEq] at h; omega
    · split at h <;> cases h
theorem log2_lt24 {m : Nat} (h0 : m ≠ 0) (h : m < 16777216) : m.log2 ≤ 23 := by
  have := (Nat.log2_lt h0).2 (show m < 2 ^ 24 by omega)
  omega
theorem rung_lt (x k B : Nat) (hx : x ≤ 1149) (hk : k < 2 * B) : x * B + k < 2047 * B := by
  have := Nat.mul_le_mul_right B hx
  omega
theorem shift53 {m : Nat} (h0 : m ≠ 0) (hl : m.log2 ≤ 23) : m <<< (52 - m.log2) < 2 * 2 ^ 52 := by
  rw [Nat.shiftLeft_eq]
  have hlt : m < 2 ^ (m.log2 + 1) := Nat.lt_log2_self
  have := Nat.mul_lt_mul_of_pos_right hlt (Nat.two_pow_pos (52 - m.log2))
  rw [← Nat.pow_add] at this
  have e53 : m.log2 + 1 + (52 - m.log2) = 52 + 1 := by omega
  rw [e53, Nat.pow_succ, Nat.mul_comm (2 ^ 52)] at this
  exact this
theorem cut0 (s : Bool) (n : Nat) : Ieee.Toward.even.cut s n 0 = n := by
  unfold Ieee.Toward.cut
  simp [Nat.mod_one]
theorem infRung_eq : FloatKind.f64.format.infRung = 2047 * FloatKind.f64.format.binade := rfl
theorem binade_eq : FloatKind.f64.format.binade = 2 ^ 52 := rfl
theorem place_eq : FloatKind.f64.format.leastPlace = -1074 := rfl
theorem frac_eq : ((FloatKind.f64.format.fractionBits : Nat) : Int) = 52 := rfl
theorem wide_rung {s : Bool} {m : Nat} {e : Int} (hm : m < 16777216) (he1 : -149 ≤ e) (he2 : e ≤ 104) : ∃ r, r < FloatKind.f64.format.infRung ∧ FloatKind.f64.format.nearest s m e = FloatKind.f64.format.word s r := by
  unfold Ieee.Format.nearest
  by_cases h0 : m = 0
  · refine ⟨0, ?_, by simp [h0]⟩
    rw [infRung_eq, binade_eq]
    exact Nat.mul_pos (by decide) (Nat.two_pow_pos _)
  · rw [if_neg h0]
    refine ⟨_, ?_, rfl⟩
    have hl := log2_lt24 h0 hm
    have hk := shift53 h0 hl
    generalize m.log2 = l at hl hk
    simp only [place_eq, frac_eq]
    have hmax : max (e + (l : Int) - 52) (-1074) = e + (l : Int) - 52 := by omega
    rw [hmax]
    have d1 : (e + (l : Int) - 52 - e).toNat = 0 := by omega
    have d2 : (e - (e + (l : Int) - 52)).toNat = 52 - l := by omega
    rw [d1, d2, cut0, infRung_eq, binade_eq]
    have hr : (e + (l : Int) - 52 - -1074).toNat ≤ 1149 := by omega
    exact Nat.lt_of_le_of_lt (Nat.min_le_left _ _) (rung_lt _ _ _ hr hk)
theorem read_word_finite {s : Bool} {r : Nat} (hr : r < FloatKind.f64.format.infRung) : (FloatKind.f64.decode (FloatKind.f64.format.word s r)).isInfinity = false := by
  have hmod := word_mod FloatKind.f64.format s r (Nat.lt_trans hr (infRung_lt' .f64))
  unfold FloatKind.decode Ieee.Format.read
  simp only [hmod]
  split
  · rfl
  · first
      | rfl
      | (split
         · rfl
         · rename_i h; exact absurd hr h)
theorem wide_finite {b : Nat} {s : Bool} {m : Nat} {e : Int} (h : FloatKind.f32.decode b = .number s m e) : (FloatKind.f64.decode (FloatKind.f64.encode (.number s m e))).isInfinity = false := by
  obtain ⟨hm, he1, he2⟩ := read_single h
  obtain ⟨r, hr, hw⟩ := wide_rung (s := s) hm he1 he2
  have : FloatKind.f64.encode (.number s m e) = FloatKind.f64.format.word s r := hw
  rw [this]
  exact read_word_finite hr

theorem fwid_ok {P : Program} (w : World) {a b : Nat} (h : fsame .f32 a b) : ∃ r w', (Conv.floatToFloat .f32 b .f64).run P w = .ok (.float .f64 r) w' ∧ Drawn w w' ∧ fsame .f64 (fwid.sv a) r := by
  have drawn : (do pure (.float .f64 (← choose (.nanConv .f64 b))) : Sem Value).run P w = .ok (.float .f64 ((Question.nanConv .f64 b).cut (w.tape w.drawn (.nanConv .f64 b)))) w.drew := by
    simp only [Sem.run_bind, choose, Sem.run, Question.forced, Result.andThen_ok, Sem.run_pure]
    rfl
  have fin : fsame .f64 (qnan .f64) ((Question.nanConv .f64 b).cut (w.tape w.drawn (.nanConv .f64 b))) := .inr ⟨isnan_qnan .f64, nanConv_isnan .f64 b _⟩
  have hne : ¬ (FloatKind.f32 = FloatKind.f64) := by decide
  have nanCase : (FloatKind.f32.decode a).isNaN = true → (FloatKind.f32.decode b).isNaN = true → ∃ r w', (Conv.floatToFloat .f32 b .f64).run P w = .ok (.float .f64 r) w' ∧ Drawn w w' ∧ fsame .f64 (fwid.sv a) r := by
    intro ha hb
    have h1 : fwid.sv a = qnan .f64 := by
      unfold fwid.sv
      split
      · rfl
      · rename_i d hd
        exfalso
        cases hr : FloatKind.f32.decode a with
        | nan s f => exact hd s f hr
        | infinity s => rw [hr] at ha; cases ha
        | number s m e => rw [hr] at ha; cases ha
    rw [h1]
    refine ⟨_, _, ?_, .inr rfl, fin⟩
    unfold Conv.floatToFloat
    rw [if_neg hne]
    split
    · exact drawn
    · rename_i s hs; rw [hs] at hb; cases hb
    · rename_i s m e hs; rw [hs] at hb; cases hb
  rcases h with rfl | ⟨ha, hb⟩
  · cases hr : FloatKind.f32.decode a with
    | nan s f => exact nanCase (by rw [hr]; rfl) (by rw [hr]; rfl)
    | infinity s =>
      refine ⟨FloatKind.f64.encode (.infinity s), w, ?_, .inl rfl, .inl ?_⟩
      · unfold Conv.floatToFloat; rw [if_neg hne, hr]; simp
      · unfold fwid.sv; rw [hr]
    | number s m e =>
      refine ⟨FloatKind.f64.encode (.number s m e), w, ?_, .inl rfl, .inl ?_⟩
      · unfold Conv.floatToFloat; rw [if_neg hne, hr]; simp [wide_finite hr]
      · unfold fwid.sv; rw [hr]
  · exact nanCase ha hb

theorem nar_num {P : Program} (w : World) {a b : Nat} (h : fsame .f64 a b) (hk : narn.sp a = true) : (Conv.floatToFloat .f64 b .f32).run P w = .ok (.float .f32 (nar.sv a)) w := by
  unfold narn.sp at hk
  split at hk
  · rename_i s m e hd
    have hab : a = b := by
      rcases h with h | ⟨h, _⟩
      · exact h
      · rw [hd] at h; cases h
    subst hab
    simp only [Bool.not_eq_true'] at hk
    unfold Conv.floatToFloat
    rw [if_neg (by decide), hd]
    simp only [hk, nar.sv, hd]
    simp
  · cases hk
theorem nar_ok {P : Program} (w : World) {a b : Nat} (h : fsame .f64 a b) (hk : nar.ok.sp a = true) : ∃ r w', (Conv.floatToFloat .f64 b .f32).run P w = .ok (.float .f32 r) w' ∧ Drawn w w' ∧ fsame .f32 (nar.sv a) r := by
  have hne : ¬ (FloatKind.f64 = FloatKind.f32) := by decide
  have nanCase : (FloatKind.f64.decode a).isNaN = true → (FloatKind.f64.decode b).isNaN = true → ∃ r w', (Conv.floatToFloat .f64 b .f32).run P w = .ok (.float .f32 r) w' ∧ Drawn w w' ∧ fsame .f32 (nar.sv a) r := by
    intro ha hb
    have h1 : nar.sv a = qnan .f32 := by
      unfold nar.sv
      split
      · rfl
      · rename_i d hd
        exfalso
        cases hr : FloatKind.f64.decode a with
        | nan s f => exact hd s f hr
        | infinity s => rw [hr] at ha; cases ha
        | number s m e => rw [hr] at ha; cases ha
    rw [h1]
    refine ⟨(Question.nanConv .f32 b).cut (w.tape w.drawn (.nanConv .f32 b)), w.drew, ?_, .inr rfl, .inr ⟨isnan_qnan .f32, nanConv_isnan .f32 b _⟩⟩
    unfold Conv.floatToFloat
    rw [if_neg hne]
    split
    · simp only [Sem.run_bind, choose, Sem.run, Question.forced, Result.andThen_ok, Sem.run_pure]
      rfl
    · rename_i s hs; rw [hs] at hb; cases hb
    · rename_i s m e hs; rw [hs] at hb; cases hb
  rcases h with rfl | ⟨ha, hb⟩
  · cases hr : FloatKind.f64.decode a with
    | nan s f => exact nanCase (by rw [hr]; rfl) (by rw [hr]; rfl)
    | infinity s =>
      refine ⟨FloatKind.f32.encode (.infinity s), w, ?_, .inl rfl, .inl ?_⟩
      · unfold Conv.floatToFloat; rw [if_neg hne, hr]; simp
      · unfold nar.sv; rw [hr]
    | number s m e =>
      exact ⟨_, w, nar_num w (.inl rfl) (by unfold nar.ok.sp at hk; rw [hr] at hk; unfold narn.sp; rw [hr]; exact hk), .inl rfl, .inl rfl⟩
  · exact nanCase ha hb
theorem fti_ok {P : Program} (w : World) {k : IntKind} {f : FloatKind} {a b : Nat} (h : fsame f a b) (hk : fti.ok.sp k f a = true) : (Conv.floatToInt f b k).run P w = .ok (.int k (fti.sv f a)) w := by
  unfold fti.ok.sp at hk
  split at hk
  · rename_i n hd
    have hab : a = b := by
      rcases h with h | ⟨h, _⟩
      · exact h
      · exfalso
        obtain ⟨s, q, hq⟩ := nan_of h
        have hq2 : f.decode a = .nan s q := hq
        rw [hq2] at hd
        cases hd
    subst hab
    rw [decide_eq_true_eq] at hk
    unfold Conv.floatToInt
    simp only [hd, fti.sv, Option.getD_some]
    rw [if_pos hk]
    simp
  · cases hk
theorem num32_wid {P : Program} (w : World) {a b : Nat} (h : fsame .f32 a b) (hk : num32.sp a = true) : (Conv.floatToFloat .f32 b .f64).run P w = .ok (.float .f64 (fwid.sv a)) w := by
  unfold num32.sp at hk
  split at hk
  · rename_i s m e hd
    have hab : a = b := by
      rcases h with h | ⟨h, _⟩
      · exact h
      · rw [hd] at h; cases h
    subst hab
    unfold Conv.floatToFloat
    rw [if_neg (by decide), hd]
    simp [wide_finite hd, fwid.sv, hd]
  · cases hk
theorem cpx_wid {P : Program} (w : World) {a b c d : Nat} (h1 : fsame .f32 a c) (h2 : fsame .f32 b d) (k1 : num32.sp a = true) (k2 : num32.sp b = true) : (Conv.complexToComplex .f32 c d .f64).run P w = .ok (.complex .f64 (fwid.sv a) (fwid.sv b)) w := by
  unfold Conv.complexToComplex
  simp only [Sem.run_bind, num32_wid w h1 k1, num32_wid w h2 k2, Result.andThen_ok, Sem.run_pure]
theorem cpx_nar {P : Program} (w : World) {a b c d : Nat} (h1 : fsame .f64 a c) (h2 : fsame .f64 b d) (k1 : narn.sp a = true) (k2 : narn.sp b = true) : (Conv.complexToComplex .f64 c d .f32).run P w = .ok (.complex .f32 (nar.sv a) (nar.sv b)) w := by
  unfold Conv.complexToComplex
  simp only [Sem.run_bind, nar_num w h1 k1, nar_num w h2 k2, Result.andThen_ok, Sem.run_pure]

end Go.Proofs.YtjhofofieiiplaaGreatDoor.Ab
