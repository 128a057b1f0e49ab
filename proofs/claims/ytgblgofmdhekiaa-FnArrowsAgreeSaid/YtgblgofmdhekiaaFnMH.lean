/-
  Means of arrows and products of complex numbers, of moderate size: the plain law.
-/
import Derived.Test.YtgblgofmdhekiaaFnMG
import Derived.Test.YtgblgofmdhekiaaFnL
namespace Go.Proofs.Ytgblgofmdhekiaa.Ab
open Go
set_option linter.unusedVariables false
set_option linter.unusedSimpArgs false

namespace fl
theorem isf_ok' {k : FloatKind} {x : Nat} (hx : fin k x) : (k.format.order (fsub k x x) 0 == some Ordering.eq) = true := by
  have z0 : Rep k 0 (k.format.leastPlace) := ⟨by cases k <;> decide, Int.le_refl _, by omega⟩
  have R := sub_rn hx hx z0 (by omega)
  have a := R.le z0 (by omega)
  have b := R.ge z0 (by rw [sc_zero]; omega)
  rw [sc_zero] at a b
  rw [order_val R.fin (zero_ok k).1, cmp_eq, (zero_ok k).2]
  exact decide_eq_true (by omega)
theorem flo_fin {x : Nat} (h : fin .f32 x) : flo.fin.sp x = true := isf_ok' h
theorem fin_flo {x : Nat} (h : flo.fin.sp x = true) : fin .f32 x := by
  have h' : (FloatKind.f32.format.order (fsub .f32 x x) 0 == some Ordering.eq) = true := h
  cases hd : FloatKind.f32.decode x with
  | number s m e => exact ⟨s, m, e, hd⟩
  | infinity s =>
    have hr : FloatKind.f32.format.read x = .infinity s := hd
    have e : fsub .f32 x x = qnan .f32 := by
      unfold fsub Ieee.Format.sub
      rw [hr]; cases s <;> rfl
    rw [e] at h'
    exact absurd h' (by decide +kernel)
  | nan s f =>
    have hr : FloatKind.f32.format.read x = .nan s f := hd
    have e : fsub .f32 x x = qnan .f32 := by
      unfold fsub Ieee.Format.sub
      rw [hr]; rfl
    rw [e] at h'
    exact absurd h' (by decide +kernel)
theorem fwid_val {x : Nat} (h : fin .f32 x) : fin .f64 (fwid.sv x) ∧ val .f64 (fwid.sv x) = val .f32 x ∧ ok.sp (fwid.sv x) = true := by
  obtain ⟨s, m, e, hd⟩ := h
  have pe := place_of hd
  have hm := mag_of hd
  have e1 : 2 * FloatKind.f32.format.binade = 16777216 := by decide
  have e2 : FloatKind.f32.format.leastPlace = -149 := by decide
  have hr : Rep .f64 m e := rep64 (by omega) (by omega) (by omega)
  have R := write_rn (k := .f64) (s := s) (mag := m) (place := e) (by omega) hr (Nat.le_refl _)
  have hw : fwid.sv x = FloatKind.f64.encode (.number s m e) := by unfold fwid.sv; rw [hd]
  have hv := R.exact hr (by unfold sv; cases s <;> simp)
  have hlt : FloatKind.f64.encode (.number s m e) < 18446744073709551616 := by
    have := Ieee.Format.write_lt FloatKind.f64.format (.number s m e)
    have ew : 2 ^ FloatKind.f64.format.width = 18446744073709551616 := by decide
    rw [ew] at this
    exact this
  rw [hw]
  refine ⟨R.fin, by rw [hv, val_eq hd], ?_⟩
  unfold ok.sp
  rw [fin_num R.fin, Bool.true_and, decide_eq_true_eq]
  exact hlt
/-- A number of moderate size. -/
def mod.sp (x : Nat) : Bool := num32.sp x && decide ((val .f32 x).natAbs ≤ sc 1 (31 : Nat))
def modc.sp (z : Nat × Nat) : Bool := mod.sp z.1 && mod.sp z.2
theorem mod_open {x : Nat} (h : mod.sp x = true) : fin .f32 x ∧ (val .f32 x).natAbs ≤ sc 1 (31 : Nat) := by
  simp only [mod.sp, Bool.and_eq_true, decide_eq_true_eq] at h
  exact ⟨num32_fin h.1, h.2⟩
theorem mod_of {x : Nat} (h : fin .f32 x ∧ (val .f32 x).natAbs ≤ sc 1 (31 : Nat)) : mod.sp x = true := by
  simp only [mod.sp, Bool.and_eq_true, decide_eq_true_eq]
  exact ⟨fin_num32 h.1, h.2⟩
theorem point_mod {x : Nat} (h : ok.sp x = true) : modc.sp (re.sv x, im.sv x) = true := by
  obtain ⟨a, b⟩ := point_ok h
  unfold modc.sp
  rw [mod_of a, mod_of b]; rfl
/-- Sums of parts. -/
def sm.sv : List (Nat × Nat) → Nat → Nat → Nat × Nat
  | [], s, t => (s, t)
  | z :: zs, s, t => sm.sv zs (fadd .f32 s z.1) (fadd .f32 t z.2)
def mean.sv (zs : List (Nat × Nat)) : Nat × Nat := (fdiv .f32 (sm.sv zs 0 0).1 (FloatKind.f32.nearest (zs.length : Int)), fdiv .f32 (sm.sv zs 0 0).2 (FloatKind.f32.nearest (zs.length : Int)))
theorem add_mod {s x i : Nat} (hi : i < 1000) (hs : fin .f32 s) (hsb : (val .f32 s).natAbs ≤ sc i (31 : Nat)) (hx : mod.sp x = true) : fin .f32 (fadd .f32 s x) ∧ (val .f32 (fadd .f32 s x)).natAbs ≤ sc (i + 1) (31 : Nat) := by
  obtain ⟨a, b⟩ := mod_open hx
  have r : Rep .f32 (i + 1) (31 : Nat) := rep32 (by omega) (by omega) (by omega)
  have e : sc (i + 1) (31 : Nat) = sc i (31 : Nat) + sc 1 (31 : Nat) := by rw [sc_nat (i + 1), sc_nat i, Nat.add_mul, Nat.one_mul]
  have R := add_rn hs a r (by rw [e]; omega)
  have c1 := R.le r (by omega)
  have c2 := R.nge r (by omega)
  exact ⟨R.fin, by omega⟩
theorem sm_ok : ∀ (zs : List (Nat × Nat)) (i s t : Nat), zs.all modc.sp = true → i + zs.length < 1000 → (fin .f32 s ∧ (val .f32 s).natAbs ≤ sc i (31 : Nat)) → (fin .f32 t ∧ (val .f32 t).natAbs ≤ sc i (31 : Nat)) →
    (fin .f32 (sm.sv zs s t).1 ∧ (val .f32 (sm.sv zs s t).1).natAbs ≤ sc (i + zs.length) (31 : Nat)) ∧ (fin .f32 (sm.sv zs s t).2 ∧ (val .f32 (sm.sv zs s t).2).natAbs ≤ sc (i + zs.length) (31 : Nat)) := by
  intro zs
  induction zs with
  | nil => intro i s t _ _ hs ht; exact ⟨hs, ht⟩
  | cons z zs ih =>
    intro i s t ha hl hs ht
    rw [List.all_cons, Bool.and_eq_true] at ha
    have hz := ha.1
    simp only [modc.sp, Bool.and_eq_true] at hz
    rw [List.length_cons] at hl ⊢
    have a := add_mod (by omega) hs.1 hs.2 hz.1
    have b := add_mod (by omega) ht.1 ht.2 hz.2
    have := ih (i + 1) _ _ ha.2 (by omega) a b
    rw [show i + (zs.length + 1) = i + 1 + zs.length from by omega]
    exact this
theorem mean_ok {zs : List (Nat × Nat)} (h : zs.all modc.sp = true) (h1 : 1 ≤ zs.length) (h2 : zs.length ≤ 64) : (fin .f32 (mean.sv zs).1 ∧ (val .f32 (mean.sv zs).1).natAbs ≤ sc 64 (31 : Nat)) ∧ (fin .f32 (mean.sv zs).2 ∧ (val .f32 (mean.sv zs).2).natAbs ≤ sc 64 (31 : Nat)) := by
  have z : fin .f32 0 ∧ (val .f32 0).natAbs ≤ sc 0 (31 : Nat) := by
    have := zero_ok .f32
    exact ⟨this.1, by rw [this.2]; exact Nat.zero_le _⟩
  obtain ⟨a, b⟩ := sm_ok zs 0 0 0 h (by omega) z z
  rw [Nat.zero_add] at a b
  have e1 : 2 * FloatKind.f32.format.binade = 16777216 := by decide
  obtain ⟨n1, n2⟩ := ofInt_ok (k := .f32) (n := (zs.length : Int)) (by omega)
  have r : Rep .f32 64 (31 : Nat) := rep32 (by omega) (by omega) (by omega)
  have hbig := big_pos
  have hn : (val .f32 (FloatKind.f32.nearest (zs.length : Int))).natAbs = zs.length * big := by
    rw [n2, Int.natAbs_mul, Int.natAbs_natCast, Int.natAbs_natCast, one_big]
  have hn0 : val .f32 (FloatKind.f32.nearest (zs.length : Int)) ≠ 0 := by
    intro h0
    rw [h0] at hn
    have : 0 < zs.length * big := Nat.mul_pos (by omega) hbig
    simp at hn
    omega
  have le64 : sc zs.length (31 : Nat) ≤ sc 64 (31 : Nat) := sc_le.2 h2
  have key : ∀ S : Nat, S ≤ sc zs.length (31 : Nat) → S * big ≤ sc 64 (31 : Nat) * (zs.length * big) := fun S hS => by
    rw [← Nat.mul_assoc]
    refine Nat.mul_le_mul_right _ (Nat.le_trans (Nat.le_trans hS le64) ?_)
    exact Nat.le_mul_of_pos_right _ (by omega)
  exact ⟨div_rn a.1 n1 hn0 r (by rw [hn]; exact key _ a.2), div_rn b.1 n1 hn0 r (by rw [hn]; exact key _ b.2)⟩
/-- The product with wide parts, and narrowed. -/
def wre.sv (a b c d : Nat) : Nat := fsub .f64 (fmul .f64 a c) (fmul .f64 b d)
def wim.sv (a b c d : Nat) : Nat := fadd .f64 (fmul .f64 a d) (fmul .f64 b c)
def mre.sv (a b c d : Nat) : Nat := nar.sv (wre.sv (fwid.sv a) (fwid.sv b) (fwid.sv c) (fwid.sv d))
def mim.sv (a b c d : Nat) : Nat := nar.sv (wim.sv (fwid.sv a) (fwid.sv b) (fwid.sv c) (fwid.sv d))
def mok.sp (a b c d : Nat) : Bool := nar.ok.sp (wre.sv (fwid.sv a) (fwid.sv b) (fwid.sv c) (fwid.sv d)) && nar.ok.sp (wim.sv (fwid.sv a) (fwid.sv b) (fwid.sv c) (fwid.sv d))
theorem mul_ok {a b c d : Nat} (ha : fin .f32 a ∧ (val .f32 a).natAbs ≤ sc 64 (31 : Nat)) (hb : fin .f32 b ∧ (val .f32 b).natAbs ≤ sc 64 (31 : Nat)) (hc : fin .f32 c ∧ (val .f32 c).natAbs ≤ sc 1 (31 : Nat)) (hd : fin .f32 d ∧ (val .f32 d).natAbs ≤ sc 1 (31 : Nat)) : mok.sp a b c d = true := by
  obtain ⟨a1, a2, _⟩ := fwid_val ha.1
  obtain ⟨b1, b2, _⟩ := fwid_val hb.1
  obtain ⟨c1, c2, _⟩ := fwid_val hc.1
  obtain ⟨d1, d2, _⟩ := fwid_val hd.1
  have r : Rep .f64 64 (62 : Nat) := rep64 (by omega) (by omega) (by omega)
  have r2 : Rep .f64 128 (62 : Nat) := rep64 (by omega) (by omega) (by omega)
  have s2 : Rep .f32 128 (62 : Nat) := rep32 (by omega) (by omega) (by omega)
  have hle : sc (64 * 1) (((31 : Nat) : Int) + ((31 : Nat) : Int)) ≤ sc 64 (62 : Nat) := Nat.le_refl _
  have mm : ∀ {x y : Nat}, fin .f64 x → fin .f64 y → (val .f64 x).natAbs ≤ sc 64 (31 : Nat) → (val .f64 y).natAbs ≤ sc 1 (31 : Nat) → fin .f64 (fmul .f64 x y) ∧ (val .f64 (fmul .f64 x y)).natAbs ≤ sc 64 (62 : Nat) := fun hx hy hxb hyb =>
    mul_rn hx hy (A := 64) (B := 1) (a := ((31 : Nat) : Int)) (b := ((31 : Nat) : Int)) (by omega) (by omega) hxb hyb r hle
  have e : sc 128 (62 : Nat) = sc 64 (62 : Nat) + sc 64 (62 : Nat) := by rw [sc_nat 128, sc_nat 64, ← Nat.add_mul]
  have p1 := mm a1 c1 (by rw [a2]; exact ha.2) (by rw [c2]; exact hc.2)
  have p2 := mm b1 d1 (by rw [b2]; exact hb.2) (by rw [d2]; exact hd.2)
  have p3 := mm a1 d1 (by rw [a2]; exact ha.2) (by rw [d2]; exact hd.2)
  have p4 := mm b1 c1 (by rw [b2]; exact hb.2) (by rw [c2]; exact hc.2)
  have R1 := sub_rn p1.1 p2.1 r2 (by rw [e]; omega)
  have R2 := add_rn p3.1 p4.1 r2 (by rw [e]; omega)
  have u1 := R1.le r2 (by omega)
  have u2 := R1.nge r2 (by omega)
  have v1 := R2.le r2 (by omega)
  have v2 := R2.nge r2 (by omega)
  unfold mok.sp wre.sv wim.sv
  rw [(nar_rn R1.fin s2 (by omega)).1, (nar_rn R2.fin s2 (by omega)).1]
  rfl
theorem neg_ok32 {x : Nat} (hx : fin .f32 x) : fin .f32 (Op.negFloat .f32 x) ∧ val .f32 (Op.negFloat .f32 x) = -(val .f32 x) := by
  obtain ⟨s, m, e, hd⟩ := hx
  have e0 : FloatKind.f32.format.exponentBits + FloatKind.f32.format.fractionBits = 31 := by decide
  have eS : FloatKind.f32.format.signWeight = 2 ^ 31 := by decide
  have h1 : Op.negFloat .f32 x % 2 ^ 31 = x % 2 ^ 31 := by
    unfold Op.negFloat
    rw [e0, Nat.xor_mod_two_pow, Nat.mod_self, Nat.xor_zero]
  have h2 : Op.negFloat .f32 x / 2 ^ 31 % 2 = 1 - x / 2 ^ 31 % 2 := by
    unfold Op.negFloat
    rw [e0, ← Nat.shiftRight_eq_div_pow, Nat.shiftRight_xor_distrib, Nat.shiftRight_eq_div_pow, Nat.shiftRight_eq_div_pow, Nat.div_self (Nat.two_pow_pos 31)]
    have : (x / 2 ^ 31 ^^^ 1) % 2 = (x / 2 ^ 31 % 2) ^^^ (1 % 2) := Nat.xor_mod_two_pow (n := 1)
    rw [this]
    rcases Nat.mod_two_eq_zero_or_one (x / 2 ^ 31) with h | h <;> rw [h] <;> rfl
  have hd' : FloatKind.f32.decode (Op.negFloat .f32 x) = .number (!s) m e := by
    unfold FloatKind.decode Ieee.Format.read at hd ⊢
    simp only [eS] at hd ⊢
    rw [h1, h2]
    have hb : ((1 - x / 2 ^ 31 % 2) == 1) = !(x / 2 ^ 31 % 2 == 1) := by
      rcases Nat.mod_two_eq_zero_or_one (x / 2 ^ 31) with h | h <;> rw [h] <;> rfl
    rw [hb]
    split at hd
    · rename_i hc; rw [if_pos hc]; simp only [Ieee.Datum.number.injEq] at hd ⊢; obtain ⟨rfl, rfl, rfl⟩ := hd; exact ⟨rfl, rfl, rfl⟩
    · rename_i hc
      rw [if_neg hc]
      split at hd
      · rename_i hc2; rw [if_pos hc2]; simp only [Ieee.Datum.number.injEq] at hd ⊢; obtain ⟨rfl, rfl, rfl⟩ := hd; exact ⟨rfl, rfl, rfl⟩
      · split at hd <;> cases hd
  refine ⟨⟨_, _, _, hd'⟩, ?_⟩
  rw [val_eq hd', val_eq hd]
  unfold sv; cases s <;> simp
end fl

namespace ag
def a.sv (x : Nat) : Nat × Nat := (fl.re.sv (fwid.sv x), fl.im.sv (fwid.sv x))
def arr.sv (xs : List Nat) : List (Nat × Nat) := xs.map a.sv
def m.sv (xs : List Nat) : Nat × Nat := fl.mean.sv (arr.sv xs)
def one.sv (by_ : Nat) (m : Nat × Nat) (x : Nat) : Nat := fadd .f32 x (fmul .f32 by_ (fl.mim.sv m.1 m.2 (a.sv x).1 (Op.negFloat .f32 (a.sv x).2)))
def o.sv (xs : List Nat) (by_ : Nat) : List Nat := xs.map (one.sv by_ (m.sv xs))
/-- Valid turns. -/
def t.sp (xs : List Nat) : Bool := (decide (1 ≤ xs.length) && decide (xs.length ≤ 64)) && !xs.any areFinite_1.sp
def sp (xs : List Nat) (by_ : Nat) : Bool := (t.sp xs && flo.fin.sp by_) && !(o.sv xs by_).any areFinite_1.sp
theorem arr_length (xs : List Nat) : (arr.sv xs).length = xs.length := by unfold arr.sv; rw [List.length_map]
theorem o_length (xs : List Nat) (b : Nat) : (o.sv xs b).length = xs.length := by unfold o.sv; rw [List.length_map]
theorem fin_of {xs : List Nat} (h : xs.any areFinite_1.sp = false) {x : Nat} (hx : x ∈ xs) : fl.fin .f32 x := by
  have := List.any_eq_false.1 h x hx
  refine fl.fin_flo ?_
  simpa [areFinite_1.sp] using this
theorem ok_of {xs : List Nat} (h : xs.any areFinite_1.sp = false) {x : Nat} (hx : x ∈ xs) : fl.ok.sp (fwid.sv x) = true := (fl.fwid_val (fin_of h hx)).2.2
theorem as_mod {xs : List Nat} (h : xs.any areFinite_1.sp = false) : (arr.sv xs).all fl.modc.sp = true := by
  unfold arr.sv
  rw [List.all_map, List.all_eq_true]
  intro x hx
  exact fl.point_mod (ok_of h hx)
theorem mok {xs : List Nat} (h : t.sp xs = true) {x : Nat} (hx : x ∈ xs) : fl.mok.sp (m.sv xs).1 (m.sv xs).2 (a.sv x).1 (Op.negFloat .f32 (a.sv x).2) = true := by
  simp only [t.sp, Bool.and_eq_true, decide_eq_true_eq, Bool.not_eq_true'] at h
  obtain ⟨m1, m2⟩ := fl.mean_ok (as_mod h.2) (by rw [arr_length]; exact h.1.1) (by rw [arr_length]; exact h.1.2)
  obtain ⟨a1, a2⟩ := fl.point_ok (ok_of h.2 hx)
  obtain ⟨n1, n2⟩ := fl.neg_ok32 a2.1
  exact fl.mul_ok m1 m2 a1 ⟨n1, by show (fl.val .f32 (Op.negFloat .f32 (fl.im.sv (fwid.sv x)))).natAbs ≤ _; rw [n2, Int.natAbs_neg]; exact a2.2⟩
end ag

end Go.Proofs.Ytgblgofmdhekiaa.Ab
