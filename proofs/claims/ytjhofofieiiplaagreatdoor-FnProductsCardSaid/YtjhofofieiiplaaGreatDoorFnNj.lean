/-
  Plain: the angle of a point is a number for all finite numbers.
-/
import Derived.Test.YtjhofofieiiplaaGreatDoorFnNi
namespace Go.Proofs.YtjhofofieiiplaaGreatDoor.Ab
open Go
set_option linter.unusedVariables false
set_option linter.unusedSimpArgs false
set_option maxRecDepth 100000

namespace fl
theorem word_false (f : Ieee.Format) (r : Nat) : f.word false r = r := by
  unfold Ieee.Format.word
  exact if_neg (by decide)
theorem read_low (f : Ieee.Format) {r : Nat} (h : r < f.signWeight) {s : Bool} {m : Nat} {e : Int} (hr : f.read r = .number s m e) : s = false := by
  have h3 : r / f.signWeight = 0 := Nat.div_eq_of_lt h
  have h4 : (r / f.signWeight % 2 == 1) = false := by rw [h3]; decide
  unfold Ieee.Format.read at hr
  simp only [h4] at hr
  split at hr
  · simp only [Ieee.Datum.number.injEq] at hr; exact hr.1.symm
  · split at hr
    · simp only [Ieee.Datum.number.injEq] at hr; exact hr.1.symm
    · split at hr <;> cases hr
theorem near_low (f : Ieee.Format) (hi : f.infRung < f.signWeight) (m : Nat) (P : Int) : f.nearest false m P < f.signWeight := by
  unfold Ieee.Format.nearest
  split
  · rw [word_false]; omega
  · simp only [word_false]
    exact Nat.lt_of_le_of_lt (Nat.min_le_right _ _) hi
theorem enc_sign {m : Nat} {P : Int} {s : Bool} {m' : Nat} {e' : Int} (h : FloatKind.f64.decode (FloatKind.f64.encode (.number false m P)) = .number s m' e') : s = false := by
  have hw : FloatKind.f64.encode (.number false m P) = FloatKind.f64.format.nearest false m P := rfl
  have hn := near_low FloatKind.f64.format (infRung_lt' .f64) m P
  rw [hw] at h
  exact read_low FloatKind.f64.format hn h
theorem enc_pos {m : Nat} {P : Int} (h : fin .f64 (FloatKind.f64.encode (.number false m P))) : 0 ≤ val .f64 (FloatKind.f64.encode (.number false m P)) := by
  obtain ⟨s, m', e', hd⟩ := h
  have hs := enc_sign hd
  subst hs
  rw [val_eq hd]
  unfold sv
  simp
theorem rp (n : Nat) (h : n < 9007199254740992) : Rep .f64 n 0 := rep64 h (by omega) (by omega)
theorem scn (n : Nat) : sc n 0 = n * sc 1 0 := sc_nat n 0
theorem u_pos : 0 < sc 1 0 := by rw [one_big]; exact big_pos
theorem sq_ok {t : Nat} (ht : fin .f64 t) (hb : (val .f64 t).natAbs ≤ sc 1 0) : fin .f64 (fmul .f64 t t) ∧ 0 ≤ val .f64 (fmul .f64 t t) ∧ val .f64 (fmul .f64 t t) ≤ sc 1 0 := by
  obtain ⟨f1, f2⟩ := mul_rn ht ht (A := 1) (B := 1) (a := 0) (b := 0) (by omega) (by omega) hb hb (rp 1 (by omega)) (by simp)
  obtain ⟨s, m, i, hx⟩ := ht
  have hx' : FloatKind.f64.format.read t = .number s m i := hx
  have e : fmul .f64 t t = FloatKind.f64.encode (.number false (m * m) (i + i)) := by
    unfold fmul Ieee.Format.mul
    rw [hx']
    show FloatKind.f64.encode (.number (s ^^ s) (m * m) (i + i)) = _
    rw [Bool.xor_self]
  rw [e] at f1 f2 ⊢
  have := enc_pos f1
  exact ⟨f1, this, by omega⟩
theorem div_ok {x y : Nat} (hx : fin .f64 x) (hy : fin .f64 y) (h0 : 0 ≤ val .f64 x) (h1 : 0 < val .f64 y) {M : Nat} (hM : M < 9007199254740992) (h : (val .f64 x).natAbs * big ≤ sc M 0 * (val .f64 y).natAbs) :
    fin .f64 (fdiv .f64 x y) ∧ 0 ≤ val .f64 (fdiv .f64 x y) ∧ val .f64 (fdiv .f64 x y) ≤ sc M 0 := by
  obtain ⟨f1, f2⟩ := div_rn hx hy (by omega) (rp M hM) h
  by_cases hz : val .f64 x = 0
  · obtain ⟨_, g2⟩ := div_rn hx hy (by omega) (rp 0 (by omega)) (by rw [hz]; simp)
    rw [sc_zero] at g2
    exact ⟨f1, by omega, by omega⟩
  · obtain ⟨s, m, i, hdx⟩ := hx
    obtain ⟨t, n, j, hdy⟩ := hy
    have e1 := val_eq hdx
    have e2 := val_eq hdy
    have hs : s = false := by
      cases s
      · rfl
      · exfalso; rw [e1] at h0 hz; unfold sv at h0 hz; simp at h0 hz; omega
    have ht : t = false := by
      cases t
      · rfl
      · exfalso; rw [e2] at h1; unfold sv at h1; simp at h1; omega
    subst hs ht
    have hn : n ≠ 0 := by
      intro hn; subst hn
      rw [e2] at h1; unfold sv at h1; rw [sc_zero] at h1; simp at h1
    have hx' : FloatKind.f64.format.read x = .number false m i := hdx
    have hy' : FloatKind.f64.format.read y = .number false n j := hdy
    have e : ∃ M P, fdiv .f64 x y = FloatKind.f64.encode (.number false M P) := by
      refine ⟨2 * ((m <<< ((FloatKind.f64.format.fractionBits + 2) + n.log2 - m.log2)) / n) + ((m <<< ((FloatKind.f64.format.fractionBits + 2) + n.log2 - m.log2)) % n != 0).toNat, i - j - (((FloatKind.f64.format.fractionBits + 2) + n.log2 - m.log2 : Nat) : Int) - 1, ?_⟩
      unfold fdiv Ieee.Format.div
      rw [hx', hy']
      simp only [Ieee.Datum.quotient, if_neg hn, Bool.xor_self]
      rfl
    obtain ⟨M', P', e⟩ := e
    rw [e] at f1 f2 ⊢
    have := enc_pos f1
    exact ⟨f1, this, by omega⟩
theorem root_sq (n : Nat) : ∀ (k r : Nat), r * r ≤ n → Ieee.Datum.rootFrom n k r * Ieee.Datum.rootFrom n k r ≤ n
  | 0, r, h => h
  | k + 1, r, h => by
    have e : Ieee.Datum.rootFrom n (k + 1) r = Ieee.Datum.rootFrom n k (if (r + 1 <<< k) * (r + 1 <<< k) ≤ n then r + 1 <<< k else r) := rfl
    rw [e]
    split
    · rename_i h1; exact root_sq n k _ h1
    · exact root_sq n k r h
theorem sqrt_bd {r : Nat} (hr : fin .f64 r) (h1 : (sc 1 0 : Int) ≤ val .f64 r) (h2 : val .f64 r ≤ (sc 2 0 : Int)) : sqr.ok.sp r = true ∧ fin .f64 (sqr.sv r) ∧ 0 ≤ val .f64 (sqr.sv r) ∧ val .f64 (sqr.sv r) ≤ (sc 4 0 : Int) := by
  have hup := u_pos
  have n64 := fin_num hr
  obtain ⟨s, m, i, hd⟩ := hr
  have pl := place_of hd
  have hl := least_ge .f64
  have hmag := mag_of hd
  have hb : 2 * FloatKind.f64.format.binade = 9007199254740992 := by decide
  rw [hb] at hmag
  have ev := val_eq hd
  have hs : s = false := by
    cases s
    · rfl
    · exfalso; rw [ev] at h1; unfold sv at h1; simp at h1; omega
  subst hs
  have ev2 : val .f64 r = (sc m i : Int) := by rw [ev]; unfold sv; simp
  rw [ev2] at h1 h2
  have m0 : m ≠ 0 := by
    intro h; subst h; rw [sc_zero] at h1; omega
  have hi : i ≤ 1 := by
    refine Int.not_lt.1 fun hc => ?_
    have e1 : sc m i ≤ sc 2 0 := by omega
    have e2 : sc 1 2 ≤ sc m i := Nat.le_trans (sc_mono (a := 2) (b := i) (by omega) (by omega)) (sc_le.2 (by omega))
    have e3 : sc 1 2 = sc 4 0 := by have := sc_add 1 0 2 (by omega); simpa using this
    have e4 : sc 2 0 < sc 4 0 := sc_lt.2 (by omega)
    omega
  obtain ⟨more, hmore⟩ : ∃ q : Nat, (2 * (FloatKind.f64.format.fractionBits + 2) - m.log2) + ((i - ((2 * (FloatKind.f64.format.fractionBits + 2) - m.log2 : Nat) : Int)) % 2).toNat = q := ⟨_, rfl⟩
  have hfb : FloatKind.f64.format.fractionBits = 52 := by decide
  have hlog : m.log2 ≤ 52 := by
    have := (Nat.log2_lt m0).2 (show m < 2 ^ 53 by omega)
    omega
  have hm1 : 56 ≤ more ∧ more ≤ 109 := by rw [hfb] at hmore; omega
  obtain ⟨hh, hhh⟩ : ∃ q : Int, (i - (more : Int)) / 2 = q := ⟨_, rfl⟩
  have par : i - (more : Int) = 2 * hh := by rw [hfb] at hmore; omega
  obtain ⟨wh, hwh⟩ : ∃ q, Ieee.Datum.rootFrom (m <<< more) ((m <<< more).log2 / 2 + 1) 0 = q := ⟨_, rfl⟩
  have hw2 : wh * wh ≤ m <<< more := by rw [← hwh]; exact root_sq _ _ _ (by simp)
  have hsq : FloatKind.f64.format.sqrt r = some (FloatKind.f64.encode (.number false (2 * wh + (wh * wh != m <<< more).toNat) (hh - 1))) := by
    have hr' : FloatKind.f64.format.read r = .number false m i := hd
    unfold Ieee.Format.sqrt
    rw [hr']
    simp only [Ieee.Datum.root, if_neg m0, Bool.false_eq_true, if_false, hmore, hhh, hwh]
    rfl
  have e1 : sqr.sv r = FloatKind.f64.encode (.number false (2 * wh + (wh * wh != m <<< more).toNat) (hh - 1)) := by unfold sqr.sv; rw [hsq]; rfl
  have eok : sqr.ok.sp r = true := by unfold sqr.ok.sp; rw [n64, hsq]; rfl
  -- the root is below 2 ^ (P + 1), where P = 1 - hh
  obtain ⟨P, hP⟩ : ∃ P : Nat, (P : Int) = 1 - hh := ⟨(1 - hh).toNat, by omega⟩
  have hlt : wh < 2 ^ (P + 1) := by
    refine Nat.not_le.1 fun hc => ?_
    have h3 : 2 ^ (P + 1) * 2 ^ (P + 1) ≤ m <<< more := Nat.le_trans (Nat.mul_le_mul hc hc) hw2
    rw [Nat.shiftLeft_eq, ← Nat.pow_add] at h3
    obtain ⟨d, hd2⟩ : ∃ d : Nat, (d : Int) = 4 - i := ⟨(4 - i).toNat, by omega⟩
    have h4 : P + 1 + (P + 1) = d + more := by omega
    rw [h4, Nat.pow_add] at h3
    have h5 : 2 ^ d ≤ m := Nat.le_of_mul_le_mul_right h3 (Nat.two_pow_pos more)
    have h6 : sc (2 ^ d) i ≤ sc m i := sc_le.2 h5
    have h7 : sc 1 4 = sc (2 ^ d) i := by
      have := sc_add 1 i d (by omega)
      rw [show i + (d : Int) = 4 by omega, Nat.one_mul] at this
      exact this
    have h8 : sc 1 4 = sc 16 0 := by have := sc_add 1 0 4 (by omega); simpa using this
    have h9 : sc 2 0 < sc 16 0 := sc_lt.2 (by omega)
    omega
  have hplace : -4900 ≤ hh - 1 := by omega
  have hle : sc (2 * wh + (wh * wh != m <<< more).toNat) (hh - 1) ≤ sc 4 0 := by
    have h3 : sc 4 0 = sc (4 * 2 ^ P) (hh - 1) := by
      have := sc_add 4 (hh - 1) P (by omega)
      rw [show hh - 1 + (P : Int) = 0 by omega] at this
      exact this
    rw [h3, sc_le]
    have h4 : (wh * wh != m <<< more).toNat ≤ 1 := by cases (wh * wh != m <<< more) <;> decide
    rw [Nat.pow_succ] at hlt
    omega
  have R := write_rn (k := .f64) (s := false) hplace (rp 4 (by omega)) hle
  rw [e1]
  refine ⟨eok, R.fin, enc_pos R.fin, R.le (rp 4 (by omega)) ?_⟩
  unfold sv
  simp only [Bool.false_eq_true, if_false]
  omega
theorem one_add {x : Nat} (hx : fin .f64 x) {n : Nat} (hn : n < 1000) (h0 : 0 ≤ val .f64 x) (h1 : val .f64 x ≤ (sc n 0 : Int)) : fin .f64 (fadd .f64 4607182418800017408 x) ∧ (sc 1 0 : Int) ≤ val .f64 (fadd .f64 4607182418800017408 x) ∧ val .f64 (fadd .f64 4607182418800017408 x) ≤ (sc (n + 1) 0 : Int) := by
  have o := one_ok
  have e := scn n
  have e2 := scn (n + 1)
  rw [Nat.add_mul, Nat.one_mul] at e2
  have R := add_rn o.1 hx (rp (n + 1) (by omega)) (by rw [o.2]; omega)
  rw [o.2] at R
  exact ⟨R.fin, R.ge (rp 1 (by omega)) (by omega), R.le (rp (n + 1) (by omega)) (by omega)⟩
/-- A number from nought to one. -/
structure In01 (t : Nat) : Prop where
  f : fin .f64 t
  lo : 0 ≤ val .f64 t
  hi : val .f64 t ≤ (sc 1 0 : Int)
theorem In01.r {t : Nat} (h : In01 t) : fin .f64 (an.r.sv t) ∧ (sc 1 0 : Int) ≤ val .f64 (an.r.sv t) ∧ val .f64 (an.r.sv t) ≤ (sc 2 0 : Int) := by
  obtain ⟨a, b, c⟩ := sq_ok h.f (by have := h.lo; have := h.hi; omega)
  exact one_add a (by omega) b c
theorem In01.step {t : Nat} (h : In01 t) : sqr.ok.sp (an.r.sv t) = true ∧ In01 (fdiv .f64 t (fadd .f64 4607182418800017408 (sqr.sv (an.r.sv t)))) := by
  obtain ⟨a, b, c⟩ := h.r
  obtain ⟨d, e, f, g⟩ := sqrt_bd a b c
  obtain ⟨i, j, k⟩ := one_add e (n := 4) (by omega) f g
  have hup := u_pos
  have hd := div_ok h.f i h.lo (by omega) (M := 1) (by omega) (by
    have h1 := h.lo
    have h2 := h.hi
    rw [one_big] at h2 j ⊢
    rw [Nat.mul_comm big]
    exact Nat.mul_le_mul_right big (by omega))
  exact ⟨d, hd.1, hd.2.1, hd.2.2⟩
theorem In01.all : ∀ (k : Nat) {t : Nat}, In01 t → an.hok.sp k t = true ∧ In01 (an.h.sv k t)
  | 0, t, h => ⟨rfl, h⟩
  | k + 1, t, h => by
    obtain ⟨a, b⟩ := h.step
    obtain ⟨c, d⟩ := In01.all k b
    refine ⟨?_, d⟩
    rw [an.hok.sp, a, Bool.true_and]
    exact c
/-- A number of a size at most n. -/
structure Ba (w n : Nat) : Prop where
  f : fin .f64 w
  b : (val .f64 w).natAbs ≤ sc n 0
theorem Ba.sub {a b m n : Nat} (h1 : Ba a m) (h2 : Ba b n) (hn : m + n < 1000000) : Ba (fsub .f64 a b) (m + n) := by
  have e1 := h1.b
  have e2 := h2.b
  have e : sc (m + n) 0 = sc m 0 + sc n 0 := by rw [scn, scn m, scn n, Nat.add_mul]
  have R := sub_rn h1.f h2.f (rp (m + n) (by omega)) (by rw [e]; omega)
  have a1 := R.le (rp (m + n) (by omega)) (by rw [e]; omega)
  have a2 := R.nge (rp (m + n) (by omega)) (by rw [e]; omega)
  exact ⟨R.fin, by omega⟩
theorem Ba.mul {a b m n : Nat} (h1 : Ba a m) (h2 : Ba b n) (hn : m * n < 1000000) : Ba (fmul .f64 a b) (m * n) := by
  obtain ⟨f1, f2⟩ := mul_rn h1.f h2.f (A := m) (B := n) (a := 0) (b := 0) (by omega) (by omega) h1.b h2.b (rp (m * n) (by omega)) (by simp)
  exact ⟨f1, f2⟩
theorem Ba.div {a b m : Nat} (h1 : Ba a m) (hb : fin .f64 b) (h2 : (sc 1 0 : Int) ≤ val .f64 b) (hn : m < 1000000) : Ba (fdiv .f64 a b) m := by
  have hup := u_pos
  obtain ⟨f1, f2⟩ := div_rn h1.f hb (by omega) (rp m (by omega)) (by
    rw [one_big] at h2
    refine Nat.mul_le_mul h1.b ?_
    omega)
  exact ⟨f1, f2⟩
theorem Ba.neg {a m : Nat} (h : Ba a m) : Ba (Op.negFloat .f64 a) m := by
  obtain ⟨f1, f2⟩ := neg_ok h.f
  exact ⟨f1, by rw [f2, Int.natAbs_neg]; exact h.b⟩
theorem Ba.mono {a m n : Nat} (h : Ba a m) (hn : m ≤ n) : Ba a n := ⟨h.f, Nat.le_trans h.b (sc_le.2 hn)⟩
theorem In01.ba {t : Nat} (h : In01 t) : Ba t 1 := ⟨h.f, by have := h.lo; have := h.hi; omega⟩
theorem one_ba : Ba 4607182418800017408 1 := ⟨one_ok.1, by rw [one_ok.2]; exact Nat.le_refl _⟩
theorem kq_ok {k : Nat} (h1 : 1 ≤ k) (h2 : k ≤ 8) : fin .f64 (an.kq k) ∧ (sc 1 0 : Int) ≤ val .f64 (an.kq k) := by
  have e1 : 2 * FloatKind.f64.format.binade = 9007199254740992 := by decide
  obtain ⟨a, b⟩ := ofInt_ok (k := .f64) (n := 2 * (k : Int) - 1) (by rw [e1]; omega)
  refine ⟨a, ?_⟩
  have hup := u_pos
  show _ ≤ val .f64 (FloatKind.f64.nearest (2 * (k : Int) - 1))
  rw [b]
  have : 1 * (sc 1 0 : Int) ≤ (2 * (k : Int) - 1) * (sc 1 0 : Int) := Int.mul_le_mul_of_nonneg_right (by omega) (by omega)
  omega
theorem s_ok {u : Nat} (hu : Ba u 1) : ∀ (k n p : Nat), k ≤ 8 → n + k ≤ 100 → Ba p n → Ba (an.s.sv u k p) (n + k)
  | 0, n, p, _, _, h => h
  | k + 1, n, p, hk, hn, h => by
    obtain ⟨a, b⟩ := kq_ok (k := k + 1) (by omega) hk
    have h1 := one_ba.div a b (by omega)
    have h2 := hu.mul h (by omega)
    rw [Nat.one_mul] at h2
    have h3 := h1.sub h2 (by omega)
    have := s_ok hu k (1 + n) _ (by omega) (by omega) h3
    rw [show n + (k + 1) = 1 + n + k by omega]
    exact this
theorem turn_ge : fin .f64 4618760256179416344 ∧ (sc 1 0 : Int) ≤ val .f64 4618760256179416344 := by
  obtain ⟨a, b⟩ := const (x := 4618760256179416344) (m := 7074237752028440) (e := -50) (by decide +kernel)
  refine ⟨a, ?_⟩
  rw [b]
  have e : sc 1 0 = sc (2 ^ 50) (-50) := by
    have := sc_add 1 (-50) 50 (by omega)
    rw [show (-50 : Int) + ((50 : Nat) : Int) = 0 from rfl, Nat.one_mul] at this
    exact this
  have h : sc (2 ^ 50) (-50) ≤ sc 7074237752028440 (-50) := sc_le.2 (by decide)
  rw [e]
  exact Int.ofNat_le.2 h
theorem eight_ba : Ba 4620693217682128896 8 := by
  obtain ⟨a, b⟩ := const (x := 4620693217682128896) (m := 2 ^ 52) (e := -49) (by decide +kernel)
  refine ⟨a, ?_⟩
  rw [b, Int.natAbs_natCast]
  have e : sc 8 0 = sc (2 ^ 52) (-49) := by
    have := sc_add 8 (-49) 49 (by omega)
    rw [show (-49 : Int) + ((49 : Nat) : Int) = 0 from rfl] at this
    rw [this]
  rw [e]; exact Nat.le_refl _
theorem quarter_ba : Ba 4598175219545276416 1 := ⟨quarter_ok.1, by rw [quarter_ok.2, Int.natAbs_natCast]; exact sc_mono (by omega) (by omega)⟩
theorem half_ba : Ba 4602678819172646912 1 := ⟨half_ok.1, by rw [half_ok.2, Int.natAbs_natCast]; exact sc_mono (by omega) (by omega)⟩
theorem ser_ok {t : Nat} (h : In01 t) : Ba (an.ser.sv t) 64 := by
  have h0 : Ba 0 0 := ⟨(zero_ok .f64).1, by rw [(zero_ok .f64).2, sc_zero]; exact Nat.le_refl _⟩
  have h1 := s_ok (h.ba.mul h.ba (by omega)) 8 0 0 (by omega) (by omega) h0
  have h2 := eight_ba.mul (h.ba.mul h1 (by omega)) (by omega)
  exact h2.div turn_ge.1 turn_ge.2 (by omega)
theorem w3_ok {a b x y t : Nat} (h : In01 t) : Ba (an.w3v a b x y t) 66 := by
  have hs := ser_ok h
  have h1 : Ba (an.w1v a b t) 65 := by
    unfold an.w1v
    cases an.gt.sp a b
    · exact hs.mono (by omega)
    · exact quarter_ba.sub hs (by omega)
  have h2 : Ba (an.w2v a b x t) 66 := by
    unfold an.w2v
    cases an.lt.sp x
    · exact h1.mono (by omega)
    · exact half_ba.sub h1 (by omega)
  unfold an.w3v
  cases an.lt.sp y
  · exact h2
  · exact h2.neg
theorem Ba.nar {a : Nat} (h : Ba a 66) : nar.ok.sp a = true :=
  (nar_rn h.f (rep32 (n := 66) (r := 0) (by omega) (by omega) (by omega)) h.b).1
theorem abs_fin {x : Nat} (hx : fin .f64 x) : fin .f64 (nw.abs.sv x) ∧ val .f64 (nw.abs.sv x) = (val .f64 x).natAbs := abs_ok hx
end fl

end Go.Proofs.YtjhofofieiiplaaGreatDoor.Ab
