/-
  Turns come nearer in rounds: how far they went, the plain law.
-/
import Derived.Test.YtgblgofmdhekiaaFnMJ
namespace Go.Proofs.Ytgblgofmdhekiaa.Ab
open Go
set_option linter.unusedVariables false
set_option linter.unusedSimpArgs false

namespace fl
/-- A float's place on the line, the infinities beyond all numbers. -/
def inf : Nat := sc 1 (200 : Nat)
def xv (x : Nat) : Int := match FloatKind.f32.decode x with
  | .number s m e => sv s m e
  | .infinity s => if s then -(inf : Int) else (inf : Int)
  | .nan _ _ => 0
def nn (x : Nat) : Prop := (FloatKind.f32.decode x).isNaN = false
theorem val_lt {s : Bool} {m : Nat} {e : Int} {x : Nat} (h : FloatKind.f32.decode x = .number s m e) : sc m e < inf := by
  have hm := mag_of h
  have pe := place_of h
  have e1 : 2 * FloatKind.f32.format.binade = 16777216 := by decide
  have e2 : FloatKind.f32.format.leastPlace = -149 := by decide
  have he : e ≤ 104 := by
    have hd := h
    unfold FloatKind.decode Ieee.Format.read at hd
    simp only [] at hd
    have hb0 : 0 < FloatKind.f32.format.binade := Nat.two_pow_pos _
    split at hd
    · simp only [Ieee.Datum.number.injEq] at hd; omega
    · split at hd
      · rename_i h1
        simp only [Ieee.Datum.number.injEq] at hd
        have h2 : x % FloatKind.f32.format.signWeight / FloatKind.f32.format.binade < 2 ^ FloatKind.f32.format.exponentBits - 1 := (Nat.div_lt_iff_lt_mul hb0).2 h1
        have e3 : FloatKind.f32.format.exponentBits = 8 := rfl
        rw [e3] at h2
        omega
      · split at hd <;> cases hd
  have hle : sc m e < sc 16777216 e := sc_lt.2 (by omega)
  have h24 := sc_add 1 e 24 (by omega)
  rw [Nat.one_mul] at h24
  have : sc 1 (e + 24) ≤ sc 1 (200 : Nat) := sc_mono (by omega) (by omega)
  unfold inf
  rw [show (2 : Nat) ^ 24 = 16777216 from by decide] at h24
  have h25 : e + ((24 : Nat) : Int) = e + 24 := rfl
  rw [h25] at h24
  omega
theorem inf_pos : 0 < inf := by
  unfold inf
  rw [sc_pw _ 5200 rfl]; exact pw_pos _
theorem fin_nn {x : Nat} (h : fin .f32 x) : nn x := by
  obtain ⟨s, m, e, hd⟩ := h
  unfold nn; rw [hd]; rfl
theorem xv_val {x : Nat} (h : fin .f32 x) : xv x = val .f32 x := by
  obtain ⟨s, m, e, hd⟩ := h
  unfold xv; rw [hd, val_eq hd]
/-- How two floats that are numbers or infinities stand to one another. -/
theorem order_xv {x y : Nat} (hx : nn x) (hy : nn y) : FloatKind.f32.format.order x y = some (compare (xv x) (xv y)) := by
  unfold nn at hx hy
  have hi := inf_pos
  cases hdx : FloatKind.f32.decode x with
  | nan s f => rw [hdx] at hx; cases hx
  | infinity s =>
    have rx : FloatKind.f32.format.read x = .infinity s := hdx
    cases hdy : FloatKind.f32.decode y with
    | nan t f => rw [hdy] at hy; cases hy
    | infinity t =>
      have ry : FloatKind.f32.format.read y = .infinity t := hdy
      unfold Ieee.Format.order xv
      rw [rx, ry, hdx, hdy]
      cases s <;> cases t <;> simp only [Ieee.Datum.order, compare, compareOfLessAndEq, Bool.false_eq_true, if_false, if_true]
      · simp
      · have : ¬ ((inf : Int) < -(inf : Int)) := by omega
        have h2 : ¬ ((inf : Int) = -(inf : Int)) := by omega
        simp [this, h2]
      · have : -(inf : Int) < (inf : Int) := by omega
        simp [this]
      · simp
    | number t n j =>
      have ry : FloatKind.f32.format.read y = .number t n j := hdy
      have hl := val_lt hdy
      have ha := sv_abs t n j
      unfold Ieee.Format.order xv
      rw [rx, ry, hdx, hdy]
      cases s <;> simp only [Ieee.Datum.order, compare, compareOfLessAndEq, Bool.false_eq_true, if_false, if_true]
      · rw [if_neg (by omega), if_neg (by omega)]
      · rw [if_pos (by omega)]
  | number s m i =>
    have rx : FloatKind.f32.format.read x = .number s m i := hdx
    have hl := val_lt hdx
    have ha := sv_abs s m i
    cases hdy : FloatKind.f32.decode y with
    | nan t f => rw [hdy] at hy; cases hy
    | infinity t =>
      have ry : FloatKind.f32.format.read y = .infinity t := hdy
      unfold Ieee.Format.order xv
      rw [rx, ry, hdx, hdy]
      cases t <;> simp only [Ieee.Datum.order, compare, compareOfLessAndEq, Bool.false_eq_true, if_false, if_true]
      · rw [if_pos (by omega)]
      · rw [if_neg (by omega), if_neg (by omega)]
    | number t n j =>
      rw [order_val ⟨_, _, _, hdx⟩ ⟨_, _, _, hdy⟩, xv_val ⟨_, _, _, hdx⟩, xv_val ⟨_, _, _, hdy⟩]
theorem nearest_not_nan (s : Bool) (m : Nat) (e : Int) : (FloatKind.f32.decode (FloatKind.f32.encode (.number s m e))).isNaN = false := write_number_not_nan .f32 s m e
/-- A difference of numbers is a number or an infinity. -/
theorem sub_nn {x y : Nat} (hx : fin .f32 x) (hy : fin .f32 y) : nn (fsub .f32 x y) := by
  obtain ⟨s, m, i, hx⟩ := hx
  obtain ⟨t, n, j, hy⟩ := hy
  have hx' : FloatKind.f32.format.read x = .number s m i := hx
  have hy' : FloatKind.f32.format.read y = .number t n j := hy
  have px := place_of hx
  have py := place_of hy
  have hl := least_ge .f32
  obtain ⟨σ, μ, β, h1, _, _⟩ := sum_sv (s := s) (t := !t) (m := m) (n := n) (i := i) (j := j) (by omega) (by omega)
  have e : fsub .f32 x y = FloatKind.f32.encode (.number σ μ β) := by
    unfold fsub Ieee.Format.sub
    have h1' : (Ieee.Datum.number s m i).sum (Ieee.Datum.number t n j).opposite = some (.number σ μ β) := h1
    rw [hx', hy', h1']; rfl
  unfold nn
  rw [e]
  exact nearest_not_nan _ _ _
theorem neg_read (x : Nat) : FloatKind.f32.decode (Op.negFloat .f32 x) = (FloatKind.f32.decode x).opposite := by
  have e0 : FloatKind.f32.format.exponentBits + FloatKind.f32.format.fractionBits = 31 := by decide
  have eS : FloatKind.f32.format.signWeight = 2 ^ 31 := by decide
  have h1 : Op.negFloat .f32 x % 2 ^ 31 = x % 2 ^ 31 := by
    unfold Op.negFloat
    rw [e0, Nat.xor_mod_two_pow, Nat.mod_self, Nat.xor_zero]
  have h2 : Op.negFloat .f32 x / 2 ^ 31 % 2 = 1 - x / 2 ^ 31 % 2 := by
    unfold Op.negFloat
    rw [e0, ← Nat.shiftRight_eq_div_pow, Nat.shiftRight_xor_distrib, Nat.shiftRight_eq_div_pow, Nat.shiftRight_eq_div_pow, Nat.div_self (Nat.two_pow_pos 31)]
    have : (x / 2 ^ 31 ^^^ 1) % 2 = (x / 2 ^ 31 % 2) ^^^ (1 % 2) := Nat.xor_mod_two_pow (n := 1)
    rw [this]
    rcases Nat.mod_two_eq_zero_or_one (x / 2 ^ 31) with h | h <;> rw [h] <;> rfl
  have hb : ((1 - x / 2 ^ 31 % 2) == 1) = !(x / 2 ^ 31 % 2 == 1) := by
    rcases Nat.mod_two_eq_zero_or_one (x / 2 ^ 31) with h | h <;> rw [h] <;> rfl
  unfold FloatKind.decode Ieee.Format.read
  simp only [eS]
  rw [h1, h2, hb]
  split
  · rfl
  · split
    · rfl
    · split <;> rfl
theorem neg_nn {x : Nat} (h : nn x) : nn (Op.negFloat .f32 x) ∧ xv (Op.negFloat .f32 x) = - xv x := by
  unfold nn xv at *
  rw [neg_read]
  cases hd : FloatKind.f32.decode x with
  | nan s f => rw [hd] at h; cases h
  | infinity s => cases s <;> simp [Ieee.Datum.opposite, Ieee.Datum.isNaN]
  | number s m e => cases s <;> simp [Ieee.Datum.opposite, Ieee.Datum.isNaN, sv]
theorem max_nn {x y : Nat} (hx : nn x) (hy : nn y) : ord.sp .f32 x y = true ∧ nn (fmax.sv .f32 x y) ∧ xv (fmax.sv .f32 x y) = max (xv x) (xv y) := by
  have ho := order_xv hx hy
  refine ⟨by unfold ord.sp; rw [ho]; rfl, ?_⟩
  unfold fmax.sv
  rw [ho]
  simp only [compare, compareOfLessAndEq]
  by_cases h1 : xv x < xv y
  · rw [if_pos h1]; exact ⟨hy, by simp only []; omega⟩
  · rw [if_neg h1]
    by_cases h2 : xv x = xv y
    · rw [if_pos h2]
      simp only []
      split
      · exact ⟨hy, by omega⟩
      · exact ⟨hx, by omega⟩
    · rw [if_neg h2]; exact ⟨hx, by simp only []; omega⟩
end fl

namespace ag
def le.sp (x y : Nat) : Bool := FloatKind.f32.format.order x y == some Ordering.lt || FloatKind.f32.format.order x y == some Ordering.eq
def gt.sp (x y : Nat) : Bool := FloatKind.f32.format.order x y == some Ordering.gt
def sz.sv (x : Nat) : Nat := bif le.sp x 0 then fsub .f32 0 x else x
/-- How far the farthest went: the reference's way, and the program's. -/
def far.sv : List Nat → List Nat → Nat → Nat
  | a :: as_, c :: cs, f => far.sv as_ cs (bif gt.sp (sz.sv (fsub .f32 a c)) f then sz.sv (fsub .f32 a c) else f)
  | _, _, f => f
def mx.sv (f d : Nat) : Nat := fmax.sv .f32 (fmax.sv .f32 f d) (Op.negFloat .f32 d)
def farI.sv : List Nat → List Nat → Nat → Nat
  | a :: as_, c :: cs, f => farI.sv as_ cs (mx.sv f (fsub .f32 a c))
  | _, _, f => f
theorem le_xv {x y : Nat} (hx : fl.nn x) (hy : fl.nn y) : le.sp x y = decide (fl.xv x ≤ fl.xv y) := by
  unfold le.sp
  rw [fl.order_xv hx hy, fl.cmp_lt, fl.cmp_eq]
  by_cases h1 : fl.xv x < fl.xv y
  · simp [h1]; omega
  · by_cases h2 : fl.xv x = fl.xv y
    · simp [h2]
    · simp [h1, h2]; omega
theorem gt_xv {x y : Nat} (hx : fl.nn x) (hy : fl.nn y) : gt.sp x y = decide (fl.xv y < fl.xv x) := by
  unfold gt.sp
  rw [fl.order_xv hx hy, fl.cmp_gt]
theorem zero_nn : fl.nn 0 ∧ fl.xv 0 = 0 := by
  have z := fl.zero_ok .f32
  exact ⟨fl.fin_nn z.1, by rw [fl.xv_val z.1, z.2]⟩
theorem sz_xv {x : Nat} (h : fl.nn x) : fl.nn (sz.sv x) ∧ fl.xv (sz.sv x) = (fl.xv x).natAbs := by
  unfold sz.sv
  rw [le_xv h zero_nn.1, zero_nn.2]
  by_cases c : fl.xv x ≤ 0
  · rw [decide_eq_true c, cond_true]
    cases hd : FloatKind.f32.decode x with
    | nan s f => unfold fl.nn at h; rw [hd] at h; cases h
    | infinity s =>
      have hr : FloatKind.f32.format.read x = .infinity s := hd
      have hz : FloatKind.f32.format.read 0 = .number false 0 (-149) := by decide +kernel
      have hi := fl.inf_pos
      have hs : s = true := by
        cases s
        · unfold fl.xv at c; rw [hd] at c; simp at c; omega
        · rfl
      subst hs
      have e : fsub .f32 0 x = FloatKind.f32.encode (.infinity false) := by
        unfold fsub Ieee.Format.sub
        rw [hr, hz]; rfl
      have hd2 : FloatKind.f32.decode (FloatKind.f32.encode (.infinity false)) = .infinity false := by decide +kernel
      rw [e]
      constructor
      · unfold fl.nn; rw [hd2]; rfl
      · unfold fl.xv
        rw [hd2, hd]
        simp only [Bool.false_eq_true, if_false, if_true]
        omega
    | number s m e =>
      have hf : fl.fin .f32 x := ⟨s, m, e, hd⟩
      have hm := fl.mag_of hd
      have pe := fl.place_of hd
      have e1 : 2 * FloatKind.f32.format.binade = 16777216 := by decide
      have e2 : FloatKind.f32.format.leastPlace = -149 := by decide
      have he : e ≤ 104 := by
        have hd' := hd
        unfold FloatKind.decode Ieee.Format.read at hd'
        simp only [] at hd'
        have hb0 : 0 < FloatKind.f32.format.binade := Nat.two_pow_pos _
        split at hd'
        · simp only [Ieee.Datum.number.injEq] at hd'; omega
        · split at hd'
          · rename_i h1
            simp only [Ieee.Datum.number.injEq] at hd'
            have h2 : x % FloatKind.f32.format.signWeight / FloatKind.f32.format.binade < 2 ^ FloatKind.f32.format.exponentBits - 1 := (Nat.div_lt_iff_lt_mul hb0).2 h1
            have e3 : FloatKind.f32.format.exponentBits = 8 := rfl
            rw [e3] at h2
            omega
          · split at hd' <;> cases hd'
      have r : fl.Rep .f32 m e := fl.rep32 (by omega) (by omega) he
      have z := fl.zero_ok .f32
      have hv := fl.val_bound hd
      have R := fl.sub_rn z.1 hf r (by rw [z.2]; omega)
      rw [z.2] at R
      have hx := R.exact r (by omega)
      rw [fl.xv_val R.fin, hx, fl.xv_val hf]
      rw [fl.xv_val hf] at c
      exact ⟨fl.fin_nn R.fin, by omega⟩
  · rw [decide_eq_false c, cond_false]
    exact ⟨h, by omega⟩
theorem mx_xv {f d : Nat} (hf : fl.nn f) (hd : fl.nn d) : (ord.sp .f32 f d && ord.sp .f32 (fmax.sv .f32 f d) (Op.negFloat .f32 d)) = true ∧ fl.nn (mx.sv f d) ∧ fl.xv (mx.sv f d) = max (fl.xv f) (fl.xv d).natAbs := by
  obtain ⟨a1, a2, a3⟩ := fl.max_nn hf hd
  obtain ⟨n1, n2⟩ := fl.neg_nn hd
  obtain ⟨b1, b2, b3⟩ := fl.max_nn a2 n1
  refine ⟨by rw [a1, b1]; rfl, b2, ?_⟩
  unfold mx.sv
  rw [b3, a3, n2]
  omega
theorem step_xv {f d : Nat} (hf : fl.nn f) (hd : fl.nn d) : fl.nn (bif gt.sp (sz.sv d) f then sz.sv d else f) ∧ fl.xv (bif gt.sp (sz.sv d) f then sz.sv d else f) = max (fl.xv f) (fl.xv d).natAbs := by
  obtain ⟨s1, s2⟩ := sz_xv hd
  rw [gt_xv s1 hf]
  by_cases c : fl.xv f < fl.xv (sz.sv d)
  · rw [decide_eq_true c, cond_true]; exact ⟨s1, by omega⟩
  · rw [decide_eq_false c, cond_false]; exact ⟨hf, by omega⟩
/-- Both ways come to the same place. -/
theorem far_eq : ∀ (as_ cs : List Nat) (f g : Nat), (∀ x ∈ as_, fl.fin .f32 x) → (∀ x ∈ cs, fl.fin .f32 x) → fl.nn f → fl.nn g → fl.xv f = fl.xv g →
    fl.nn (far.sv as_ cs f) ∧ fl.nn (farI.sv as_ cs g) ∧ fl.xv (far.sv as_ cs f) = fl.xv (farI.sv as_ cs g) := by
  intro as_
  induction as_ with
  | nil => intro cs f g _ _ hf hg he; exact ⟨hf, hg, he⟩
  | cons a as_ ih =>
    intro cs f g ha hc hf hg he
    cases cs with
    | nil => exact ⟨hf, hg, he⟩
    | cons c cs =>
      have hd := fl.sub_nn (ha a List.mem_cons_self) (hc c List.mem_cons_self)
      obtain ⟨s1, s2⟩ := step_xv hf hd
      obtain ⟨_, m1, m2⟩ := mx_xv hg hd
      simp only [far.sv, farI.sv]
      exact ih cs _ _ (fun x hx => ha x (List.mem_cons_of_mem _ hx)) (fun x hx => hc x (List.mem_cons_of_mem _ hx)) s1 m1 (by rw [s2, m2, he])
/-- The rounds. -/
def rs.sv (b near : Nat) : Nat → List Nat → Int → Option (List Nat × Int)
  | 0, _, _ => none
  | k + 1, now, n => bif (o.sv now b).any areFinite_1.sp then none else bif le.sp (far.sv (o.sv now b) now 0) near then some (o.sv now b, n) else rs.sv b near k (o.sv now b) (n + 1)
theorem near_eq {now : List Nat} {b near : Nat} (h1 : now.any areFinite_1.sp = false) (h2 : (o.sv now b).any areFinite_1.sp = false) (hn : fl.nn near) : le.sp (farI.sv (o.sv now b) now 0) near = le.sp (far.sv (o.sv now b) now 0) near := by
  obtain ⟨a, c, e⟩ := far_eq (o.sv now b) now 0 0 (fun x hx => fin_of h2 hx) (fun x hx => fin_of h1 hx) zero_nn.1 zero_nn.1 rfl
  rw [le_xv c hn, le_xv a hn, e]
/-- What comes is valid again. -/
theorem t_next {now : List Nat} {b : Nat} (h : t.sp now = true) (h2 : (o.sv now b).any areFinite_1.sp = false) : t.sp (o.sv now b) = true := by
  simp only [t.sp, Bool.and_eq_true, decide_eq_true_eq, Bool.not_eq_true'] at h ⊢
  rw [o_length]
  exact ⟨h.1, h2⟩
end ag

end Go.Proofs.Ytgblgofmdhekiaa.Ab
