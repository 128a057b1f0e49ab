/-
  Functions: mixed points, the plain law.
-/
import Derived.Test.YtadpndpbooofiaaFnO
namespace Go.Proofs.Ytadpndpbooofiaa.Ab
open Go
set_option linter.unusedVariables false
set_option linter.unusedSimpArgs false
set_option maxRecDepth 100000

namespace mx
def neg.sp (x : Nat) : Bool := FloatKind.f32.format.order x 0 == some Ordering.lt
def pos.sp (x : Nat) : Bool := FloatKind.f32.format.order x 0 == some Ordering.gt
def sub1.sp (x : Nat) : Bool := FloatKind.f32.format.order x 1065353216 == some Ordering.lt
def gt.sp (x y : Nat) : Bool := FloatKind.f32.format.order x y == some Ordering.gt
def a.sv (p q u v : Nat) : Nat := fmul .f32 (fsub .f32 u p) (fsub .f32 v q)
def b.sv (p q u v : Nat) : Nat := fadd .f32 (fmul .f32 (fsub .f32 u p) q) (fmul .f32 (fsub .f32 v q) p)
def c.sv (a b : Nat) : Nat := fdiv .f32 (Op.negFloat .f32 b) (fmul .f32 1073741824 a)
def t.sv (p q u v : Nat) : Nat := bif mx.neg.sp (mx.a.sv p q u v) && (mx.pos.sp (mx.c.sv (mx.a.sv p q u v) (mx.b.sv p q u v)) && mx.sub1.sp (mx.c.sv (mx.a.sv p q u v) (mx.b.sv p q u v))) then mx.c.sv (mx.a.sv p q u v) (mx.b.sv p q u v)
  else bif mx.gt.sp (fmul .f32 u v) (fmul .f32 p q) then 1065353216 else 0
def r.sv (t p u : Nat) : Nat := fadd .f32 p (fmul .f32 t (fsub .f32 u p))
def x.sv (xs : List Int) (x : Int) (i : Nat) : Nat := FloatKind.f32.nearest (gz xs (2 * i) - x)
def y.sv (xs : List Int) (y : Int) (i : Nat) : Nat := FloatKind.f32.nearest (gz xs (2 * i + 1) - y)
structure S where
  f : Bool
  m : Nat
  o : Nat
  w : Nat
/-- A pair is looked at. -/
def upd (p q u v : Nat) (s : S) : S :=
  bif !s.f || mx.gt.sp (fmul .f32 (mx.r.sv (mx.t.sv p q u v) p u) (mx.r.sv (mx.t.sv p q u v) q v)) s.m then ⟨true, fmul .f32 (mx.r.sv (mx.t.sv p q u v) p u) (mx.r.sv (mx.t.sv p q u v) q v), mx.r.sv (mx.t.sv p q u v) p u, mx.r.sv (mx.t.sv p q u v) q v⟩ else s
def step (xs : List Int) (x y : Int) (i k : Nat) (s : S) : S :=
  bif mx.neg.sp (mx.x.sv xs x i) || (mx.neg.sp (mx.y.sv xs y i) || (mx.neg.sp (mx.x.sv xs x k) || mx.neg.sp (mx.y.sv xs y k))) then s
  else upd (mx.x.sv xs x i) (mx.y.sv xs y i) (mx.x.sv xs x k) (mx.y.sv xs y k) s
def inn (xs : List Int) (x y : Int) (i : Nat) : Nat → Nat → S → S
  | 0, _, s => s
  | d + 1, k, s => inn xs x y i d (k + 1) (step xs x y i k s)
def out (xs : List Int) (x y : Int) (N : Nat) : Nat → Nat → S → S
  | 0, _, s => s
  | d + 1, i, s => out xs x y N d (i + 1) (inn xs x y i (N - i) i s)
def res (xs : List Int) (x y : Int) : S := out xs x y (xs.length / 2) (xs.length / 2) 0 ⟨false, 0, 0, 0⟩
def sq (xs : List Int) (x y : Int) : Bool := point.sp xs x y && (res xs x y).f
def o.sw (xs : List Int) (x y : Int) : Nat := bif mx.sq xs x y then fadd .f32 (FloatKind.f32.nearest x) (res xs x y).o else 0
def w.sw (xs : List Int) (x y : Int) : Nat := bif mx.sq xs x y then fadd .f32 (FloatKind.f32.nearest y) (res xs x y).w else 0
/-! The program's way -/
structure I where
  o : Nat
  w : Nat
  m : Nat
def updI (p q u v : Nat) (s : I) : I :=
  bif mx.neg.sp s.m || mx.gt.sp (fmul .f32 (mx.r.sv (mx.t.sv p q u v) p u) (mx.r.sv (mx.t.sv p q u v) q v)) s.m then ⟨mx.r.sv (mx.t.sv p q u v) p u, mx.r.sv (mx.t.sv p q u v) q v, fmul .f32 (mx.r.sv (mx.t.sv p q u v) p u) (mx.r.sv (mx.t.sv p q u v) q v)⟩ else s
def stepI (xs : List Int) (x y : Int) (i k : Int) (s : I) : I := updI (mx.x.sv xs x i.toNat) (mx.y.sv xs y i.toNat) (mx.x.sv xs x k.toNat) (mx.y.sv xs y k.toNat) s
def innI (xs : List Int) (x y : Int) (i : Int) : List Int → I → I
  | [], s => s
  | k :: r, s => innI xs x y i r (stepI xs x y i k s)
def outI (xs : List Int) (x y : Int) : List Int → I → I
  | [], s => s
  | i :: r, s => outI xs x y r (innI xs x y i (i :: r) s)
def start : I := ⟨0, 0, 3212836864⟩
/-- What is related. -/
def Fd (s : S) (s' : I) : Prop := s.f = true ∧ s'.o = s.o ∧ s'.w = s.w ∧ s'.m = s.m ∧ mx.neg.sp s.m = false
def Rel (s : S) (s' : I) : Prop := (s = ⟨false, 0, 0, 0⟩ ∧ s' = start) ∨ Fd s s'
/-! Signs -/
def SD (d : Ieee.Datum) : Prop := d.isNaN = true ∨ d.neg = false
def SP (x : Nat) : Prop := SD (FloatKind.f32.format.read x)
theorem sd_key {d : Ieee.Datum} (hd : SD d) (hn : d.isNaN = false) : d.neg = false := by
  rcases hd with hd | hd
  · rw [hd] at hn; cases hn
  · exact hd
theorem sd_sum {a b c : Ieee.Datum} (ha : SD a) (hb : SD b) (h : a.sum b = some c) : c.isNaN = false ∧ c.neg = false := by
  cases a with
  | nan s f => simp [Ieee.Datum.sum] at h
  | infinity s =>
    have hs : s = false := sd_key ha rfl
    subst hs
    cases b with
    | nan t f => simp [Ieee.Datum.sum] at h
    | infinity t =>
      simp only [Ieee.Datum.sum] at h
      split at h
      · simp only [Option.some.injEq] at h; subst h; exact ⟨rfl, rfl⟩
      · cases h
    | number t n j => simp only [Ieee.Datum.sum, Option.some.injEq] at h; subst h; exact ⟨rfl, rfl⟩
  | number s m i =>
    have hs : s = false := sd_key ha rfl
    subst hs
    cases b with
    | nan t f => simp [Ieee.Datum.sum] at h
    | infinity t =>
      have ht : t = false := sd_key hb rfl
      subst ht
      simp only [Ieee.Datum.sum, Option.some.injEq] at h; subst h; exact ⟨rfl, rfl⟩
    | number t n j =>
      have ht : t = false := sd_key hb rfl
      subst ht
      simp only [Ieee.Datum.sum, Option.some.injEq, Ieee.signed, Bool.false_eq_true, if_false, Bool.and_self] at h
      subst h
      refine ⟨rfl, ?_⟩
      simp only [Ieee.Datum.neg]
      split
      · rfl
      · simp only [decide_eq_false_iff_not, Int.not_lt]
        generalize m <<< (i - min i j).toNat = qa
        generalize n <<< (j - min i j).toNat = qb
        omega
theorem sd_product {a b c : Ieee.Datum} (ha : SD a) (hb : SD b) (h : a.product b = some c) : c.isNaN = false ∧ c.neg = false := by
  cases a with
  | nan s f => simp [Ieee.Datum.product] at h
  | infinity s =>
    have hs : s = false := sd_key ha rfl
    subst hs
    cases b with
    | nan t f => simp [Ieee.Datum.product] at h
    | infinity t =>
      have ht : t = false := sd_key hb rfl
      subst ht
      simp only [Ieee.Datum.product, Option.some.injEq] at h; subst h; exact ⟨rfl, rfl⟩
    | number t n j =>
      have ht : t = false := sd_key hb rfl
      subst ht
      simp only [Ieee.Datum.product] at h
      split at h
      · cases h
      · simp only [Option.some.injEq] at h; subst h; exact ⟨rfl, rfl⟩
  | number s m i =>
    have hs : s = false := sd_key ha rfl
    subst hs
    cases b with
    | nan t f => simp [Ieee.Datum.product] at h
    | infinity t =>
      have ht : t = false := sd_key hb rfl
      subst ht
      simp only [Ieee.Datum.product] at h
      split at h
      · cases h
      · simp only [Option.some.injEq] at h; subst h; exact ⟨rfl, rfl⟩
    | number t n j =>
      have ht : t = false := sd_key hb rfl
      subst ht
      simp only [Ieee.Datum.product, Option.some.injEq] at h; subst h; exact ⟨rfl, rfl⟩
theorem sp_small {x : Nat} (h : x < 2147483648) : SP x := by
  unfold SP SD Ieee.Format.read
  have e : FloatKind.f32.format.signWeight = 2147483648 := by decide
  have h0 : x / 2147483648 = 0 := by omega
  have h1 : (x / FloatKind.f32.format.signWeight % 2 == 1) = false := by rw [e, h0]; rfl
  simp only [h1]
  split
  · right; rfl
  · split
    · right; rfl
    · split
      · right; rfl
      · left; rfl
theorem nearest_small (mag : Nat) (place : Int) : FloatKind.f32.format.nearest false mag place < 2147483648 := by
  have e2 : FloatKind.f32.format.infRung = 2139095040 := by decide
  unfold Ieee.Format.nearest Ieee.Format.word
  split
  · simp
  · simp only [Bool.false_eq_true, if_false]
    refine Nat.lt_of_le_of_lt (Nat.min_le_right _ _) ?_
    rw [e2]; decide
theorem sp_write {d : Ieee.Datum} (h : d.isNaN = false ∧ d.neg = false) : SP (FloatKind.f32.format.write d) := by
  obtain ⟨h1, h2⟩ := h
  cases d with
  | nan s f => simp [Ieee.Datum.isNaN] at h1
  | infinity s =>
    simp only [Ieee.Datum.neg] at h2
    subst h2
    exact sp_small (by decide)
  | number s m e =>
    simp only [Ieee.Datum.neg] at h2
    subst h2
    exact sp_small (nearest_small m e)
theorem sp_add {a b : Nat} (ha : SP a) (hb : SP b) : SP (fadd .f32 a b) := by
  unfold fadd Ieee.Format.add
  cases h : (FloatKind.f32.format.read a).sum (FloatKind.f32.format.read b) with
  | none => exact sp_small (by decide)
  | some c => exact sp_write (sd_sum ha hb h)
theorem sp_mul {a b : Nat} (ha : SP a) (hb : SP b) : SP (fmul .f32 a b) := by
  unfold fmul Ieee.Format.mul
  cases h : (FloatKind.f32.format.read a).product (FloatKind.f32.format.read b) with
  | none => exact sp_small (by decide)
  | some c => exact sp_write (sd_product ha hb h)
theorem sp_self (a : Nat) : SP (fsub .f32 a a) := by
  unfold fsub Ieee.Format.sub
  cases h : (FloatKind.f32.format.read a).sum (FloatKind.f32.format.read a).opposite with
  | none => exact sp_small (by decide)
  | some c =>
    refine sp_write ?_
    generalize FloatKind.f32.format.read a = d at h
    cases d with
    | nan s f => simp [Ieee.Datum.sum, Ieee.Datum.opposite] at h
    | infinity s => cases s <;> simp [Ieee.Datum.sum, Ieee.Datum.opposite] at h
    | number s m i =>
      simp only [Ieee.Datum.opposite, Ieee.Datum.sum, Int.min_self, Int.sub_self, Int.toNat_zero, Ieee.signed, Nat.shiftLeft_zero, Option.some.injEq] at h
      subst h
      refine ⟨rfl, ?_⟩
      cases s <;> simp [Ieee.Datum.neg] <;> omega
/-- Below zero, by sign and size. -/
def lowD : Ieee.Datum → Bool
  | .nan _ _ => false
  | .infinity s => s
  | .number s m _ => s && !(m == 0)
theorem order_zero (d : Ieee.Datum) (e : Int) : (d.order (.number false 0 e) == some Ordering.lt) = lowD d := by
  cases d with
  | nan s f => rfl
  | infinity s => cases s <;> rfl
  | number s m i =>
    simp only [Ieee.Datum.order, Ieee.signed, lowD, Bool.false_eq_true, if_false, Nat.zero_shiftLeft]
    have hp : (m <<< (i - min i e).toNat = 0) = (m = 0) := by
      apply propext
      rw [Nat.shiftLeft_eq]
      constructor
      · intro h
        rcases Nat.mul_eq_zero.1 h with h | h
        · exact h
        · exact absurd h (Nat.ne_of_gt (Nat.two_pow_pos _))
      · intro h; subst h; simp
    generalize m <<< (i - min i e).toNat = q at hp
    rw [Bool.eq_iff_iff]
    simp only [beq_iff_eq, Option.some.injEq, Int.compare_eq_lt, Bool.and_eq_true, Bool.not_eq_true', beq_eq_false_iff_ne, ne_eq]
    rw [← hp]
    cases s
    · simp
    · simp; omega
theorem neg_low (x : Nat) : mx.neg.sp x = lowD (FloatKind.f32.format.read x) := by
  have h0 : FloatKind.f32.format.read 0 = .number false 0 FloatKind.f32.format.leastPlace := by decide
  unfold mx.neg.sp Ieee.Format.order
  rw [h0, order_zero]
theorem sp_neg {x : Nat} (h : SP x) : mx.neg.sp x = false := by
  rw [neg_low]
  unfold SP at h
  generalize FloatKind.f32.format.read x = d at h
  cases d with
  | nan s f => rfl
  | infinity s => exact sd_key h rfl
  | number s m e => have : s = false := sd_key h rfl
                    subst this; rfl
theorem gt_neg {x m : Nat} (h : mx.gt.sp x m = true) (hm : mx.neg.sp m = false) : mx.neg.sp x = false := by
  rw [neg_low] at hm ⊢
  unfold mx.gt.sp Ieee.Format.order at h
  generalize FloatKind.f32.format.read x = a at h ⊢
  generalize FloatKind.f32.format.read m = b at h hm
  simp only [beq_iff_eq] at h
  cases a with
  | nan s f => rfl
  | infinity s =>
    cases s with
    | false => rfl
    | true =>
      exfalso
      cases b with
      | nan t f => simp [Ieee.Datum.order] at h
      | infinity t => cases t <;> simp [Ieee.Datum.order] at h <;> exact absurd h (by decide)
      | number t n j => simp [Ieee.Datum.order] at h
  | number s q i =>
    cases b with
    | nan t f => simp [Ieee.Datum.order] at h
    | infinity t =>
      simp only [lowD] at hm
      subst hm
      simp [Ieee.Datum.order] at h
    | number t n j =>
      simp only [Ieee.Datum.order, Option.some.injEq] at h
      have h := Int.compare_eq_gt.1 h
      simp only [lowD, Bool.and_eq_false_iff, Bool.not_eq_false', beq_iff_eq] at hm ⊢
      unfold Ieee.signed at h
      have hz : n = 0 → n <<< (j - min i j).toNat = 0 := fun e => by subst e; simp
      generalize q <<< (i - min i j).toNat = qa at h
      generalize n <<< (j - min i j).toNat = qb at h hz
      cases s with
      | false => left; rfl
      | true =>
        exfalso
        simp only [if_true] at h
        cases t with
        | false => simp only [Bool.false_eq_true, if_false] at h; omega
        | true =>
          simp only [if_true] at h
          rcases hm with hm | hm
          · cases hm
          · have := hz hm; omega
theorem neg_check : (List.range 2001).all (fun j => mx.neg.sp (FloatKind.f32.nearest ((j : Int) - 1000)) == decide ((j : Int) - 1000 < 0)) = true := by kernel_rfl
theorem neg_int {n : Int} (h : -1000 ≤ n ∧ n ≤ 1000) : mx.neg.sp (FloatKind.f32.nearest n) = decide (n < 0) := by
  have := List.all_eq_true.1 neg_check (n + 1000).toNat (List.mem_range.2 (by omega))
  have e : (((n + 1000).toNat : Nat) : Int) - 1000 = n := by omega
  rw [e] at this
  simpa using this
theorem small_check : (List.range 1001).all (fun j => decide (FloatKind.f32.nearest (j : Int) < 2147483648)) = true := by kernel_rfl
theorem sp_int {n : Int} (h : 0 ≤ n ∧ n ≤ 1000) : SP (FloatKind.f32.nearest n) := by
  have := List.all_eq_true.1 small_check n.toNat (List.mem_range.2 (by omega))
  have e : ((n.toNat : Nat) : Int) = n := by omega
  rw [e] at this
  exact sp_small (by simpa using this)
/-! The first pair is one with itself. -/
theorem gt_self (x : Nat) : mx.gt.sp x x = false := by
  unfold mx.gt.sp Ieee.Format.order
  cases FloatKind.f32.format.read x with
  | nan s f => rfl
  | infinity s => cases s <;> rfl
  | number s m i =>
    simp only [Ieee.Datum.order]
    generalize Ieee.signed s m (i - min i i).toNat = z
    have : compare z z = Ordering.eq := Int.compare_eq_eq.2 rfl
    rw [this]; rfl
theorem a_self {p q : Nat} : mx.neg.sp (mx.a.sv p q p q) = false := sp_neg (sp_mul (sp_self p) (sp_self q))
theorem t_self (p q : Nat) : mx.t.sv p q p q = 0 := by
  unfold mx.t.sv
  rw [a_self, gt_self]; rfl
theorem r_self {p : Nat} (h : SP p) : SP (mx.r.sv 0 p p) := sp_add h (sp_mul (sp_small (by decide)) (sp_self p))
theorem neg_start : mx.neg.sp 3212836864 = true := by decide
theorem first {p q : Nat} (hp : SP p) (hq : SP q) : Fd (upd p q p q ⟨false, 0, 0, 0⟩) (updI p q p q start) := by
  unfold upd updI start
  rw [neg_start, t_self]
  simp only [Bool.not_false, Bool.true_or, cond_true]
  exact ⟨rfl, rfl, rfl, rfl, sp_neg (sp_mul (r_self hp) (r_self hq))⟩
theorem more {p q u v : Nat} {s : S} {s' : I} (h : Fd s s') : Fd (upd p q u v s) (updI p q u v s') := by
  obtain ⟨h1, h2, h3, h4, h5⟩ := h
  unfold upd updI
  rw [h1, h4, h5]
  simp only [Bool.not_true, Bool.false_or]
  cases hg : mx.gt.sp (fmul .f32 (mx.r.sv (mx.t.sv p q u v) p u) (mx.r.sv (mx.t.sv p q u v) q v)) s.m
  · exact ⟨h1, h2, h3, h4, h5⟩
  · exact ⟨rfl, rfl, rfl, rfl, gt_neg hg h5⟩
/-! The places -/
def ok.sp (xs : List Int) (x y : Int) (i : Nat) : Bool := decide (x ≤ gz xs (2 * i)) && decide (y ≤ gz xs (2 * i + 1))
def pl (xs : List Int) (x y : Int) (j : Nat) : List Int := point.pick x y (xs.drop (2 * j)) j
theorem pl_step {xs : List Int} {x y : Int} {j : Nat} (h : 2 * j + 1 < xs.length) : pl xs x y j = bif mx.ok.sp xs x y j then (j : Int) :: pl xs x y (j + 1) else pl xs x y (j + 1) := by
  unfold pl
  rw [List.drop_eq_getElem_cons (by omega : 2 * j < xs.length), List.drop_eq_getElem_cons h]
  simp only [point.pick, mx.ok.sp]
  rw [gz_eq (by omega : 2 * j < xs.length), gz_eq h]
  rfl
theorem pl_end {xs : List Int} {x y : Int} {j : Nat} (h : xs.length = 2 * j) : pl xs x y j = [] := by
  unfold pl
  rw [List.drop_of_length_le (by omega)]
  simp [point.pick]
section
variable {xs : List Int} {x y : Int} {N : Nat}
theorem bndx (v : ∀ z ∈ xs, 0 ≤ z ∧ z ≤ 1000) (i : Nat) : 0 ≤ gz xs i ∧ gz xs i ≤ 1000 := by
  by_cases h : i < xs.length
  · rw [gz_eq h]; exact v _ (List.getElem_mem h)
  · have : gz xs i = 0 := by unfold gz; rw [List.getD_eq_getElem?_getD, List.getElem?_eq_none (by omega)]; rfl
    omega
theorem negx (v : ∀ z ∈ xs, 0 ≤ z ∧ z ≤ 1000) (hx : 0 ≤ x ∧ x ≤ 1000) (i : Nat) : mx.neg.sp (mx.x.sv xs x i) = !decide (x ≤ gz xs (2 * i)) := by
  have := bndx v (2 * i)
  unfold mx.x.sv
  rw [neg_int (by omega), ← decide_not]
  exact decide_eq_decide.2 (by omega)
theorem negy (v : ∀ z ∈ xs, 0 ≤ z ∧ z ≤ 1000) (hy : 0 ≤ y ∧ y ≤ 1000) (i : Nat) : mx.neg.sp (mx.y.sv xs y i) = !decide (y ≤ gz xs (2 * i + 1)) := by
  have := bndx v (2 * i + 1)
  unfold mx.y.sv
  rw [neg_int (by omega), ← decide_not]
  exact decide_eq_decide.2 (by omega)
theorem step_eq (v : ∀ z ∈ xs, 0 ≤ z ∧ z ≤ 1000) (hx : 0 ≤ x ∧ x ≤ 1000) (hy : 0 ≤ y ∧ y ≤ 1000) (i k : Nat) (s : S) :
    step xs x y i k s = bif mx.ok.sp xs x y i && mx.ok.sp xs x y k then upd (mx.x.sv xs x i) (mx.y.sv xs y i) (mx.x.sv xs x k) (mx.y.sv xs y k) s else s := by
  unfold step mx.ok.sp
  rw [negx v hx, negy v hy, negx v hx, negy v hy]
  cases decide (x ≤ gz xs (2 * i)) <;> cases decide (y ≤ gz xs (2 * i + 1)) <;> cases decide (x ≤ gz xs (2 * k)) <;> cases decide (y ≤ gz xs (2 * k + 1)) <;> rfl
theorem spx (v : ∀ z ∈ xs, 0 ≤ z ∧ z ≤ 1000) (hx : 0 ≤ x ∧ x ≤ 1000) {i : Nat} (h : mx.ok.sp xs x y i = true) : SP (mx.x.sv xs x i) := by
  have := bndx v (2 * i)
  simp only [mx.ok.sp, Bool.and_eq_true, decide_eq_true_eq] at h
  exact sp_int (by omega)
theorem spy (v : ∀ z ∈ xs, 0 ≤ z ∧ z ≤ 1000) (hy : 0 ≤ y ∧ y ≤ 1000) {i : Nat} (h : mx.ok.sp xs x y i = true) : SP (mx.y.sv xs y i) := by
  have := bndx v (2 * i + 1)
  simp only [mx.ok.sp, Bool.and_eq_true, decide_eq_true_eq] at h
  exact sp_int (by omega)
theorem inn_skip (v : ∀ z ∈ xs, 0 ≤ z ∧ z ≤ 1000) (hx : 0 ≤ x ∧ x ≤ 1000) (hy : 0 ≤ y ∧ y ≤ 1000) {i : Nat} (h : mx.ok.sp xs x y i = false) : ∀ d k s, inn xs x y i d k s = s
  | 0, k, s => rfl
  | d + 1, k, s => by
    simp only [inn]
    rw [step_eq v hx hy, h, Bool.false_and, cond_false, inn_skip v hx hy h d]
theorem inn_rel (v : ∀ z ∈ xs, 0 ≤ z ∧ z ≤ 1000) (hx : 0 ≤ x ∧ x ≤ 1000) (hy : 0 ≤ y ∧ y ≤ 1000) (hl : xs.length = 2 * N) {i : Nat} (h : mx.ok.sp xs x y i = true) : ∀ d k s s', k + d = N → Fd s s' → Fd (inn xs x y i d k s) (innI xs x y i (pl xs x y k) s')
  | 0, k, s, s', hk, hf => by
    rw [pl_end (by omega)]; exact hf
  | d + 1, k, s, s', hk, hf => by
    simp only [inn]
    rw [step_eq v hx hy, h, Bool.true_and, pl_step (by omega)]
    cases hk2 : mx.ok.sp xs x y k
    · exact inn_rel v hx hy hl h d (k + 1) s s' (by omega) hf
    · simp only [cond_true, innI, stepI, Int.toNat_natCast]
      exact inn_rel v hx hy hl h d (k + 1) _ _ (by omega) (more hf)
theorem out_rel (v : ∀ z ∈ xs, 0 ≤ z ∧ z ≤ 1000) (hx : 0 ≤ x ∧ x ≤ 1000) (hy : 0 ≤ y ∧ y ≤ 1000) (hl : xs.length = 2 * N) : ∀ d i s s', i + d = N → Rel s s' →
    Rel (out xs x y N d i s) (outI xs x y (pl xs x y i) s') ∧ ((out xs x y N d i s).f = (s.f || decide (0 < (pl xs x y i).length)))
  | 0, i, s, s', hi, hr => by
    rw [pl_end (by omega)]
    exact ⟨hr, by simp [out]⟩
  | d + 1, i, s, s', hi, hr => by
    simp only [out]
    rw [pl_step (by omega)]
    cases hi2 : mx.ok.sp xs x y i
    · rw [inn_skip v hx hy hi2]
      exact out_rel v hx hy hl d (i + 1) s s' (by omega) hr
    · simp only [cond_true, outI]
      have hN : N - i = d + 1 := by omega
      have key : Fd (inn xs x y i (N - i) i s) (innI xs x y i ((i : Int) :: pl xs x y (i + 1)) s') := by
        rw [hN]
        simp only [inn, innI, stepI, Int.toNat_natCast]
        rw [step_eq v hx hy, hi2, Bool.and_self, cond_true]
        refine inn_rel v hx hy hl hi2 d (i + 1) _ _ (by omega) ?_
        rcases hr with ⟨rfl, rfl⟩ | hr
        · exact first (spx v hx hi2) (spy v hy hi2)
        · exact more hr
      obtain ⟨k1, k2⟩ := out_rel v hx hy hl d (i + 1) _ _ (by omega) (.inr key)
      refine ⟨k1, ?_⟩
      rw [k2, key.1]
      simp
end
/-- What the program finds. -/
theorem program {xs : List Int} {x y : Int} (h : point.sp xs x y = true) : (res xs x y).f = decide (0 < (point.sv xs x y).length) ∧
    ((res xs x y).f = true → (outI xs x y (point.sv xs x y) start).o = (res xs x y).o ∧ (outI xs x y (point.sv xs x y) start).w = (res xs x y).w) := by
  obtain ⟨⟨v1, v2, v3⟩, v4, v5, v6⟩ := point.valid h
  have hpl : pl xs x y 0 = point.sv xs x y := by unfold pl point.sv; rfl
  obtain ⟨k1, k2⟩ := out_rel (N := xs.length / 2) v4 v5 v6 (by omega) (xs.length / 2) 0 ⟨false, 0, 0, 0⟩ start (by omega) (.inl ⟨rfl, rfl⟩)
  rw [hpl] at k1 k2
  refine ⟨by rw [Bool.false_or] at k2; exact k2, fun hf => ?_⟩
  rcases k1 with ⟨k1, _⟩ | k1
  · have : (res xs x y).f = false := by unfold res; rw [k1]
    rw [hf] at this; cases this
  · exact ⟨k1.2.1, k1.2.2.1⟩
end mx
end Go.Proofs.Ytadpndpbooofiaa.Ab
