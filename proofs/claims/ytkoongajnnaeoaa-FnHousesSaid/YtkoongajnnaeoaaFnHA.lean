/-
  Houses, plainly: rounds of rings, and why no set could do better alone.
-/
import Derived.Test.YtkoongajnnaeoaaFnAU
import Derived.Test.YtkoongajnnaeoaaFnL
namespace Go.Proofs.Ytkoongajnnaeoaa.Ab
open Go
set_option linter.unusedVariables false
set_option linter.unusedSimpArgs false
set_option maxRecDepth 100000

namespace hse
theorem fidx_ok (x : Int) : ∀ (l : List Int) (i : Nat), (fidx.sq (fun y => x == y) l i = -1 ∧ x ∉ l) ∨ ∃ k : Nat, fidx.sq (fun y => x == y) l i = ((i + k : Nat) : Int) ∧ k < l.length ∧ gz l k = x := by
  intro l
  induction l with
  | nil => intro i; exact .inl ⟨rfl, by simp⟩
  | cons y r ih =>
    intro i
    simp only [fidx.sq]
    by_cases e : x = y
    · have : (x == y) = true := by simp [e]
      rw [this, cond_true]
      exact .inr ⟨0, rfl, by simp, by simp [gz, e]⟩
    · have : (x == y) = false := by simpa using e
      rw [this, cond_false]
      rcases ih (i + 1) with ⟨h1, h2⟩ | ⟨k, h1, h2, h3⟩
      · exact .inl ⟨h1, by simp [e, h2]⟩
      · refine .inr ⟨k + 1, by rw [h1]; congr 1; omega, by simp; omega, ?_⟩
        rw [← h3]; simp [gz]
/-- Numbers below N, each once, are N at the most. -/
theorem pigeon : ∀ (N : Nat) (l : List Int), l.Nodup → (∀ y ∈ l, 0 ≤ y ∧ y < (N : Int)) → l.length ≤ N := by
  intro N
  induction N with
  | zero =>
    intro l _ h
    cases l with
    | nil => simp
    | cons y t => have := h y List.mem_cons_self; omega
  | succ N ih =>
    intro l hd h
    by_cases hm : (N : Int) ∈ l
    · have h1 := ih (l.erase (N : Int)) (hd.erase _) (fun y hy => by
        have hy' := (List.Nodup.mem_erase_iff hd).1 hy
        have := h y hy'.2
        have hne := hy'.1
        omega)
      have h2 := List.length_erase_of_mem hm
      omega
    · have h1 := ih l hd (fun y hy => by
        have := h y hy
        have hne : y ≠ (N : Int) := fun e => hm (e ▸ hy)
        omega)
      omega

/-- The first of a list with a property. -/
theorem fidx_p {α : Type} (d : α) (p : α → Bool) : ∀ (l : List α) (i : Nat), (fidx.sq p l i = -1 ∧ ∀ y ∈ l, p y = false) ∨ ∃ k : Nat, fidx.sq p l i = ((i + k : Nat) : Int) ∧ k < l.length ∧ p (l.getD k d) = true ∧ ∀ j, j < k → p (l.getD j d) = false := by
  intro l
  induction l with
  | nil => intro i; exact .inl ⟨rfl, fun y hy => by cases hy⟩
  | cons x r ih =>
    intro i
    simp only [fidx.sq]
    cases hx : p x
    · rw [cond_false]
      rcases ih (i + 1) with ⟨h, h2⟩ | ⟨k, h, h2, h3, h4⟩
      · refine .inl ⟨h, fun y hy => ?_⟩
        rcases List.mem_cons.1 hy with e | e
        · rw [e]; exact hx
        · exact h2 y e
      · refine .inr ⟨k + 1, by rw [h]; congr 1; omega, by simpa using h2, by simpa using h3, fun j hj => ?_⟩
        cases j with
        | zero => simpa using hx
        | succ j => simpa using h4 j (by omega)
    · rw [cond_true]
      exact .inr ⟨0, by simp, by simp, by simpa using hx, fun j hj => by omega⟩
/-- Valid wishes. -/
def sp (W : List (List Int)) : Bool := (decide (1 ≤ W.length) && decide (W.length ≤ 8)) && W.all fun r => decide (r.length = W.length) && ((r.all fun x => decide (0 ≤ x) && decide (x < (W.length : Int))) && decide r.Nodup)
structure V (W : List (List Int)) (n : Nat) : Prop where
  len : W.length = n
  h1 : 1 ≤ n
  h8 : n ≤ 8
  rl : ∀ i, i < n → (gr W i).length = n
  rin : ∀ i, i < n → ∀ x ∈ gr W i, 0 ≤ x ∧ x < (n : Int)
  rnd : ∀ i, i < n → (gr W i).Nodup
theorem gr_mem {W : List (List Int)} {i : Nat} (h : i < W.length) : gr W i ∈ W := by
  unfold gr
  rw [List.getD_eq_getElem?_getD, List.getElem?_eq_getElem h]
  exact List.getElem_mem h
theorem valid {W : List (List Int)} (h : sp W = true) : V W W.length := by
  simp only [sp, Bool.and_eq_true, decide_eq_true_eq, List.all_eq_true] at h
  obtain ⟨⟨h1, h8⟩, h2⟩ := h
  exact ⟨rfl, h1, h8, fun i hi => (h2 _ (gr_mem hi)).1, fun i hi => (h2 _ (gr_mem hi)).2.1, fun i hi => (h2 _ (gr_mem hi)).2.2⟩
theorem V.get {W : List (List Int)} {n : Nat} (v : V W n) {i k : Nat} (hi : i < n) (hk : k < n) : 0 ≤ gz (gr W i) k ∧ gz (gr W i) k < (n : Int) := v.rin i hi _ (gz_mem (by rw [v.rl i hi]; exact hk))
theorem nd_get {l : List Int} (h : l.Nodup) {a b : Nat} (ha : a < l.length) (hb : b < l.length) (e : gz l a = gz l b) : a = b := by
  rw [gz_eq ha, gz_eq hb] at e
  exact (List.getElem_inj h).1 e
theorem all_in {n : Nat} {l : List Int} (hl : l.length = n) (hr : ∀ x ∈ l, 0 ≤ x ∧ x < (n : Int)) (hd : l.Nodup) {x : Int} (hx : 0 ≤ x ∧ x < (n : Int)) : x ∈ l := by
  by_cases c : x ∈ l
  · exact c
  · exfalso
    have := pigeon n (x :: l) (List.nodup_cons.2 ⟨c, hd⟩) (fun y hy => by
      rcases List.mem_cons.1 hy with e | e
      · rw [e]; exact hx
      · exact hr y e)
    rw [List.length_cons] at this
    omega
theorem V.has {W : List (List Int)} {n : Nat} (v : V W n) {i : Nat} (hi : i < n) {x : Int} (hx : 0 ≤ x ∧ x < (n : Int)) : ∃ k, k < n ∧ gz (gr W i) k = x := by
  have := all_in (v.rl i hi) (v.rin i hi) (v.rnd i hi) hx
  obtain ⟨k, hk, e⟩ := List.getElem_of_mem this
  exact ⟨k, by rw [v.rl i hi] at hk; exact hk, by rw [gz_eq hk]; exact e⟩
/-- The dearest house that is left; the houses of those who have one are gone. -/
def pt (W : List (List Int)) (out : List Int) (i : Int) : Int := gz (gr W i.toNat) (fidx.sq (fun h : Int => decide (gz out h.toNat < 0)) (gr W i.toNat) 0).toNat
def wk (W : List (List Int)) (out : List Int) (i : Int) : Nat → Int → Int
  | 0, at_ => at_
  | k + 1, at_ => bif at_ == i then at_ else wk W out i k (pt W out at_)
def in1 (W : List (List Int)) (out : List Int) (n i : Nat) : Bool := decide (gz out i < 0) && (wk W out (i : Int) n (pt W out (i : Int)) == (i : Int))
def gn (W : List (List Int)) (out : List Int) (n : Nat) : Nat → List Int
  | 0 => []
  | i + 1 => bif in1 W out n i then gn W out n i ++ [(i : Int)] else gn W out n i
def us (W : List (List Int)) (out g : List Int) : Nat → List Int
  | 0 => out
  | k + 1 => (us W out g k).set (gz g k).toNat (pt W out (gz g k))
def rd (W : List (List Int)) (n : Nat) (out : List Int) : List Int := us W out (gn W out n n) (gn W out n n).length
def cnt (out : List Int) : Nat → Nat
  | 0 => 0
  | k + 1 => cnt out k + (if gz out k < 0 then 1 else 0)
def fin (W : List (List Int)) (n : Nat) : Nat → List Int → List Int
  | 0, out => out
  | d + 1, out => bif decide (0 < cnt out n) then fin W n d (rd W n out) else out
/-- Who has which house in the end. -/
def sv (W : List (List Int)) : List Int := fin W W.length W.length (List.replicate W.length (-1))
structure Inv (W : List (List Int)) (n : Nat) (out : List Int) : Prop where
  len : out.length = n
  lo : ∀ i, i < n → -1 ≤ gz out i ∧ gz out i < (n : Int)
  clo : ∀ i, i < n → 0 ≤ gz out i → 0 ≤ gz out (gz out i).toNat
  inj : ∀ i j, i < n → j < n → 0 ≤ gz out i → gz out i = gz out j → i = j
  rk : ∃ (r : Nat → Nat) (K : Nat), ∀ i, i < n → 0 ≤ gz out i → r i < K ∧ r (gz out i).toNat = r i ∧ ∀ k m, k < m → m < n → gz (gr W i) m = gz out i → 0 ≤ gz out (gz (gr W i) k).toNat ∧ r (gz (gr W i) k).toNat < r i
-- going on along a function
def it (F : Nat → Nat) : Nat → Nat → Nat
  | 0, i => i
  | m + 1, i => F (it F m i)
theorem it_one (F : Nat → Nat) (i : Nat) : ∀ m, it F (m + 1) i = it F m (F i)
  | 0 => rfl
  | m + 1 => by rw [it, it_one F i m]; rfl
theorem it_add (F : Nat → Nat) (i : Nat) (a : Nat) : ∀ b, it F (a + b) i = it F b (it F a i)
  | 0 => rfl
  | b + 1 => by rw [← Nat.add_assoc, it, it_add F i a b]; rfl
theorem it_mul {F : Nat → Nat} {i a : Nat} (h : it F a i = i) : ∀ b, it F (a * b) i = i
  | 0 => rfl
  | b + 1 => by rw [Nat.mul_succ, it_add, it_mul h b, h]
def Cyc (F : Nat → Nat) (n i : Nat) : Prop := ∃ m, m ≤ n ∧ it F m (F i) = i
theorem cyc_next {F : Nat → Nat} {n i : Nat} (h : Cyc F n i) : Cyc F n (F i) := by
  obtain ⟨m, hm, e⟩ := h
  exact ⟨m, hm, by rw [← it_one, it, e]⟩
theorem cyc_inj {F : Nat → Nat} {n i j : Nat} (hi : Cyc F n i) (hj : Cyc F n j) (e : F i = F j) : i = j := by
  obtain ⟨a, _, ha⟩ := hi
  obtain ⟨b, _, hb⟩ := hj
  rw [← it_one] at ha hb
  have h1 := it_mul ha (b + 1)
  have h2 := it_mul hb (a + 1)
  obtain ⟨c, hc⟩ : ∃ c, (a + 1) * (b + 1) = c + 1 := ⟨(a + 1) * (b + 1) - 1, (Nat.sub_add_cancel (Nat.mul_pos (Nat.succ_pos a) (Nat.succ_pos b))).symm⟩
  rw [hc, it_one] at h1
  rw [Nat.mul_comm, hc, it_one, ← e] at h2
  omega
theorem it_in {F : Nat → Nat} {L : Nat → Prop} (hF : ∀ i, L i → L (F i)) {i : Nat} (hi : L i) : ∀ m, L (it F m i)
  | 0 => hi
  | m + 1 => hF _ (it_in hF hi m)
theorem cyc_ex {F : Nat → Nat} {L : Nat → Prop} {n : Nat} (hL : ∀ i, L i → i < n) (hF : ∀ i, L i → L (F i)) {i : Nat} (hi : L i) : ∃ j, L j ∧ Cyc F n j := by
  by_cases c : ∃ a b, a < b ∧ b ≤ n ∧ it F a i = it F b i
  · obtain ⟨a, b, hab, hb, e⟩ := c
    refine ⟨it F a i, it_in hF hi a, b - a - 1, by omega, ?_⟩
    rw [← it_one, ← it_add, show a + (b - a - 1 + 1) = b by omega, e]
  · exfalso
    have hnd : ((List.range (n + 1)).map fun m => ((it F m i : Nat) : Int)).Nodup := by
      refine List.pairwise_iff_getElem.2 fun a b ha hb hab => ?_
      simp only [List.length_map, List.length_range] at ha hb
      simp only [List.getElem_map, List.getElem_range]
      intro e
      exact c ⟨a, b, hab, by omega, by omega⟩
    have := pigeon n _ hnd (fun y hy => by
      simp only [List.mem_map, List.mem_range] at hy
      obtain ⟨m, _, rfl⟩ := hy
      have := hL _ (it_in hF hi m)
      omega)
    simp at this
    omega
-- those who are left
def L (out : List Int) (n i : Nat) : Prop := i < n ∧ gz out i < 0
def F (W : List (List Int)) (out : List Int) (i : Nat) : Nat := (pt W out (i : Int)).toNat
theorem pt_ok {W : List (List Int)} {n : Nat} (v : V W n) {out : List Int} {i : Nat} (hi : i < n) {j : Nat} (hj : L out n j) : pt W out (i : Int) = (F W out i : Int) ∧ L out n (F W out i) ∧ ∃ k, k < n ∧ gz (gr W i) k = pt W out (i : Int) ∧ ∀ m, m < k → 0 ≤ gz out (gz (gr W i) m).toNat := by
  obtain ⟨k0, hk0, e0⟩ := v.has hi (x := (j : Int)) ⟨by omega, by have := hj.1; omega⟩
  rcases fidx_p (0 : Int) (fun h : Int => decide (gz out h.toNat < 0)) (gr W i) 0 with ⟨h, h2⟩ | ⟨k, h, h2, h3, h4⟩
  · exfalso
    have := h2 _ (gz_mem (l := gr W i) (j := k0) (by rw [v.rl i hi]; exact hk0))
    rw [e0, Int.toNat_natCast] at this
    have hh := hj.2
    simp only [decide_eq_false_iff_not] at this
    exact this hh
  · have ep : pt W out (i : Int) = gz (gr W i) k := by
      unfold pt
      rw [Int.toNat_natCast, h, Int.toNat_natCast, Nat.zero_add]
    rw [v.rl i hi] at h2
    have b := v.get hi h2
    have e1 : (F W out i : Int) = gz (gr W i) k := by unfold F; rw [ep]; omega
    refine ⟨by rw [ep, e1], ⟨by omega, ?_⟩, k, h2, by rw [ep], fun m hm => ?_⟩
    · have : F W out i = (gz (gr W i) k).toNat := by omega
      rw [this]
      exact of_decide_eq_true h3
    · have := h4 m hm
      simp only [decide_eq_false_iff_not] at this
      show 0 ≤ gz out (gz (gr W i) m).toNat
      have e2 : (gr W i).getD m 0 = gz (gr W i) m := rfl
      rw [e2] at this
      omega
theorem wk_ok {W : List (List Int)} {n : Nat} (v : V W n) {out : List Int} {i : Nat} : ∀ (k a : Nat), L out n a → (wk W out (i : Int) k (a : Int) = (i : Int) ↔ ∃ m, m ≤ k ∧ it (F W out) m a = i)
  | 0, a, ha => by
    constructor
    · intro e; exact ⟨0, Nat.le_refl _, by have : (a : Int) = (i : Int) := e; show a = i; omega⟩
    · rintro ⟨m, hm, e⟩
      obtain rfl : m = 0 := by omega
      have : a = i := e
      show (a : Int) = (i : Int)
      omega
  | k + 1, a, ha => by
    simp only [wk]
    by_cases c : a = i
    · have : ((a : Int) == (i : Int)) = true := by simp [c]
      rw [this, cond_true]
      exact ⟨fun _ => ⟨0, by omega, c⟩, fun _ => by omega⟩
    · have : ((a : Int) == (i : Int)) = false := by simp only [beq_eq_false_iff_ne, ne_eq]; omega
      rw [this, cond_false]
      obtain ⟨e1, h2, _⟩ := pt_ok v ha.1 ha
      rw [e1, wk_ok v k _ h2]
      constructor
      · rintro ⟨m, hm, e⟩
        exact ⟨m + 1, by omega, by rw [it_one]; exact e⟩
      · rintro ⟨m, hm, e⟩
        cases m with
        | zero => exact absurd e c
        | succ m => exact ⟨m, by omega, by rw [← it_one]; exact e⟩
theorem in1_iff {W : List (List Int)} {n : Nat} (v : V W n) {out : List Int} {i : Nat} (hi : i < n) : in1 W out n i = true ↔ L out n i ∧ Cyc (F W out) n i := by
  unfold in1
  by_cases c : gz out i < 0
  · have hl : L out n i := ⟨hi, c⟩
    obtain ⟨e1, h2, _⟩ := pt_ok v hi hl
    rw [decide_eq_true c, Bool.true_and, beq_iff_eq, e1, wk_ok v n _ h2]
    exact ⟨fun h => ⟨hl, h⟩, fun h => h.2⟩
  · rw [decide_eq_false c, Bool.false_and]
    exact ⟨fun h => (by cases h), fun h => absurd h.1.2 c⟩
theorem gn_mem {W : List (List Int)} {out : List Int} {n : Nat} : ∀ (m : Nat) (x : Int), x ∈ gn W out n m ↔ ∃ i : Nat, i < m ∧ x = i ∧ in1 W out n i = true := by
  intro m
  induction m with
  | zero => intro x; simp [gn]
  | succ m ih =>
    intro x
    simp only [gn]
    cases hc : in1 W out n m
    · rw [cond_false, ih]
      constructor
      · rintro ⟨i, a, b, c⟩; exact ⟨i, by omega, b, c⟩
      · rintro ⟨i, a, b, c⟩
        refine ⟨i, ?_, b, c⟩
        by_cases e : i = m
        · rw [e, hc] at c; cases c
        · omega
    · rw [cond_true, List.mem_append, ih, List.mem_singleton]
      constructor
      · rintro (⟨i, a, b, c⟩ | e)
        · exact ⟨i, by omega, b, c⟩
        · exact ⟨m, by omega, e, hc⟩
      · rintro ⟨i, a, b, c⟩
        by_cases e : i = m
        · right; rw [b, e]
        · exact .inl ⟨i, by omega, b, c⟩
theorem gn_nodup {W : List (List Int)} {out : List Int} {n : Nat} : ∀ m, (gn W out n m).Nodup := by
  intro m
  induction m with
  | zero => simp [gn]
  | succ m ih =>
    simp only [gn]
    cases in1 W out n m
    · exact ih
    · rw [cond_true, List.nodup_append]
      refine ⟨ih, by simp, fun a ha b hb => ?_⟩
      rw [List.mem_singleton] at hb
      obtain ⟨i, h1, h2, _⟩ := (gn_mem m a).1 ha
      omega
theorem gn_length {W : List (List Int)} {out : List Int} {n : Nat} : ∀ m, (gn W out n m).length ≤ m := by
  intro m
  induction m with
  | zero => simp [gn]
  | succ m ih =>
    simp only [gn]
    cases in1 W out n m
    · simp only [cond_false]; omega
    · simp only [cond_true, List.length_append, List.length_singleton]; omega
theorem gn_get {W : List (List Int)} {out : List Int} {n m k : Nat} (hk : k < (gn W out n m).length) : ∃ i : Nat, i < m ∧ gz (gn W out n m) k = i ∧ in1 W out n i = true := (gn_mem m _).1 (gz_mem hk)
theorem us_length (W : List (List Int)) (out g : List Int) : ∀ k, (us W out g k).length = out.length
  | 0 => rfl
  | k + 1 => by rw [us, List.length_set, us_length W out g k]
theorem us_get {W : List (List Int)} {out g : List Int} (hg : ∀ x ∈ g, 0 ≤ x ∧ x.toNat < out.length) : ∀ k, k ≤ g.length → ∀ i : Nat, gz (us W out g k) i = if ∃ j, j < k ∧ gz g j = i then pt W out (i : Int) else gz out i := by
  intro k
  induction k with
  | zero => intro _ i; rw [if_neg (by rintro ⟨j, h, _⟩; omega)]; rfl
  | succ k ih =>
    intro hk i
    have h0 := hg _ (gz_mem (l := g) (j := k) (by omega))
    rw [us, gz_set (by rw [us_length]; exact h0.2), ih (by omega)]
    by_cases c : (gz g k).toNat = i
    · have e : gz g k = (i : Int) := by omega
      rw [if_pos c, if_pos ⟨k, by omega, e⟩, e]
    · rw [if_neg c]
      by_cases d : ∃ j, j < k ∧ gz g j = i
      · obtain ⟨j, h1, h2⟩ := d
        rw [if_pos ⟨j, h1, h2⟩, if_pos ⟨j, by omega, h2⟩]
      · rw [if_neg d, if_neg]
        rintro ⟨j, h1, h2⟩
        by_cases e : j = k
        · rw [e] at h2; omega
        · exact d ⟨j, by omega, h2⟩
theorem gn_in {W : List (List Int)} {out : List Int} {n : Nat} (hl : out.length = n) : ∀ x ∈ gn W out n n, 0 ≤ x ∧ x.toNat < out.length := by
  intro x hx
  obtain ⟨i, a, b, _⟩ := (gn_mem n x).1 hx
  omega
theorem rd_get {W : List (List Int)} {n : Nat} (v : V W n) {out : List Int} (hl : out.length = n) {i : Nat} (hi : i < n) : (L out n i ∧ Cyc (F W out) n i ∧ gz (rd W n out) i = pt W out (i : Int)) ∨ (¬ (L out n i ∧ Cyc (F W out) n i) ∧ gz (rd W n out) i = gz out i) := by
  have h := us_get (W := W) (gn_in (W := W) hl) _ (Nat.le_refl _) i
  by_cases c : L out n i ∧ Cyc (F W out) n i
  · left
    refine ⟨c.1, c.2, ?_⟩
    unfold rd
    rw [h, if_pos]
    have := (gn_mem (W := W) (out := out) (n := n) n (i : Int)).2 ⟨i, hi, rfl, (in1_iff v hi).2 c⟩
    obtain ⟨k, hk, e⟩ := List.getElem_of_mem this
    exact ⟨k, hk, by rw [gz_eq hk]; exact e⟩
  · right
    refine ⟨c, ?_⟩
    unfold rd
    rw [h, if_neg]
    rintro ⟨k, hk, e⟩
    obtain ⟨i', a, b, d⟩ := gn_get hk
    have : i' = i := by omega
    rw [this] at d
    exact c ((in1_iff v hi).1 d)
theorem rd_length (W : List (List Int)) (n : Nat) (out : List Int) : (rd W n out).length = out.length := us_length _ _ _ _
theorem cnt_pos {out : List Int} : ∀ n, 0 < cnt out n ↔ ∃ i, i < n ∧ gz out i < 0 := by
  intro n
  induction n with
  | zero => simp [cnt]
  | succ n ih =>
    simp only [cnt]
    by_cases c : gz out n < 0
    · rw [if_pos c]
      exact ⟨fun _ => ⟨n, by omega, c⟩, fun _ => by omega⟩
    · rw [if_neg c, Nat.add_zero, ih]
      constructor
      · rintro ⟨i, a, b⟩; exact ⟨i, by omega, b⟩
      · rintro ⟨i, a, b⟩
        refine ⟨i, ?_, b⟩
        by_cases e : i = n
        · rw [e] at b; exact absurd b c
        · omega
theorem cnt_le (out : List Int) : ∀ n, cnt out n ≤ n := by
  intro n
  induction n with
  | zero => simp [cnt]
  | succ n ih => simp only [cnt]; split <;> omega
theorem cnt_set {out : List Int} {b : Nat} {x : Int} (hb : b < out.length) (h : gz out b < 0) (hx : 0 ≤ x) : ∀ n, cnt (out.set b x) n + (if b < n then 1 else 0) = cnt out n := by
  intro n
  induction n with
  | zero => simp [cnt]
  | succ n ih =>
    simp only [cnt, gz_set hb]
    by_cases e : b = n
    · subst e
      rw [if_pos rfl, if_neg (show ¬ x < 0 by omega), if_pos (show b < b + 1 by omega), if_pos h]
      rw [if_neg (show ¬ b < b by omega)] at ih
      omega
    · rw [if_neg e]
      by_cases c : b < n
      · rw [if_pos c] at ih
        rw [if_pos (show b < n + 1 by omega)]
        omega
      · rw [if_neg c] at ih
        rw [if_neg (show ¬ b < n + 1 by omega)]
        omega
theorem us_cnt {W : List (List Int)} {n : Nat} (v : V W n) {out : List Int} (hl : out.length = n) : ∀ k, k ≤ (gn W out n n).length → cnt (us W out (gn W out n n) k) n + k = cnt out n := by
  intro k
  induction k with
  | zero => intro _; rfl
  | succ k ih =>
    intro hk
    obtain ⟨i, hi, e, h1⟩ := gn_get (W := W) (out := out) (n := n) (m := n) (k := k) (by omega)
    have hL := ((in1_iff v hi).1 h1).1
    obtain ⟨e1, _⟩ := pt_ok v hi hL
    have hu : gz (us W out (gn W out n n) k) i = gz out i := by
      rw [us_get (gn_in hl) k (by omega), if_neg]
      rintro ⟨j, hj, ej⟩
      have := nd_get (gn_nodup (W := W) (out := out) (n := n) n) (a := j) (b := k) (by omega) (by omega) (by rw [ej, e])
      omega
    have g := cnt_set (out := us W out (gn W out n n) k) (b := i) (x := pt W out (i : Int)) (by rw [us_length]; omega) (by rw [hu]; exact hL.2) (by rw [e1]; omega) n
    rw [if_pos hi] at g
    rw [us, e, Int.toNat_natCast]
    have := ih (by omega)
    omega
theorem rd_cnt {W : List (List Int)} {n : Nat} (v : V W n) {out : List Int} (hl : out.length = n) : cnt (rd W n out) n + (gn W out n n).length = cnt out n := us_cnt v hl _ (Nat.le_refl _)
theorem gn_some {W : List (List Int)} {n : Nat} (v : V W n) {out : List Int} (hl : out.length = n) (hc : 0 < cnt out n) : 0 < (gn W out n n).length := by
  obtain ⟨i, hi, h⟩ := (cnt_pos n).1 hc
  obtain ⟨j, hj, hcy⟩ := cyc_ex (F := F W out) (L := L out n) (n := n) (fun i h => h.1) (fun i h => (pt_ok v h.1 h).2.1) (i := i) ⟨hi, h⟩
  have := (gn_mem (W := W) (out := out) (n := n) n (j : Int)).2 ⟨j, hj.1, rfl, (in1_iff v hj.1).2 ⟨hj, hcy⟩⟩
  exact List.length_pos_of_mem this
theorem Inv.start {W : List (List Int)} {n : Nat} : Inv W n (List.replicate n (-1)) := by
  have g : ∀ i, i < n → gz (List.replicate n (-1)) i = -1 := fun i hi => by rw [gz_eq (by simpa using hi)]; simp
  refine ⟨by simp, fun i hi => by rw [g i hi]; omega, fun i hi h => ?_, fun i j hi hj h => ?_, ⟨fun _ => 0, 0, fun i hi h => ?_⟩⟩
  · rw [g i hi] at h; omega
  · rw [g i hi] at h; omega
  · rw [g i hi] at h; omega
theorem Inv.step {W : List (List Int)} {n : Nat} (v : V W n) {out : List Int} (I : Inv W n out) : Inv W n (rd W n out) := by
  obtain ⟨r, K, hr⟩ := I.rk
  have G := fun i hi => rd_get v I.len (i := i) hi
  have keep : ∀ i, i < n → 0 ≤ gz out i → gz (rd W n out) i = gz out i := fun i hi h => by
    rcases G i hi with ⟨a, _⟩ | ⟨_, e⟩
    · have := a.2; omega
    · exact e
  refine ⟨by rw [rd_length]; exact I.len, fun i hi => ?_, fun i hi h => ?_, fun i j hi hj h e => ?_, ⟨fun i => if gz out i < 0 then K else r i, K + 1, fun i hi h => ?_⟩⟩
  · rcases G i hi with ⟨a, _, e⟩ | ⟨_, e⟩
    · obtain ⟨e1, h2, _⟩ := pt_ok v hi a
      have := h2.1
      rw [e, e1]; omega
    · rw [e]; exact I.lo i hi
  · rcases G i hi with ⟨a, b, e⟩ | ⟨_, e⟩
    · obtain ⟨e1, h2, _⟩ := pt_ok v hi a
      rw [e, e1, Int.toNat_natCast]
      rcases G _ h2.1 with ⟨a', _, e'⟩ | ⟨c', _⟩
      · obtain ⟨e1', _⟩ := pt_ok v h2.1 a'
        rw [e', e1']; omega
      · exact absurd ⟨h2, cyc_next b⟩ c'
    · rw [e] at h ⊢
      have h3 := I.clo i hi h
      have h4 := I.lo i hi
      rw [keep _ (by omega) h3]
      exact h3
  · rcases G i hi with ⟨a, b, e1⟩ | ⟨c, e1⟩
    · obtain ⟨p1, q1, _⟩ := pt_ok v hi a
      rcases G j hj with ⟨a', b', e2⟩ | ⟨c', e2⟩
      · obtain ⟨p2, q2, _⟩ := pt_ok v hj a'
        exact cyc_inj b b' (by rw [e1, e2, p1, p2] at e; omega)
      · exfalso
        rw [e1, e2, p1] at e
        have h5 := I.clo j hj (by omega)
        rw [← e, Int.toNat_natCast] at h5
        have := q1.2
        omega
    · rcases G j hj with ⟨a', b', e2⟩ | ⟨c', e2⟩
      · exfalso
        obtain ⟨p2, q2, _⟩ := pt_ok v hj a'
        rw [e1] at h
        rw [e1, e2, p2] at e
        have h5 := I.clo i hi h
        rw [e, Int.toNat_natCast] at h5
        have := q2.2
        omega
      · rw [e1] at h
        rw [e1, e2] at e
        exact I.inj i j hi hj h e
  · rcases G i hi with ⟨a, b, e1⟩ | ⟨c, e1⟩
    · obtain ⟨p1, q1, k0, hk0, ek, hbef⟩ := pt_ok v hi a
      have hLi := a.2
      rw [e1, p1, Int.toNat_natCast]
      simp only [if_pos hLi, if_pos q1.2]
      refine ⟨by omega, by first | trivial | rfl, fun k m hkm hm em => ?_⟩
      have hmk : m = k0 := nd_get (v.rnd i hi) (by rw [v.rl i hi]; exact hm) (by rw [v.rl i hi]; exact hk0) (by rw [em, ek, p1])
      have h6 := hbef k (by omega)
      have h7 := v.get hi (k := k) (by omega)
      have h8 := keep _ (show (gz (gr W i) k).toNat < n by omega) h6
      rw [h8, if_neg (by omega)]
      exact ⟨h6, (hr _ (by omega) h6).1⟩
    · rw [e1] at h ⊢
      obtain ⟨r1, r2, r3⟩ := hr i hi h
      have h3 := I.clo i hi h
      have h4 := I.lo i hi
      simp only [if_neg (show ¬ gz out i < 0 by omega), if_neg (show ¬ gz out (gz out i).toNat < 0 by omega)]
      refine ⟨by omega, r2, fun k m hkm hm em => ?_⟩
      obtain ⟨s1, s2⟩ := r3 k m hkm hm em
      have h7 := v.get hi (k := k) (by omega)
      rw [keep _ (by omega) s1, if_neg (by omega)]
      exact ⟨s1, s2⟩
theorem fin_ok {W : List (List Int)} {n : Nat} (v : V W n) : ∀ (d : Nat) (out : List Int), Inv W n out → cnt out n ≤ d → Inv W n (fin W n d out) ∧ cnt (fin W n d out) n = 0 := by
  intro d
  induction d with
  | zero => intro out I h; exact ⟨I, by show cnt out n = 0; omega⟩
  | succ d ih =>
    intro out I h
    simp only [fin]
    by_cases c : 0 < cnt out n
    · rw [decide_eq_true c, cond_true]
      have a := rd_cnt v I.len
      have b := gn_some v I.len c
      exact ih _ (I.step v) (by omega)
    · rw [decide_eq_false c, cond_false]
      exact ⟨I, by omega⟩
theorem sv_ok {W : List (List Int)} (v : V W W.length) : Inv W W.length (sv W) ∧ ∀ i, i < W.length → 0 ≤ gz (sv W) i := by
  obtain ⟨I, h⟩ := fin_ok v W.length (List.replicate W.length (-1)) Inv.start (cnt_le _ _)
  refine ⟨I, fun i hi => ?_⟩
  by_cases c : gz (sv W) i < 0
  · have := (cnt_pos W.length).2 ⟨i, hi, c⟩
    unfold sv at this
    omega
  · omega
/-- No set could do better alone. -/
theorem core {W : List (List Int)} {n : Nat} (v : V W n) {M : List Int} (I : Inv W n M) (hM : ∀ i, i < n → 0 ≤ gz M i) {S : Nat → Prop} {h : Nat → Nat} (hS : ∀ i, S i → i < n) (hh : ∀ i, S i → S (h i)) (hi : ∀ i j, S i → S j → h i = h j → i = j)
    (hd : ∀ i, S i → ∃ k m, k ≤ m ∧ m < n ∧ gz (gr W i) k = (h i : Int) ∧ gz (gr W i) m = gz M i) : ∀ i, S i → gz M i = (h i : Int) := by
  obtain ⟨r, K, hr⟩ := I.rk
  have key : ∀ c i, r i < c → S i → gz M i = (h i : Int) := by
    intro c
    induction c with
    | zero => intro i hc; omega
    | succ c ih =>
      intro i hc hSi
      obtain ⟨k, m, hkm, hm, e1, e2⟩ := hd i hSi
      have hin := hS i hSi
      by_cases ek : k = m
      · rw [← e2, ← ek, e1]
      · exfalso
        obtain ⟨r1, r2, r3⟩ := hr i hin (hM i hin)
        obtain ⟨s1, s2⟩ := r3 k m (by omega) hm e2
        rw [e1, Int.toNat_natCast] at s2
        -- along the ring of the house's owner
        have hSj := hh i hSi
        have hmv : ∀ j, S j → r j = r (h i) → S (gz M j).toNat ∧ r (gz M j).toNat = r (h i) ∧ gz M j = (h j : Int) := by
          intro j hj hrj
          have e := ih j (by omega) hj
          obtain ⟨_, q2, _⟩ := hr j (hS j hj) (hM j (hS j hj))
          refine ⟨by rw [e, Int.toNat_natCast]; exact hh j hj, by rw [q2]; exact hrj, e⟩
        obtain ⟨j, hj, a, ha, ecy⟩ := cyc_ex (F := fun j => (gz M j).toNat) (L := fun j => S j ∧ r j = r (h i)) (n := n) (fun j hj => hS j hj.1) (fun j hj => ⟨(hmv j hj.1 hj.2).1, (hmv j hj.1 hj.2).2.1⟩) (i := h i) ⟨hSj, rfl⟩
        -- some power of the ring comes back to the owner itself
        have inj : ∀ x y, S x ∧ r x = r (h i) → S y ∧ r y = r (h i) → (gz M x).toNat = (gz M y).toNat → x = y := by
          intro x y hx hy e
          have m1 := hmv x hx.1 hx.2
          have m2 := hmv y hy.1 hy.2
          exact hi x y hx.1 hy.1 (by have := m1.2.2; have := m2.2.2; omega)
        have back : ∃ p, (S p ∧ r p = r (h i)) ∧ (gz M p).toNat = h i := by
          have hF : ∀ x, (S x ∧ r x = r (h i)) → (S (gz M x).toNat ∧ r (gz M x).toNat = r (h i)) := fun x hx => ⟨(hmv x hx.1 hx.2).1, (hmv x hx.1 hx.2).2.1⟩
          by_cases c2 : ∃ a b, a < b ∧ it (fun j => (gz M j).toNat) a (h i) = it (fun j => (gz M j).toNat) b (h i)
          · obtain ⟨a, b, hab, e⟩ := c2
            have : ∀ a b, a < b → it (fun j => (gz M j).toNat) a (h i) = it (fun j => (gz M j).toNat) b (h i) → ∃ c, it (fun j => (gz M j).toNat) (c + 1) (h i) = h i := by
              intro a
              induction a with
              | zero => intro b hb e; obtain ⟨b, rfl⟩ : ∃ q, b = q + 1 := ⟨b - 1, by omega⟩; exact ⟨b, e.symm⟩
              | succ a iha =>
                intro b hb e
                obtain ⟨b, rfl⟩ : ∃ q, b = q + 1 := ⟨b - 1, by omega⟩
                exact iha b (by omega) (inj _ _ (it_in hF ⟨hSj, rfl⟩ a) (it_in hF ⟨hSj, rfl⟩ b) e)
            obtain ⟨c, hc2⟩ := this a b hab e
            exact ⟨it (fun j => (gz M j).toNat) c (h i), it_in hF ⟨hSj, rfl⟩ c, hc2⟩
          · exfalso
            have hnd : ((List.range (n + 1)).map fun m => ((it (fun j => (gz M j).toNat) m (h i) : Nat) : Int)).Nodup := by
              refine List.pairwise_iff_getElem.2 fun a b ha hb hab => ?_
              simp only [List.length_map, List.length_range] at ha hb
              simp only [List.getElem_map, List.getElem_range]
              intro e
              exact c2 ⟨a, b, hab, by omega⟩
            have := pigeon n _ hnd (fun y hy => by
              simp only [List.mem_map, List.mem_range] at hy
              obtain ⟨m, _, rfl⟩ := hy
              have := hS _ (it_in hF ⟨hSj, rfl⟩ m).1
              omega)
            simp at this
            omega
        obtain ⟨p, hp, ep⟩ := back
        have mp := hmv p hp.1 hp.2
        have : h p = h i := by have := mp.2.2; omega
        have := hi p i hp.1 hSi this
        rw [this] at hp
        omega
  exact fun i hSi => key (r i + 1) i (by omega) hSi
end hse

end Go.Proofs.Ytkoongajnnaeoaa.Ab
