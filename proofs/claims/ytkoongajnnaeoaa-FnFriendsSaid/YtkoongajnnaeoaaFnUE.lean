/-
  Those on the left ask those on the right: what comes of it (plain).
-/
import Derived.Test.YtkoongajnnaeoaaFnUD
import Derived.Test.YtkoongajnnaeoaaFnTt
namespace Go.Proofs.Ytkoongajnnaeoaa.Ab
open Go
set_option linter.unusedVariables false
set_option linter.unusedSimpArgs false
set_option maxRecDepth 100000

namespace ask
/-- One who has nobody, and has not asked all. -/
def fp.sp (ls : List (List Int)) (mt ak : List Int) (x : Int) : Bool := decide (gz mt x.toNat < 0) && decide (gz ak x.toNat < ((gr ls x.toNat).length : Int))
def fi.sv (ls : List (List Int)) (mt ak : List Int) : Int := fidx.sq (fp.sp ls mt ak) (cq.sv ls.length) 0
/-- How many have one. -/
def hc.go (b : Int) : List Int → Int → Int
  | [], c => c
  | x :: r, c => hc.go b r (bif decide (x = b) then c + 1 else c)
def hc.sv (b : Int) (mt : List Int) : Int := hc.go b mt 0
/-- The least dear one of those who have one, by the reference and by the program. -/
def wo.go (row : List Int) (b : Int) : List Int → Nat → Int → Int
  | [], _, w => w
  | x :: r, i, w => wo.go row b r (i + 1) (bif decide (x = b) then (bif decide (pl.sv w row < pl.sv (i : Int) row) then (i : Int) else w) else w)
def le.go (row : List Int) (b : Int) : List Int → Nat → Int → Int
  | [], _, w => w
  | x :: r, i, w => le.go row b r (i + 1) (bif decide (x = b) then (bif (decide (w < 0) || decide (pl.sv w row < pl.sv (i : Int) row)) then (i : Int) else w) else w)
def wo.sv (row : List Int) (b : Int) (mt : List Int) (at_ : Int) : Int := wo.go row b mt 0 at_
def bw.sv (ls : List (List Int)) (ak : List Int) (i : Int) : Int := gz (gr ls i.toNat) (gz ak i.toNat).toNat
def nk.sv (ak : List Int) (i : Int) : List Int := ak.set i.toNat (gz ak i.toNat + 1)
def m2.sv (rs : List (List Int)) (ss mt : List Int) (b i : Int) : List Int :=
  bif (gr rs b.toNat).any (has.sp i) then
    (bif decide (gz ss b.toNat < hc.sv b (mt.set i.toNat b)) then (mt.set i.toNat b).set (wo.sv (gr rs b.toNat) b (mt.set i.toNat b) i).toNat (-1) else mt.set i.toNat b)
  else mt
def go (ls rs : List (List Int)) (ss : List Int) : Nat → List Int → List Int → Int → List Int × Int
  | 0, mt, _, c => (mt, c)
  | d + 1, mt, ak, c => bif decide (fi.sv ls mt ak < 0) then (mt, c) else go ls rs ss d (m2.sv rs ss mt (bw.sv ls ak (fi.sv ls mt ak)) (fi.sv ls mt ak)) (nk.sv ak (fi.sv ls mt ak)) (c + 1)
def om.sv (ls rs : List (List Int)) (ss : List Int) : List Int := (go ls rs ss (tot.sv ls + 1) (List.replicate ls.length (-1)) (List.replicate ls.length 0) 0).1
def ct.sv (ls rs : List (List Int)) (ss : List Int) : Int := (go ls rs ss (tot.sv ls + 1) (List.replicate ls.length (-1)) (List.replicate ls.length 0) 0).2

/-- What holds all the while. -/
structure Inv (ls rs : List (List Int)) (mt ak : List Int) : Prop where
  n8 : ls.length ≤ 8
  nr : rs.length = ls.length
  row : ∀ j, j < ls.length → ∀ k, k < (gr ls j).length → 0 ≤ gz (gr ls j) k ∧ gz (gr ls j) k < (ls.length : Int)
  lm : mt.length = ls.length
  la : ak.length = ls.length
  mb : ∀ j, j < ls.length → -1 ≤ gz mt j ∧ gz mt j < (ls.length : Int)
  ab : ∀ j, j < ls.length → 0 ≤ gz ak j ∧ gz ak j ≤ ((gr ls j).length : Int)
  tk : ∀ j, j < ls.length → 0 ≤ gz mt j → (gr rs (gz mt j).toNat).any (has.sp (j : Int)) = true

theorem fidx_cq (p : Int → Bool) : ∀ (d i n : Nat), i + d = n → (fidx.sq p ((cq.sv n).drop i) i = -1 ∧ ∀ j, i ≤ j → j < n → p (j : Int) = false) ∨ ∃ j : Nat, i ≤ j ∧ j < n ∧ fidx.sq p ((cq.sv n).drop i) i = (j : Int) ∧ p (j : Int) = true := by
  intro d
  induction d with
  | zero =>
    intro i n h
    left
    rw [List.drop_of_length_le (by rw [cq.sv_length]; omega)]
    exact ⟨rfl, fun j h1 h2 => by omega⟩
  | succ d ih =>
    intro i n h
    rw [cq.sv_drop (by omega)]
    simp only [fidx.sq]
    rcases Bool.eq_false_or_eq_true (p (i : Int)) with c | c
    · right
      refine ⟨i, Nat.le_refl _, by omega, ?_, c⟩
      rw [c]; rfl
    · rw [c, cond_false]
      rcases ih (i + 1) n (by omega) with ⟨h1, h2⟩ | ⟨j, h1, h2, h3, h4⟩
      · left
        refine ⟨h1, fun j g1 g2 => ?_⟩
        rcases Nat.eq_or_lt_of_le g1 with rfl | g
        · exact c
        · exact h2 j g g2
      · right; exact ⟨j, by omega, h2, h3, h4⟩
theorem fi_cases (ls : List (List Int)) (mt ak : List Int) : fi.sv ls mt ak < 0 ∨ ∃ j : Nat, j < ls.length ∧ fi.sv ls mt ak = (j : Int) ∧ gz mt j < 0 ∧ gz ak j < ((gr ls j).length : Int) := by
  unfold fi.sv
  rcases fidx_cq (fp.sp ls mt ak) ls.length 0 ls.length (by omega) with ⟨h, _⟩ | ⟨j, _, h2, h3, h4⟩
  · left; rw [List.drop_zero] at h; rw [h]; decide
  · right
    rw [List.drop_zero] at h3
    refine ⟨j, h2, h3, ?_⟩
    simpa [fp.sp] using h4

theorem pl_get (v : Int) : ∀ (xs : List Int) (i : Nat), xs.any (has.sp v) = true → xs[pl.go v xs i - i]? = some v := by
  intro xs
  induction xs with
  | nil => intro i h; cases h
  | cons x r ih =>
    intro i h
    simp only [pl.go]
    rcases Bool.eq_false_or_eq_true (has.sp v x) with c | c
    · rw [c, cond_true, Nat.sub_self, List.getElem?_cons_zero]
      have : x = v := by simpa [has.sp] using c
      rw [this]
    · rw [c, cond_false]
      simp only [List.any_cons, c, Bool.false_or] at h
      have h1 := ih (i + 1) h
      have h2 := (pl_go_le v r (i + 1)).1
      have e : pl.go v r (i + 1) - i = (pl.go v r (i + 1) - (i + 1)) + 1 := by omega
      rw [e, List.getElem?_cons_succ]
      exact h1
theorem pl_inj {row : List Int} {a c : Int} (ha : row.any (has.sp a) = true) (hc : row.any (has.sp c) = true) (h : pl.sv a row = pl.sv c row) : a = c := by
  have h1 := pl_get a row 0 ha
  have h2 := pl_get c row 0 hc
  unfold pl.sv at h
  have : pl.go a row 0 = pl.go c row 0 := by omega
  rw [this, h2] at h1
  exact (Option.some.inj h1).symm
theorem wo_spec (row : List Int) (b : Int) : ∀ (xs : List Int) (i : Nat) (w : Int), (wo.go row b xs i w = w ∨ ∃ k : Nat, xs[k]? = some b ∧ wo.go row b xs i w = ((i + k : Nat) : Int)) ∧ pl.sv w row ≤ pl.sv (wo.go row b xs i w) row ∧
    ∀ k : Nat, xs[k]? = some b → pl.sv ((i + k : Nat) : Int) row ≤ pl.sv (wo.go row b xs i w) row := by
  intro xs
  induction xs with
  | nil => intro i w; exact ⟨.inl rfl, Int.le_refl _, fun k h => by simp at h⟩
  | cons x r ih =>
    intro i w
    simp only [wo.go]
    obtain ⟨w2, hw2⟩ : ∃ w2, w2 = (bif decide (x = b) then (bif decide (pl.sv w row < pl.sv (i : Int) row) then (i : Int) else w) else w) := ⟨_, rfl⟩
    rw [← hw2]
    have hcase : (w2 = w ∨ (x = b ∧ w2 = (i : Int))) ∧ pl.sv w row ≤ pl.sv w2 row ∧ (x = b → pl.sv (i : Int) row ≤ pl.sv w2 row) := by
      by_cases c : x = b
      · by_cases c2 : pl.sv w row < pl.sv (i : Int) row
        · simp only [c, c2, decide_true, cond_true] at hw2
          subst hw2; exact ⟨.inr ⟨c, rfl⟩, by omega, fun _ => by omega⟩
        · simp only [c, c2, decide_true, decide_false, cond_true, cond_false] at hw2
          subst hw2; exact ⟨.inl rfl, by omega, fun _ => by omega⟩
      · simp only [c, decide_false, cond_false] at hw2
        subst hw2; exact ⟨.inl rfl, by omega, fun h => absurd h c⟩
    obtain ⟨h1, h2, h3⟩ := hcase
    obtain ⟨g1, g2, g3⟩ := ih (i + 1) w2
    refine ⟨?_, by omega, fun k hk => ?_⟩
    · rcases g1 with g1 | ⟨k, hk, g1⟩
      · rcases h1 with h1 | ⟨hx, h1⟩
        · left; rw [g1, h1]
        · right; exact ⟨0, by simp [hx], by rw [g1, h1]; simp⟩
      · right; exact ⟨k + 1, by simpa using hk, by rw [g1]; congr 1; omega⟩
    · cases k with
      | zero =>
        have hx : x = b := by simpa using hk
        have := h3 hx
        rw [Nat.add_zero]; omega
      | succ k =>
        have := g3 k (by simpa using hk)
        have e : i + (k + 1) = i + 1 + k := by omega
        rw [e]; exact this
theorem le_wo (row : List Int) (b : Int) : ∀ (xs : List Int) (i : Nat) (w : Int), 0 ≤ w → le.go row b xs i w = wo.go row b xs i w := by
  intro xs
  induction xs with
  | nil => intro i w _; rfl
  | cons x r ih =>
    intro i w hw
    simp only [le.go, wo.go]
    have hn : ¬ (w < 0) := by omega
    simp only [hn, decide_false, Bool.false_or]
    refine ih (i + 1) _ ?_
    have : (0 : Int) ≤ (i : Int) := Int.natCast_nonneg _
    by_cases c : x = b
    · by_cases c2 : pl.sv w row < pl.sv (i : Int) row
      · simpa only [c, c2, decide_true, cond_true] using this
      · simpa only [c, c2, decide_true, decide_false, cond_true, cond_false] using hw
    · simpa only [c, decide_false, cond_false] using hw
theorem le_spec (row : List Int) (b : Int) : ∀ (xs : List Int) (i : Nat) (k0 : Nat), xs[k0]? = some b → (∃ k : Nat, xs[k]? = some b ∧ le.go row b xs i (-1) = ((i + k : Nat) : Int)) ∧ ∀ k : Nat, xs[k]? = some b → pl.sv ((i + k : Nat) : Int) row ≤ pl.sv (le.go row b xs i (-1)) row := by
  intro xs
  induction xs with
  | nil => intro i k0 h; simp at h
  | cons x r ih =>
    intro i k0 h0
    simp only [le.go]
    by_cases c : x = b
    · have hneg : ((-1 : Int) < 0) := by decide
      simp only [c, hneg, decide_true, Bool.true_or, cond_true]
      rw [le_wo _ _ _ _ _ (Int.natCast_nonneg _)]
      obtain ⟨g1, g2, g3⟩ := wo_spec row b r (i + 1) (i : Int)
      refine ⟨?_, fun k hk => ?_⟩
      · rcases g1 with g1 | ⟨k, hk, g1⟩
        · exact ⟨0, by simp, by rw [g1]; simp⟩
        · exact ⟨k + 1, by simpa using hk, by rw [g1]; congr 1; omega⟩
      · cases k with
        | zero => rw [Nat.add_zero]; exact g2
        | succ k =>
          have := g3 k (by simpa using hk)
          have e : i + (k + 1) = i + 1 + k := by omega
          rw [e]; exact this
    · simp only [c, decide_false, cond_false]
      cases k0 with
      | zero => exact absurd (by simpa using h0) c
      | succ k0 =>
        obtain ⟨⟨k, hk, g1⟩, g2⟩ := ih (i + 1) k0 (by simpa using h0)
        refine ⟨⟨k + 1, by simpa using hk, by rw [g1]; congr 1; omega⟩, fun k' hk' => ?_⟩
        cases k' with
        | zero => exact absurd (by simpa using hk') c
        | succ k' =>
          have := g2 k' (by simpa using hk')
          have e : i + (k' + 1) = i + 1 + k' := by omega
          rw [e]; exact this
/-- Both find the same one. -/
theorem le_eq {row : List Int} {b : Int} {mt : List Int} {i : Nat} (hi : mt[i]? = some b) (hall : ∀ k : Nat, mt[k]? = some b → row.any (has.sp (k : Int)) = true) : le.go row b mt 0 (-1) = wo.sv row b mt (i : Int) := by
  unfold wo.sv
  obtain ⟨⟨k, hk, e1⟩, g2⟩ := le_spec row b mt 0 i hi
  obtain ⟨h1, h2, h3⟩ := wo_spec row b mt 0 (i : Int)
  rw [Nat.zero_add] at e1
  have hw : ∃ k' : Nat, mt[k']? = some b ∧ wo.go row b mt 0 (i : Int) = (k' : Int) := by
    rcases h1 with h1 | ⟨k', hk', h1⟩
    · exact ⟨i, hi, h1⟩
    · exact ⟨k', hk', by rw [h1, Nat.zero_add]⟩
  obtain ⟨k', hk', e2⟩ := hw
  have a1 := g2 k' hk'
  have a2 := h3 k hk
  rw [Nat.zero_add, e1] at a1
  rw [Nat.zero_add, e2] at a2
  rw [e1, e2]
  exact pl_inj (hall k hk) (hall k' hk') (by omega)
theorem hc_go (b : Int) : ∀ (xs : List Int) (c : Int), c ≤ hc.go b xs c ∧ hc.go b xs c ≤ c + (xs.length : Int) := by
  intro xs
  induction xs with
  | nil => intro c; simp [hc.go]
  | cons x r ih =>
    intro c
    simp only [hc.go, List.length_cons]
    by_cases h : x = b
    · simp only [h, decide_true, cond_true]
      have := ih (c + 1); omega
    · simp only [h, decide_false, cond_false]
      have := ih c; omega
theorem gz_get {xs : List Int} {i : Nat} (h : i < xs.length) : xs[i]? = some (gz xs i) := by rw [gz_eq h]; exact List.getElem?_eq_getElem h
theorem gz_set (os : List Int) (k : Nat) (v : Int) (i : Nat) (h : i < os.length) : gz (os.set k v) i = if k = i then v else gz os i := by
  have h' : i < (os.set k v).length := by simpa using h
  rw [gz_eq h', gz_eq h, List.getElem_set]

theorem sum_set : ∀ (xs : List Int) (i : Nat) (v : Int), i < xs.length → (xs.set i v).sum = xs.sum - gz xs i + v := by
  intro xs
  induction xs with
  | nil => intro i v h; simp at h
  | cons x r ih =>
    intro i v h
    cases i with
    | zero => simp [gz]; omega
    | succ i =>
      simp only [List.set_cons_succ, List.sum_cons]
      have := ih i v (by simpa using h)
      have e : gz (x :: r) (i + 1) = gz r i := by simp [gz]
      rw [this, e]; omega
theorem sum_le : ∀ (ak : List Int) (ls : List (List Int)), ak.length = ls.length → (∀ j, j < ls.length → gz ak j ≤ ((gr ls j).length : Int)) → ak.sum ≤ (tot.sv ls : Int) := by
  intro ak
  induction ak with
  | nil => intro ls h _; have : ls = [] := List.eq_nil_of_length_eq_zero (by simpa using h.symm); subst this; simp [tot.sv]
  | cons a r ih =>
    intro ls h hb
    cases ls with
    | nil => simp at h
    | cons l t =>
      have h0 := hb 0 (by simp)
      have := ih t (by simpa using h) (fun j hj => by have := hb (j + 1) (by simpa using hj); simpa [gz, gr] using this)
      have e : (tot.sv (l :: t) : Int) = (l.length : Int) + (tot.sv t : Int) := by simp [tot.sv]
      rw [List.sum_cons, e]
      have h0' : a ≤ (l.length : Int) := by simpa [gz, gr] using h0
      omega

/-- One round keeps all. -/
theorem step {ls rs : List (List Int)} {ss mt ak : List Int} (I : Inv ls rs mt ak) {j : Nat} (hj : j < ls.length) (hm : gz mt j < 0) (ha : gz ak j < ((gr ls j).length : Int)) :
    (0 ≤ bw.sv ls ak (j : Int) ∧ bw.sv ls ak (j : Int) < (ls.length : Int)) ∧ Inv ls rs (m2.sv rs ss mt (bw.sv ls ak (j : Int)) (j : Int)) (nk.sv ak (j : Int)) ∧ (nk.sv ak (j : Int)).sum = ak.sum + 1 ∧
    ((gr rs (bw.sv ls ak (j : Int)).toNat).any (has.sp (j : Int)) = true → (mt.set j (bw.sv ls ak (j : Int)))[j]? = some (bw.sv ls ak (j : Int)) ∧
      ∀ k : Nat, (mt.set j (bw.sv ls ak (j : Int)))[k]? = some (bw.sv ls ak (j : Int)) → (gr rs (bw.sv ls ak (j : Int)).toNat).any (has.sp (k : Int)) = true) := by
  have a0 := (I.ab j hj).1
  have hb : 0 ≤ bw.sv ls ak (j : Int) ∧ bw.sv ls ak (j : Int) < (ls.length : Int) := by
    unfold bw.sv
    rw [Int.toNat_natCast]
    exact I.row j hj _ (by omega)
  obtain ⟨b, hbe⟩ : ∃ b, b = bw.sv ls ak (j : Int) := ⟨_, rfl⟩
  rw [← hbe] at hb ⊢
  have hjm : j < mt.length := by rw [I.lm]; exact hj
  have hja : j < ak.length := by rw [I.la]; exact hj
  have hset : (gr rs b.toNat).any (has.sp (j : Int)) = true → (mt.set j b)[j]? = some b ∧ ∀ k : Nat, (mt.set j b)[k]? = some b → (gr rs b.toNat).any (has.sp (k : Int)) = true := by
    intro ht
    refine ⟨by simp [hjm], fun k hk => ?_⟩
    rw [List.getElem?_set] at hk
    by_cases e : j = k
    · subst e; exact ht
    · rw [if_neg e] at hk
      have hkl : k < mt.length := (List.getElem?_eq_some_iff.1 hk).1
      have hg : gz mt k = b := by rw [gz_eq hkl]; exact (List.getElem?_eq_some_iff.1 hk).2
      have := I.tk k (by rw [← I.lm]; exact hkl) (by rw [hg]; exact hb.1)
      rw [hg] at this; exact this
  refine ⟨hb, ⟨I.n8, I.nr, I.row, ?_, ?_, fun k hk => ?_, fun k hk => ?_, fun k hk h0 => ?_⟩, ?_, hset⟩
  · unfold m2.sv
    rw [Int.toNat_natCast]
    cases (gr rs b.toNat).any (has.sp (j : Int))
    · exact I.lm
    · simp only [cond_true]
      by_cases c : gz ss b.toNat < hc.sv b (mt.set j b)
      · simp only [c, decide_true, cond_true, List.length_set]; exact I.lm
      · simp only [c, decide_false, cond_false, List.length_set]; exact I.lm
  · unfold nk.sv; rw [List.length_set]; exact I.la
  · have hkm : k < mt.length := by rw [I.lm]; exact hk
    have h1 : -1 ≤ gz (mt.set j b) k ∧ gz (mt.set j b) k < (ls.length : Int) := by
      rw [gz_set _ _ _ _ hkm]
      split
      · omega
      · exact I.mb k hk
    unfold m2.sv
    rw [Int.toNat_natCast]
    cases (gr rs b.toNat).any (has.sp (j : Int))
    · exact I.mb k hk
    · simp only [cond_true]
      by_cases c : gz ss b.toNat < hc.sv b (mt.set j b)
      · simp only [c, decide_true, cond_true]
        rw [gz_set _ _ _ _ (by rw [List.length_set]; exact hkm)]
        split
        · omega
        · exact h1
      · simp only [c, decide_false, cond_false]; exact h1
  · unfold nk.sv
    rw [Int.toNat_natCast, gz_set _ _ _ _ (by rw [I.la]; exact hk)]
    split
    · rename_i e; subst e; omega
    · exact I.ab k hk
  · have hkm : k < mt.length := by rw [I.lm]; exact hk
    unfold m2.sv at h0 ⊢
    rw [Int.toNat_natCast] at h0 ⊢
    rcases Bool.eq_false_or_eq_true ((gr rs b.toNat).any (has.sp (j : Int))) with ht | ht
    · simp only [ht, cond_true] at h0 ⊢
      have h1 : 0 ≤ gz (mt.set j b) k → (gr rs (gz (mt.set j b) k).toNat).any (has.sp (k : Int)) = true := by
        intro hg
        rw [gz_set _ _ _ _ hkm] at hg ⊢
        split
        · rename_i e; subst e; exact ht
        · rename_i e; rw [if_neg e] at hg; exact I.tk k hk hg
      by_cases c : gz ss b.toNat < hc.sv b (mt.set j b)
      · simp only [c, decide_true, cond_true] at h0 ⊢
        rw [gz_set _ _ _ _ (by rw [List.length_set]; exact hkm)] at h0 ⊢
        split at h0
        · omega
        · rename_i e; rw [if_neg e]; exact h1 h0
      · simp only [c, decide_false, cond_false] at h0 ⊢; exact h1 h0
    · simp only [ht, cond_false] at h0 ⊢
      exact I.tk k hk h0
  · unfold nk.sv
    rw [Int.toNat_natCast, sum_set _ _ _ hja]; omega
/-- Whom each one has is in range. -/
theorem wo_in {row : List Int} {b : Int} {mt : List Int} {j : Nat} (hj : j < mt.length) : 0 ≤ wo.sv row b mt (j : Int) ∧ wo.sv row b mt (j : Int) < (mt.length : Int) := by
  unfold wo.sv
  rcases (wo_spec row b mt 0 (j : Int)).1 with h | ⟨k, hk, h⟩
  · rw [h]; omega
  · rw [h]
    have := (List.getElem?_eq_some_iff.1 hk).1
    omega
theorem uniq_rows {n : Int} : ∀ {xs pre : List Int}, uniq.sq n pre xs = true → ∀ k, k < xs.length → 0 ≤ gz xs k ∧ gz xs k < n := by
  intro xs
  induction xs with
  | nil => intro pre h k hk; simp at hk
  | cons x r ih =>
    intro pre h k hk
    simp only [uniq.sq, Bool.and_eq_true, decide_eq_true_eq] at h
    cases k with
    | zero => simp only [gz, List.getD_cons_zero]; omega
    | succ k =>
      have := ih h.2 k (by simpa using hk)
      simpa [gz] using this
theorem inv0 {ls rs : List (List Int)} (h : vw.sp ls rs = true) : Inv ls rs (List.replicate ls.length (-1)) (List.replicate ls.length 0) ∧ 1 ≤ ls.length := by
  unfold vw.sp at h
  simp only [Bool.and_eq_true, decide_eq_true_eq] at h
  obtain ⟨h1, ⟨h2, h3, h4⟩, h5, h6, h7⟩ := h
  have g : ∀ (v : Int) j, j < ls.length → gz (List.replicate ls.length v) j = v := by
    intro v j hj
    rw [gz_eq (by simpa using hj)]; simp
  refine ⟨⟨by omega, by omega, fun j hj k hk => ?_, by simp, by simp, fun j hj => ?_, fun j hj => ?_, fun j hj h0 => ?_⟩, by omega⟩
  · unfold lo.sp at h2
    rw [List.all_eq_true] at h2
    have := h2 (gr ls j) (by rw [gr_eq hj]; exact List.getElem_mem hj)
    exact uniq_rows this k hk
  · rw [g _ j hj]; omega
  · rw [g _ j hj]; omega
  · rw [g _ j hj] at h0; omega
end ask

end Go.Proofs.Ytkoongajnnaeoaa.Ab
