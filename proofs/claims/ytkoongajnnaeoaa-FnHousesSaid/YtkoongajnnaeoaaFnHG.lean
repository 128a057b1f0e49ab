/-
  Sets that could do better alone, plainly.
-/
import Derived.Test.YtkoongajnnaeoaaFnHF
namespace Go.Proofs.Ytkoongajnnaeoaa.Ab
open Go
set_option linter.unusedVariables false
set_option linter.unusedSimpArgs false
set_option maxRecDepth 100000

namespace hse
def off.sp (k i : Nat) : Bool := decide (k / 2 ^ i % 2 = 0)
def up.sv (k i : Nat) : Nat := k ||| 2 ^ i
theorem shr_and : ∀ k < 64, ∀ i < 6, iand.sv .i64 (ishr.sv .i64 ((k : Nat) : Int) ((i : Nat) : Int)) 1 = bif off.sp k i then 0 else 1 := by decide +kernel
theorem u64_nat : ∀ i < 64, IntKind.u64.wrap ((i : Nat) : Int) = ((i : Nat) : Int) := by decide +kernel
theorem shl_one : ∀ i < 7, ishl.sv .i64 1 ((i : Nat) : Int) = ((2 ^ i : Nat) : Int) := by decide +kernel
theorem or_shl : ∀ k < 32, ∀ i < 5, ior.sv .i64 ((k : Nat) : Int) ((2 ^ i : Nat) : Int) = ((up.sv k i : Nat) : Int) := by decide +kernel
theorem up_lt : ∀ k < 32, ∀ i < 5, up.sv k i < 32 := by decide +kernel
theorem up_off : ∀ k < 32, ∀ i < 5, ∀ j < 5, off.sp (up.sv k i) j = (off.sp k j && !decide (i = j)) := by decide +kernel
/-- The members of a set, and who is one. -/
def mb.sv (m : Nat) : Nat → List Int
  | 0 => []
  | i + 1 => bif off.sp m i then mb.sv m i else mb.sv m i ++ [(i : Int)]
def fr.sv (m n : Nat) : List Bool := (List.range n).map fun i => !off.sp m i
def ln.sv (k : Nat) : Nat := bif decide (k < 1) then 0 else bif decide (k < 2) then 1 else bif decide (k < 4) then 2 else bif decide (k < 8) then 3 else bif decide (k < 16) then 4 else 5
theorem ln_le (k : Nat) : ln.sv k ≤ 5 := by
  unfold ln.sv
  cases decide (k < 1) <;> cases decide (k < 2) <;> cases decide (k < 4) <;> cases decide (k < 8) <;> cases decide (k < 16) <;> decide
theorem mb_ln : ∀ n < 6, ∀ k < 2 ^ n, mb.sv k (ln.sv k) = mb.sv k n := by decide +kernel
theorem mb_mem {m : Nat} : ∀ (n : Nat) (x : Int), x ∈ mb.sv m n ↔ ∃ i : Nat, i < n ∧ x = i ∧ off.sp m i = false := by
  intro n
  induction n with
  | zero => intro x; simp [mb.sv]
  | succ n ih =>
    intro x
    simp only [mb.sv]
    cases hc : off.sp m n
    · rw [cond_false, List.mem_append, ih, List.mem_singleton]
      constructor
      · rintro (⟨i, a, b, c⟩ | e)
        · exact ⟨i, by omega, b, c⟩
        · exact ⟨n, by omega, e, hc⟩
      · rintro ⟨i, a, b, c⟩
        by_cases e : i = n
        · right; rw [b, e]
        · exact .inl ⟨i, by omega, b, c⟩
    · rw [cond_true, ih]
      constructor
      · rintro ⟨i, a, b, c⟩; exact ⟨i, by omega, b, c⟩
      · rintro ⟨i, a, b, c⟩
        refine ⟨i, ?_, b, c⟩
        by_cases e : i = n
        · rw [e, hc] at c; cases c
        · omega
theorem mb_nodup {m : Nat} : ∀ n, (mb.sv m n).Nodup := by
  intro n
  induction n with
  | zero => simp [mb.sv]
  | succ n ih =>
    simp only [mb.sv]
    cases off.sp m n
    · rw [cond_false, List.nodup_append]
      refine ⟨ih, by simp, fun a ha b hb => ?_⟩
      rw [List.mem_singleton] at hb
      obtain ⟨i, h1, h2, _⟩ := (mb_mem n a).1 ha
      omega
    · exact ih
theorem mb_length (m : Nat) : ∀ n, (mb.sv m n).length ≤ n := by
  intro n
  induction n with
  | zero => simp [mb.sv]
  | succ n ih =>
    simp only [mb.sv]
    cases off.sp m n
    · simp only [cond_false, List.length_append, List.length_singleton]; omega
    · simp only [cond_true]; omega
theorem mb_get {m n p : Nat} (hp : p < (mb.sv m n).length) : ∃ i : Nat, i < n ∧ gz (mb.sv m n) p = i ∧ off.sp m i = false := (mb_mem n _).1 (gz_mem hp)
theorem fr_length (m n : Nat) : (fr.sv m n).length = n := by simp [fr.sv]
theorem fr_get {m n i : Nat} (h : i < n) : gb (fr.sv m n) i = !off.sp m i := by rw [isAll.gb_eq (by rw [fr_length]; exact h)]; simp [fr.sv]
/-- Is there one with a property, from some place on? -/
def lb (P : Nat → Bool) : Nat → Nat → Bool
  | 0, _ => false
  | d + 1, j => P j || lb P d (j + 1)
theorem lb_iff {P : Nat → Bool} : ∀ d j, lb P d j = true ↔ ∃ i, j ≤ i ∧ i < j + d ∧ P i = true := by
  intro d
  induction d with
  | zero => intro j; simp only [lb, Bool.false_eq_true, false_iff]; rintro ⟨i, a, b, _⟩; omega
  | succ d ih =>
    intro j
    simp only [lb, Bool.or_eq_true, ih]
    constructor
    · rintro (h | ⟨i, a, b, c⟩)
      · exact ⟨j, by omega, by omega, h⟩
      · exact ⟨i, by omega, by omega, c⟩
    · rintro ⟨i, a, b, c⟩
      by_cases e : i = j
      · left; rw [← e]; exact c
      · exact .inr ⟨i, by omega, by omega, c⟩
def row (W : List (List Int)) (set : List Int) (k : Nat) : List Int := gr W (gz set k).toNat
def ow (W : List (List Int)) (M set : List Int) (k : Nat) : Nat := (pl.sv (gz M (gz set k).toNat) (row W set k)).toNat
/-- Could those of a set, from some place on, have houses that are free, and better ones in all? -/
def bq.sp (W : List (List Int)) (M set : List Int) : Nat → Nat → List Bool → Bool → Bool
  | 0, _, _, b => b
  | D + 1, k, fr, b => lb (fun j => gb fr (gz (row W set k) j).toNat && bq.sp W M set D (k + 1) (fr.set (gz (row W set k) j).toNat false) (b || decide (j < ow W M set k))) (ow W M set k + 1) 0
/-- The same, with the houses that are taken as bits. -/
def pq.sp (W : List (List Int)) (M set : List Int) : Nat → Nat → Nat → Bool → Bool
  | 0, _, _, b => b
  | D + 1, k, tk, b => lb (fun j => (off.sp tk (gz set j).toNat && !decide (pl.sv (gz M (gz set k).toNat) (row W set k) < pl.sv (gz set j) (row W set k))) && pq.sp W M set D (k + 1) (up.sv tk (gz set j).toNat) (b || (gz set j != gz M (gz set k).toNat))) set.length 0
theorem pl_mem {v : Int} : ∀ (xs : List Int) (i : Nat), v ∈ xs → ∃ k, k < xs.length ∧ pl.go v xs i = i + k ∧ gz xs k = v := by
  intro xs
  induction xs with
  | nil => intro i h; cases h
  | cons x r ih =>
    intro i h
    simp only [pl.go]
    by_cases e : x = v
    · have : has.sp v x = true := by simp [has.sp, e]
      rw [this, cond_true]
      exact ⟨0, by simp, by omega, by rw [gz_eq (by simp)]; simpa using e⟩
    · have : has.sp v x = false := by simpa [has.sp] using e
      rw [this, cond_false]
      rcases List.mem_cons.1 h with h | h
      · exact absurd h.symm e
      · obtain ⟨k, a, b, c⟩ := ih (i + 1) h
        refine ⟨k + 1, by simpa using a, by omega, ?_⟩
        rw [← c]; simp [gz]
/-- Where a house stands in a list of all. -/
theorem V.place {W : List (List Int)} {n : Nat} (v : V W n) {i : Nat} (hi : i < n) {x : Int} (hx : 0 ≤ x ∧ x < (n : Int)) : ∃ k : Nat, k < n ∧ pl.sv x (gr W i) = k ∧ gz (gr W i) k = x := by
  obtain ⟨k0, hk0, e0⟩ := v.has hi hx
  have hm : x ∈ gr W i := by rw [← e0]; exact gz_mem (by rw [v.rl i hi]; exact hk0)
  obtain ⟨k, a, b, c⟩ := pl_mem (gr W i) 0 hm
  rw [v.rl i hi] at a
  exact ⟨k, a, by unfold pl.sv; rw [b, Nat.zero_add], c⟩
theorem V.place_at {W : List (List Int)} {n : Nat} (v : V W n) {i k : Nat} (hi : i < n) (hk : k < n) : pl.sv (gz (gr W i) k) (gr W i) = k := by
  obtain ⟨m, a, b, c⟩ := v.place hi (v.get hi hk)
  rw [b]
  have := nd_get (v.rnd i hi) (by rw [v.rl i hi]; exact a) (by rw [v.rl i hi]; exact hk) c
  rw [this]
structure Set (set : List Int) (n : Nat) : Prop where
  ran : ∀ x ∈ set, 0 ≤ x ∧ x < (n : Int)
  nd : set.Nodup
theorem mb_set (m n : Nat) : Set (mb.sv m n) n := ⟨fun x hx => by obtain ⟨i, a, b, _⟩ := (mb_mem n x).1 hx; omega, mb_nodup n⟩
theorem ow_ok {W : List (List Int)} {n : Nat} (v : V W n) {M set : List Int} (hM : ∀ i, i < n → 0 ≤ gz M i ∧ gz M i < (n : Int)) (s : Set set n) {k : Nat} (hk : k < set.length) : ow W M set k < n ∧ gz (row W set k) (ow W M set k) = gz M (gz set k).toNat ∧ pl.sv (gz M (gz set k).toNat) (row W set k) = (ow W M set k : Int) := by
  have h1 := s.ran _ (gz_mem hk)
  have h2 := hM (gz set k).toNat (by omega)
  obtain ⟨m, a, b, c⟩ := v.place (i := (gz set k).toNat) (by omega) h2
  have e : ow W M set k = m := by unfold ow row; rw [b, Int.toNat_natCast]
  rw [e]
  exact ⟨a, c, b⟩
/-- Both say the same. -/
theorem pq_bq {W : List (List Int)} {n : Nat} (v : V W n) (h5 : n ≤ 5) {M set : List Int} (hM : ∀ i, i < n → 0 ≤ gz M i ∧ gz M i < (n : Int)) (s : Set set n) : ∀ (D k tk : Nat) (fr : List Bool) (b : Bool), k + D = set.length → tk < 32 → fr.length = n → (∀ h : Nat, h < n → (gb fr h = true ↔ ((h : Int) ∈ set ∧ off.sp tk h = true))) →
    pq.sp W M set D k tk b = bq.sp W M set D k fr b := by
  intro D
  induction D with
  | zero => intro k tk fr b _ _ _ _; rfl
  | succ D ih =>
    intro k tk fr b hk ht hf hr
    have hks := s.ran _ (gz_mem (l := set) (j := k) (by omega))
    obtain ⟨o1, o2, o3⟩ := ow_ok v hM s (k := k) (by omega)
    simp only [pq.sp, bq.sp]
    rw [Bool.eq_iff_iff, lb_iff, lb_iff]
    have key : ∀ (j q : Nat), j < set.length → q < n → gz (row W set k) q = gz set j → (((off.sp tk (gz set j).toNat && !decide (pl.sv (gz M (gz set k).toNat) (row W set k) < pl.sv (gz set j) (row W set k))) && pq.sp W M set D (k + 1) (up.sv tk (gz set j).toNat) (b || (gz set j != gz M (gz set k).toNat))) = true ↔ (q < ow W M set k + 1 ∧ (gb fr (gz (row W set k) q).toNat && bq.sp W M set D (k + 1) (fr.set (gz (row W set k) q).toNat false) (b || decide (q < ow W M set k))) = true)) := by
      intro j q hj hq e
      have hx := s.ran _ (gz_mem (l := set) (j := j) hj)
      have hp : pl.sv (gz set j) (row W set k) = (q : Int) := by rw [← e]; exact v.place_at (by omega) hq
      have hg := hr (gz set j).toNat (by omega)
      have hm : (((gz set j).toNat : Nat) : Int) = gz set j := by omega
      rw [hm] at hg
      have hb2 : (b || (gz set j != gz M (gz set k).toNat)) = true ↔ (b || decide (q ≠ ow W M set k)) = true := by
        rw [← o2, ← e]
        simp only [Bool.or_eq_true, bne_iff_ne, ne_eq, decide_eq_true_eq]
        constructor
        · rintro (h | h)
          · exact .inl h
          · exact .inr fun e2 => h (by rw [e2])
        · rintro (h | h)
          · exact .inl h
          · refine .inr fun e2 => h ?_
            have rl := v.rl (gz set k).toNat (by omega)
            exact nd_get (v.rnd (gz set k).toNat (by omega)) (by rw [rl]; exact hq) (by rw [rl]; exact o1) e2
      rw [e, o3, hp]
      have hrec : off.sp tk (gz set j).toNat = true → q < ow W M set k + 1 → pq.sp W M set D (k + 1) (up.sv tk (gz set j).toNat) (b || (gz set j != gz M (gz set k).toNat)) = bq.sp W M set D (k + 1) (fr.set (gz set j).toNat false) (b || decide (q < ow W M set k)) := by
        intro ho hq2
        have eb : (b || (gz set j != gz M (gz set k).toNat)) = (b || decide (q < ow W M set k)) := by
          rw [Bool.eq_iff_iff, hb2]
          simp only [Bool.or_eq_true, decide_eq_true_eq]
          constructor
          · rintro (h | h)
            · exact .inl h
            · exact .inr (by omega)
          · rintro (h | h)
            · exact .inl h
            · exact .inr (by omega)
        rw [eb]
        refine ih (k + 1) _ _ _ (by omega) (up_lt tk ht _ (by omega)) (by rw [List.length_set]; exact hf) fun h hh => ?_
        rw [gb_set (by omega), up_off tk ht _ (by omega) h (by omega)]
        by_cases c : (gz set j).toNat = h
        · rw [if_pos c, decide_eq_true c]
          simp
        · rw [if_neg c, decide_eq_false c, hr h hh]
          simp
      constructor
      · intro h
        simp only [Bool.and_eq_true, Bool.not_eq_true', decide_eq_false_iff_not] at h
        obtain ⟨⟨h1, h2⟩, h3⟩ := h
        have hq2 : q < ow W M set k + 1 := by omega
        rw [hrec h1 hq2] at h3
        refine ⟨hq2, ?_⟩
        rw [h3, Bool.and_true]
        exact hg.2 ⟨gz_mem hj, h1⟩
      · rintro ⟨hq2, h⟩
        simp only [Bool.and_eq_true] at h
        have h1 := (hg.1 h.1).2
        simp only [Bool.and_eq_true, Bool.not_eq_true', decide_eq_false_iff_not]
        rw [hrec h1 hq2]
        exact ⟨⟨h1, by omega⟩, h.2⟩
    constructor
    · rintro ⟨j, _, hj, h⟩
      have hx := s.ran _ (gz_mem (l := set) (j := j) (by omega))
      obtain ⟨q, hq, e⟩ := v.has (i := (gz set k).toNat) (by omega) hx
      obtain ⟨a, b2⟩ := (key j q (by omega) hq e).1 h
      exact ⟨q, by omega, by omega, b2⟩
    · rintro ⟨q, _, hq, h⟩
      have hx := v.get (i := (gz set k).toNat) (k := q) (by omega) (by omega)
      have hgb := h
      simp only [Bool.and_eq_true] at hgb
      have hm := ((hr (gz (row W set k) q).toNat (by show (gz (gr W (gz set k).toNat) q).toNat < n; omega)).1 hgb.1).1
      rw [show (((gz (row W set k) q).toNat : Nat) : Int) = gz (row W set k) q from by have : 0 ≤ gz (row W set k) q := hx.1; omega] at hm
      obtain ⟨j, hj, e⟩ := List.getElem_of_mem hm
      have e2 : gz (row W set k) q = gz set j := by rw [gz_eq hj, e]
      exact ⟨j, by omega, by omega, (key j q hj (by omega) e2).2 ⟨by omega, h⟩⟩
/-- What it means that they could. -/
theorem bq_some {W : List (List Int)} {n : Nat} (v : V W n) {M set : List Int} (hM : ∀ i, i < n → 0 ≤ gz M i ∧ gz M i < (n : Int)) (s : Set set n) : ∀ (D k : Nat) (fr : List Bool) (b : Bool), k + D = set.length → fr.length = n → bq.sp W M set D k fr b = true →
    ∃ g : Nat → Nat, (∀ i, k ≤ i → i < set.length → g i ≤ ow W M set i ∧ gb fr (gz (row W set i) (g i)).toNat = true) ∧ (∀ i j, k ≤ i → i < j → j < set.length → gz (row W set i) (g i) ≠ gz (row W set j) (g j)) ∧ (b = true ∨ ∃ i, k ≤ i ∧ i < set.length ∧ g i < ow W M set i) := by
  intro D
  induction D with
  | zero => intro k fr b hk _ h; exact ⟨fun _ => 0, fun i a c => by omega, fun i j a c d => by omega, .inl h⟩
  | succ D ih =>
    intro k fr b hk hf h
    simp only [bq.sp] at h
    obtain ⟨j, _, hj, h⟩ := (lb_iff _ _).1 h
    simp only [Bool.and_eq_true] at h
    obtain ⟨h1, h2⟩ := h
    have hks := s.ran _ (gz_mem (l := set) (j := k) (by omega))
    obtain ⟨o1, _, _⟩ := ow_ok v hM s (k := k) (by omega)
    have hx : 0 ≤ gz (row W set k) j ∧ gz (row W set k) j < (n : Int) := v.get (i := (gz set k).toNat) (k := j) (by omega) (by omega)
    obtain ⟨g, g1, g2, g3⟩ := ih (k + 1) _ _ (by omega) (by rw [List.length_set]; exact hf) h2
    have hfree : ∀ i, k + 1 ≤ i → i < set.length → gb fr (gz (row W set i) (g i)).toNat = true ∧ gz (row W set i) (g i) ≠ gz (row W set k) j := by
      intro i hi hi2
      have a := (g1 i hi hi2).2
      rw [gb_set (by omega)] at a
      by_cases c : (gz (row W set k) j).toNat = (gz (row W set i) (g i)).toNat
      · rw [if_pos c] at a; cases a
      · rw [if_neg c] at a
        exact ⟨a, fun e => c (by rw [e])⟩
    refine ⟨fun i => if i = k then j else g i, fun i hi hi2 => ?_, fun i j' hi hij hj2 => ?_, ?_⟩
    · by_cases c : i = k
      · subst c; simp only [if_true]; exact ⟨by omega, h1⟩
      · simp only [if_neg c]
        exact ⟨(g1 i (by omega) hi2).1, (hfree i (by omega) hi2).1⟩
    · by_cases c : i = k
      · subst c
        simp only [if_true, if_neg (show ¬ j' = i by omega)]
        exact fun e => (hfree j' (by omega) hj2).2 e.symm
      · simp only [if_neg c, if_neg (show ¬ j' = k by omega)]
        exact g2 i j' (by omega) hij hj2
    · rcases g3 with a | ⟨i, a, c, d⟩
      · simp only [Bool.or_eq_true, decide_eq_true_eq] at a
        rcases a with a | a
        · exact .inl a
        · exact .inr ⟨k, by omega, by omega, by simpa using a⟩
      · refine .inr ⟨i, by omega, c, ?_⟩
        simp only [if_neg (show ¬ i = k by omega)]
        exact d
/-- Behind rounds of rings no set could do better alone. -/
theorem no_block {W : List (List Int)} {n : Nat} (v : V W n) {M : List Int} (I : Inv W n M) (hM : ∀ i, i < n → 0 ≤ gz M i) (m : Nat) : bq.sp W M (mb.sv m n) (mb.sv m n).length 0 (fr.sv m n) false = false := by
  have hM2 : ∀ i, i < n → 0 ≤ gz M i ∧ gz M i < (n : Int) := fun i hi => ⟨hM i hi, (I.lo i hi).2⟩
  have s := mb_set m n
  cases hb : bq.sp W M (mb.sv m n) (mb.sv m n).length 0 (fr.sv m n) false
  · rfl
  · exfalso
    obtain ⟨g, g1, g2, g3⟩ := bq_some v hM2 s _ 0 _ _ (by omega) (fr_length m n) hb
    rcases g3 with g3 | ⟨p, _, hp, hlt⟩
    · cases g3
    -- places of members
    have pos : ∀ i : Nat, (i : Int) ∈ mb.sv m n → ∃ p, p < (mb.sv m n).length ∧ gz (mb.sv m n) p = i := by
      intro i hi
      obtain ⟨p, hp, e⟩ := List.getElem_of_mem hi
      exact ⟨p, hp, by rw [gz_eq hp]; exact e⟩
    have hrow : ∀ p, p < (mb.sv m n).length → 0 ≤ gz (row W (mb.sv m n) p) (g p) ∧ gz (row W (mb.sv m n) p) (g p) < (n : Int) := by
      intro p hp
      have h1 := s.ran _ (gz_mem hp)
      have o := (ow_ok v hM2 s hp).1
      have q := (g1 p (by omega) hp).1
      exact v.get (i := (gz (mb.sv m n) p).toNat) (k := g p) (by omega) (by omega)
    let h : Nat → Nat := fun i => (gz (gr W i) (g ((mb.sv m n).idxOf (i : Int)))).toNat
    have hidx : ∀ p, p < (mb.sv m n).length → (mb.sv m n).idxOf (gz (mb.sv m n) p) = p := by
      intro p hp
      have hm : gz (mb.sv m n) p ∈ mb.sv m n := gz_mem hp
      have hl := List.idxOf_lt_length_iff.2 hm
      have e := List.getElem_idxOf hl
      rw [← gz_eq hl] at e
      exact nd_get s.nd hl hp e
    have hval : ∀ p, p < (mb.sv m n).length → ((h (gz (mb.sv m n) p).toNat : Nat) : Int) = gz (row W (mb.sv m n) p) (g p) := by
      intro p hp
      have h1 := s.ran _ (gz_mem hp)
      have e : (((gz (mb.sv m n) p).toNat : Nat) : Int) = gz (mb.sv m n) p := by omega
      have a := hrow p hp
      show (((gz (gr W (gz (mb.sv m n) p).toNat) (g ((mb.sv m n).idxOf (((gz (mb.sv m n) p).toNat : Nat) : Int)))).toNat : Nat) : Int) = _
      rw [e, hidx p hp]
      unfold row at a ⊢
      omega
    have hc := core v I hM (S := fun i => (i : Int) ∈ mb.sv m n) (h := h) (fun i hi => by have := s.ran _ hi; omega) (fun i hi => by
      obtain ⟨p, hp, e⟩ := pos i hi
      have a := hval p hp
      rw [e, Int.toNat_natCast] at a
      show ((h i : Nat) : Int) ∈ mb.sv m n
      have b := (g1 p (by omega) hp).2
      have c := hrow p hp
      rw [fr_get (by omega)] at b
      rw [a]
      refine (mb_mem n _).2 ⟨(gz (row W (mb.sv m n) p) (g p)).toNat, by omega, by omega, by simpa using b⟩) (fun i j hi hj e => by
      obtain ⟨p, hp, ep⟩ := pos i hi
      obtain ⟨q, hq, eq⟩ := pos j hj
      have a := hval p hp
      have b := hval q hq
      rw [ep, Int.toNat_natCast] at a
      rw [eq, Int.toNat_natCast] at b
      rw [e, b] at a
      by_cases c1 : p < q
      · exact absurd a.symm (g2 p q (by omega) c1 hq)
      · by_cases c2 : q < p
        · exact absurd a (g2 q p (by omega) c2 hp)
        · have : p = q := by omega
          rw [this, eq] at ep; omega) (fun i hi => by
      obtain ⟨p, hp, e⟩ := pos i hi
      obtain ⟨o1, o2, _⟩ := ow_ok v hM2 s hp
      have a := hval p hp
      unfold row at a o2
      rw [e, Int.toNat_natCast] at a o2
      exact ⟨g p, ow W M (mb.sv m n) p, (g1 p (by omega) hp).1, o1, a.symm, o2⟩)
    have h1 := s.ran _ (gz_mem hp)
    obtain ⟨o1, o2, _⟩ := ow_ok v hM2 s hp
    have e := hc (gz (mb.sv m n) p).toNat (by
      show (((gz (mb.sv m n) p).toNat : Nat) : Int) ∈ mb.sv m n
      rw [show (((gz (mb.sv m n) p).toNat : Nat) : Int) = gz (mb.sv m n) p by omega]
      exact gz_mem hp)
    rw [hval p hp, ← o2] at e
    unfold row at e
    have := nd_get (v.rnd (gz (mb.sv m n) p).toNat (by omega)) (by rw [v.rl _ (by omega)]; exact o1) (by rw [v.rl _ (by omega)]; omega) e
    omega
end hse

end Go.Proofs.Ytkoongajnnaeoaa.Ab
