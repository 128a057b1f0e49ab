/-
  One thing is parted between two, plainly.
-/
import Derived.Test.YtkoongajnnaeoaaFnAU
namespace Go.Proofs.Ytkoongajnnaeoaa.Ab
open Go
set_option linter.unusedVariables false
set_option linter.unusedSimpArgs false
set_option maxRecDepth 100000

namespace so
def cn.sv (a b : Int) : Int := bif decide (a < b) then -1 else bif decide (b < a) then 1 else 0
def cmp.sv (ow ot : List Int) (a b : Int) : Int :=
  bif gz ot a.toNat == 0 && gz ot b.toNat == 0 then 0 else bif gz ot a.toNat == 0 then 1 else bif gz ot b.toNat == 0 then -1 else cn.sv (gz ow a.toNat * gz ot b.toNat) (gz ow b.toNat * gz ot a.toNat)
def lt.sp (ow ot : List Int) (a b : Int) : Bool := decide (cmp.sv ow ot a b < 0)
/-- a may stand ahead of b. -/
def Le (ow ot : List Int) (a b : Int) : Prop := gz ot b.toNat = 0 ∨ (gz ot a.toNat ≠ 0 ∧ gz ow a.toNat * gz ot b.toNat ≤ gz ow b.toNat * gz ot a.toNat)
def sm.sp (xs : List Int) : Bool := xs.all fun x => decide (0 ≤ x) && decide (x ≤ 1000)
theorem small {xs : List Int} (h : sm.sp xs = true) : ∀ k, 0 ≤ gz xs k ∧ gz xs k ≤ 1000 := by
  intro k
  by_cases hk : k < xs.length
  · have := List.all_eq_true.1 h _ (gz_mem hk)
    simpa [Bool.and_eq_true, decide_eq_true_eq] using this
  · rw [gz_out (by omega)]; omega
theorem mul_in {ow ot : List Int} (w : sm.sp ow = true) (v : sm.sp ot = true) (a b : Nat) : 0 ≤ gz ow a * gz ot b ∧ gz ow a * gz ot b ≤ 1000000 := by
  have x := small w a
  have y := small v b
  have c := Int.mul_nonneg x.1 y.1
  have d := Int.mul_le_mul x.2 y.2 y.1 (by omega)
  omega
theorem cn_neg (a b : Int) : cn.sv a b < 0 ↔ a < b := by
  unfold cn.sv
  by_cases h : a < b
  · simp [h]
  · by_cases h2 : b < a <;> simp [h, h2]
theorem lt_iff {ow ot : List Int} {a b : Int} : lt.sp ow ot a b = true ↔ gz ot a.toNat ≠ 0 ∧ (gz ot b.toNat = 0 ∨ gz ow a.toNat * gz ot b.toNat < gz ow b.toNat * gz ot a.toNat) := by
  unfold lt.sp cmp.sv
  by_cases h1 : gz ot a.toNat = 0
  · by_cases h2 : gz ot b.toNat = 0
    · simp [h1, h2]
    · have e2 : (gz ot b.toNat == 0) = false := by simpa using h2
      simp [h1, e2]
  · have e1 : (gz ot a.toNat == 0) = false := by simpa using h1
    by_cases h2 : gz ot b.toNat = 0
    · simp [h1, h2, e1]
    · have e2 : (gz ot b.toNat == 0) = false := by simpa using h2
      simp only [e1, e2, Bool.and_self, cond_false, decide_eq_true_eq, cn_neg, h1, h2, not_false_eq_true, true_and, false_or, ne_eq]
theorem not_lt {ow ot : List Int} {a b : Int} (h : lt.sp ow ot b a = false) : Le ow ot a b := by
  have h' : ¬ (lt.sp ow ot b a = true) := by simp [h]
  rw [lt_iff] at h'
  unfold Le
  by_cases hb : gz ot b.toNat = 0
  · exact .inl hb
  · right
    refine ⟨fun ha => h' ⟨hb, .inl ha⟩, ?_⟩
    by_cases c : gz ow b.toNat * gz ot a.toNat < gz ow a.toNat * gz ot b.toNat
    · exact absurd ⟨hb, .inr c⟩ h'
    · omega
theorem lt_le {ow ot : List Int} {a b : Int} (h : lt.sp ow ot a b = true) : Le ow ot a b := by
  rw [lt_iff] at h
  rcases h.2 with c | c
  · exact .inl c
  · exact .inr ⟨h.1, Int.le_of_lt c⟩
theorem Le.trans {ow ot : List Int} (hn : ∀ k, 0 ≤ gz ot k) {a b c : Int} (h1 : Le ow ot a b) (h2 : Le ow ot b c) : Le ow ot a c := by
  unfold Le at *
  by_cases hc : gz ot c.toNat = 0
  · exact .inl hc
  · rcases h2 with h2 | ⟨hb, h2⟩
    · exact absurd h2 hc
    rcases h1 with h1 | ⟨ha, h1⟩
    · exact absurd h1 hb
    refine .inr ⟨ha, ?_⟩
    have na := hn a.toNat
    have nb := hn b.toNat
    have nc := hn c.toNat
    have e1 := Int.mul_le_mul_of_nonneg_right h1 nc
    have e2 := Int.mul_le_mul_of_nonneg_right h2 na
    refine Int.le_of_mul_le_mul_right (a := gz ot b.toNat) ?_ (by omega)
    calc gz ow a.toNat * gz ot c.toNat * gz ot b.toNat = gz ow a.toNat * gz ot b.toNat * gz ot c.toNat := by ac_rfl
      _ ≤ gz ow b.toNat * gz ot a.toNat * gz ot c.toNat := e1
      _ = gz ow b.toNat * gz ot c.toNat * gz ot a.toNat := by ac_rfl
      _ ≤ gz ow c.toNat * gz ot b.toNat * gz ot a.toNat := e2
      _ = gz ow c.toNat * gz ot a.toNat * gz ot b.toNat := by ac_rfl
-- sorting
def swap (os : List Int) (k : Nat) : List Int := (os.set (k + 1) (gz os k)).set k (gz os (k + 1))
def down (lt : Int → Int → Bool) : Nat → List Int → List Int
  | 0, os => os
  | k + 1, os => bif lt (gz os (k + 1)) (gz os k) then down lt k (swap os k) else os
def srt (lt : Int → Int → Bool) (l : List Int) : Nat → List Int
  | 0 => l
  | i + 1 => down lt i (srt lt l i)
def sort.sv (ow ot l : List Int) : List Int := srt (lt.sp ow ot) l l.length
theorem swap_length (os : List Int) (k : Nat) : (swap os k).length = os.length := by simp [swap]
theorem down_length (lt : Int → Int → Bool) : ∀ (k : Nat) (os : List Int), (down lt k os).length = os.length
  | 0, os => rfl
  | k + 1, os => by
    simp only [down]
    cases lt (gz os (k + 1)) (gz os k)
    · rfl
    · simp only [cond_true]; rw [down_length lt k, swap_length]
theorem srt_length (lt : Int → Int → Bool) (l : List Int) : ∀ i, (srt lt l i).length = l.length
  | 0 => rfl
  | i + 1 => by rw [srt, down_length, srt_length lt l i]
theorem swap_get {os : List Int} {k : Nat} (h : k + 1 < os.length) (j : Nat) : gz (swap os k) j = if j = k then gz os (k + 1) else if j = k + 1 then gz os k else gz os j := by
  unfold swap
  rw [gz_set (by simp; omega)]
  by_cases e : k = j
  · rw [if_pos e, if_pos e.symm]
  · rw [if_neg e, if_neg (fun h => e h.symm), gz_set h]
    by_cases e2 : k + 1 = j
    · rw [if_pos e2, if_pos e2.symm]
    · rw [if_neg e2, if_neg (fun h => e2 h.symm)]
theorem count_set {l : List Int} {k : Nat} (h : k < l.length) (x y : Int) : (l.set k x).count y + (if gz l k = y then 1 else 0) = l.count y + (if x = y then 1 else 0) := by
  induction l generalizing k with
  | nil => simp at h
  | cons a r ih =>
    cases k with
    | zero =>
      simp only [List.set_cons_zero, List.count_cons, gz, List.getD_cons_zero, beq_iff_eq]
      split <;> split <;> omega
    | succ k =>
      have h' : k < r.length := by simpa using h
      have := ih h'
      have g1 : gz (a :: r) (k + 1) = gz r k := by simp [gz]
      rw [g1, List.set_cons_succ, List.count_cons, List.count_cons]
      omega
theorem swap_count {os : List Int} {k : Nat} (h : k + 1 < os.length) (y : Int) : (swap os k).count y = os.count y := by
  have a := count_set (l := os) h (gz os k) y
  have b := count_set (l := os.set (k + 1) (gz os k)) (k := k) (by simp; omega) (gz os (k + 1)) y
  have e : gz (os.set (k + 1) (gz os k)) k = gz os k := by rw [gz_set h, if_neg (by omega)]
  rw [e] at b
  unfold swap
  omega
theorem down_count (lt : Int → Int → Bool) (y : Int) : ∀ (k : Nat) (os : List Int), k < os.length → (down lt k os).count y = os.count y
  | 0, os, _ => rfl
  | k + 1, os, h => by
    simp only [down]
    cases lt (gz os (k + 1)) (gz os k)
    · rfl
    · simp only [cond_true]; rw [down_count lt y k _ (by rw [swap_length]; omega), swap_count h]
theorem srt_count (lt : Int → Int → Bool) (l : List Int) (y : Int) : ∀ i, i ≤ l.length → (srt lt l i).count y = l.count y
  | 0, _ => rfl
  | i + 1, h => by rw [srt, down_count lt y i _ (by rw [srt_length]; omega), srt_count lt l y i (by omega)]
/-- In order, up to some place, but perhaps for the one at k, which may have to go down. -/
def But (ow ot os : List Int) (k n : Nat) : Prop := (∀ a b, a < b → b < n → a ≠ k → b ≠ k → Le ow ot (gz os a) (gz os b)) ∧ ∀ b, k < b → b < n → Le ow ot (gz os k) (gz os b)
def Sorted (ow ot os : List Int) (n : Nat) : Prop := ∀ a b, a < b → b < n → Le ow ot (gz os a) (gz os b)
theorem down_sorted {ow ot : List Int} (hn : ∀ k, 0 ≤ gz ot k) : ∀ (k : Nat) (os : List Int) (n : Nat), k < n → n ≤ os.length → But ow ot os k n → Sorted ow ot (down (lt.sp ow ot) k os) n
  | 0, os, n, h, hl, hb => fun a b hab hbn => by
    by_cases e : a = 0
    · subst e; exact hb.2 b hab hbn
    · exact hb.1 a b hab hbn e (by omega)
  | k + 1, os, n, h, hl, hb => by
    simp only [down]
    cases c : lt.sp ow ot (gz os (k + 1)) (gz os k)
    · simp only [cond_false]
      intro a b hab hbn
      by_cases e : a = k + 1
      · subst e; exact hb.2 b hab hbn
      · by_cases e2 : b = k + 1
        · subst e2
          have s := not_lt c
          by_cases e3 : a = k
          · subst e3; exact s
          · exact (hb.1 a k (by omega) (by omega) e (by omega)).trans hn s
        · exact hb.1 a b hab hbn e e2
    · simp only [cond_true]
      refine down_sorted hn k _ n (by omega) (by rw [swap_length]; exact hl) ⟨fun a b hab hbn ha hbk => ?_, fun b hb1 hbn => ?_⟩
      · rw [swap_get (by omega), swap_get (by omega), if_neg ha, if_neg hbk]
        by_cases e : a = k + 1
        · rw [if_pos e, if_neg (by omega)]
          exact hb.1 k b (by omega) hbn (by omega) (by omega)
        · rw [if_neg e]
          by_cases e2 : b = k + 1
          · rw [if_pos e2]
            exact hb.1 a k (by omega) (by omega) e (by omega)
          · rw [if_neg e2]
            exact hb.1 a b hab hbn e e2
      · rw [swap_get (by omega), swap_get (by omega), if_pos rfl, if_neg (by omega)]
        by_cases e2 : b = k + 1
        · rw [if_pos e2]
          exact lt_le c
        · rw [if_neg e2]
          exact hb.2 b (by omega) hbn
theorem srt_sorted {ow ot : List Int} (hn : ∀ k, 0 ≤ gz ot k) (l : List Int) : ∀ i, i ≤ l.length → Sorted ow ot (srt (lt.sp ow ot) l i) i
  | 0, _ => fun a b _ h => absurd h (Nat.not_lt_zero _)
  | i + 1, h => by
    have s := srt_sorted (ow := ow) hn l i (by omega)
    rw [srt]
    refine down_sorted hn i _ (i + 1) (by omega) (by rw [srt_length]; exact h) ⟨fun a b hab hb ha hbk => s a b hab (by omega), fun b h1 h2 => by omega⟩
theorem sort_sorted {ow ot : List Int} (hn : ∀ k, 0 ≤ gz ot k) (l : List Int) : Sorted ow ot (sort.sv ow ot l) l.length := srt_sorted hn l _ (Nat.le_refl _)
theorem sort_mem {ow ot : List Int} (l : List Int) (x : Int) : (sort.sv ow ot l).count x = l.count x := srt_count _ l x _ (Nat.le_refl _)
theorem sort_length (ow ot l : List Int) : (sort.sv ow ot l).length = l.length := srt_length _ _ _
/-- All numbers of the list are below m. -/
def In (m : Nat) (os : List Int) : Prop := ∀ i, i < os.length → 0 ≤ gz os i ∧ gz os i < (m : Int)
def in.sp (m : Nat) (os : List Int) : Bool := os.all fun x => decide (0 ≤ x) && decide (x < (m : Int))
theorem in_of {m : Nat} {os : List Int} (h : in.sp m os = true) : In m os := fun i hi => by
  have := List.all_eq_true.1 h _ (gz_mem hi)
  simpa [Bool.and_eq_true, decide_eq_true_eq] using this
theorem In.swap {m : Nat} {os : List Int} (h : In m os) {k : Nat} (hk : k + 1 < os.length) : In m (so.swap os k) := by
  intro i hi
  rw [swap_length] at hi
  rw [swap_get hk]
  split
  · exact h _ hk
  · split
    · exact h _ (by omega)
    · exact h _ hi
theorem In.down {m : Nat} (lt : Int → Int → Bool) : ∀ (k : Nat) (os : List Int), k < os.length → In m os → In m (so.down lt k os)
  | 0, os, _, h => h
  | k + 1, os, hk, h => by
    simp only [so.down]
    cases lt (gz os (k + 1)) (gz os k)
    · exact h
    · simp only [cond_true]
      exact In.down lt k _ (by rw [swap_length]; omega) (h.swap hk)
theorem In.srt {m : Nat} {lt : Int → Int → Bool} {l : List Int} (h : In m l) : ∀ i, i ≤ l.length → In m (so.srt lt l i)
  | 0, _ => h
  | i + 1, hi => by
    rw [so.srt]
    exact In.down lt i _ (by rw [srt_length]; omega) (In.srt h i (by omega))
end so

end Go.Proofs.Ytkoongajnnaeoaa.Ab
