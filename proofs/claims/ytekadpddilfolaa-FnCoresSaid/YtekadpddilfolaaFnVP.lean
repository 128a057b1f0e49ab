/-
  Votes, plainly: weights of sets, least winners, vetoes. Looking through numbers in order.
-/
import Derived.Test.YtekadpddilfolaaFnWU
namespace Go.Proofs.Ytekadpddilfolaa.Ab
open Go
set_option linter.unusedVariables false
set_option linter.unusedSimpArgs false
set_option maxRecDepth 100000

namespace fs
/-- The first number from i on, of d, for which P holds, or -1. -/
def fi.sv (P : Nat → Bool) : Nat → Nat → Int
  | 0, _ => -1
  | d + 1, i => bif P i then (i : Int) else fi.sv P d (i + 1)
def an.sp (P : Nat → Bool) : Nat → Nat → Bool
  | 0, _ => false
  | d + 1, i => P i || an.sp P d (i + 1)
theorem fi_an (P : Nat → Bool) : ∀ d i, decide (0 ≤ fi.sv P d i) = an.sp P d i
  | 0, i => by simp [fi.sv, an.sp]
  | d + 1, i => by
    rw [fi.sv, an.sp]
    cases h : P i with
    | true => rw [cond_true, Bool.true_or]; exact decide_eq_true (Int.natCast_nonneg _)
    | false => rw [cond_false, Bool.false_or, fi_an P d (i + 1)]
theorem an_iff {P : Nat → Bool} : ∀ {d i : Nat}, an.sp P d i = true ↔ ∃ j, i ≤ j ∧ j < i + d ∧ P j = true
  | 0, i => by
    simp only [an.sp, Bool.false_eq_true, false_iff]
    rintro ⟨j, h1, h2, _⟩; omega
  | d + 1, i => by
    rw [an.sp, Bool.or_eq_true, an_iff]
    constructor
    · rintro (h | ⟨j, h1, h2, h3⟩)
      · exact ⟨i, Nat.le_refl _, by omega, h⟩
      · exact ⟨j, by omega, by omega, h3⟩
    · rintro ⟨j, h1, h2, h3⟩
      by_cases e : j = i
      · subst e; exact .inl h3
      · exact .inr ⟨j, by omega, by omega, h3⟩
theorem an_false {P : Nat → Bool} {d i : Nat} (h : ∀ j, i ≤ j → j < i + d → P j = false) : an.sp P d i = false := by
  cases e : an.sp P d i with
  | false => rfl
  | true =>
    obtain ⟨j, h1, h2, h3⟩ := an_iff.1 e
    rw [h j h1 h2] at h3; cases h3
/-- Values of a function on the first n numbers. -/
def ls.sv (g : Nat → Int) : Nat → List Int
  | 0 => []
  | n + 1 => ls.sv g n ++ [g n]
theorem ls_length (g : Nat → Int) : ∀ n, (ls.sv g n).length = n
  | 0 => rfl
  | n + 1 => by rw [ls.sv, List.length_append, ls_length g n, List.length_singleton]
theorem ls_gz (g : Nat → Int) : ∀ {n k : Nat}, k < n → gz (ls.sv g n) k = g k
  | 0, k, h => by omega
  | n + 1, k, h => by
    rw [ls.sv]
    by_cases e : k = n
    · subst e
      have := gz_last (l := ls.sv g k) (x := g k)
      rwa [ls_length] at this
    · rw [gz_left (by rw [ls_length]; omega)]
      exact ls_gz g (by omega)
theorem ls_mem {g : Nat → Int} {n : Nat} {x : Int} (h : x ∈ ls.sv g n) : ∃ k, k < n ∧ x = g k := by
  obtain ⟨i, hi, rfl⟩ := List.getElem_of_mem h
  rw [ls_length] at hi
  exact ⟨i, hi, by rw [← gz_eq, ls_gz g hi]⟩
theorem ls_sp {g : Nat → Int} {p : Nat} (h1 : 1 ≤ p) (h6 : p ≤ 6) (h0 : g 0 = 0) (h : ∀ k, k < 2 ^ p → -10000 ≤ g k ∧ g k ≤ 10000) : wo.sp (p : Int) (ls.sv g (2 ^ p)) = true := by
  simp only [wo.sp, Bool.and_eq_true, decide_eq_true_eq, List.all_eq_true, Int.toNat_natCast, ls_length]
  refine ⟨by omega, trivial, ?_, fun x hx => ?_⟩
  · rw [ls_gz g (Nat.one_le_two_pow), h0]
  · obtain ⟨k, hk, rfl⟩ := ls_mem hx
    exact h k hk
end fs

namespace vo
theorem off_tb (k i : Nat) : wo.off.sp k i = !k.testBit i := by
  rw [wo.off.sp, Nat.testBit_eq_decide_div_mod_eq]
  rcases Nat.mod_two_eq_zero_or_one (k / 2 ^ i) with h | h <;> simp [h]
/-- A set without a player. -/
theorem off_dn : ∀ k < 64, ∀ j < 6, wo.off.sp k j = false → ∀ i < 6, wo.off.sp (k - 2 ^ j) i = (decide (i = j) || wo.off.sp k i) := by decide +kernel
theorem dn_lt {k j : Nat} (h : wo.off.sp k j = false) : k - 2 ^ j < k := by
  have hp := wo.pow_pos j
  have : 0 < k := by
    rcases Nat.eq_zero_or_pos k with e | e
    · subst e; simp [wo.off.sp] at h
    · exact e
  omega
theorem off_full : ∀ p < 7, ∀ i < p, wo.off.sp (2 ^ p - 1) i = false := by decide +kernel
theorem iandn : ∀ k < 64, ∀ i < 6, wo.off.sp k i = false → iandn.sv .i64 ((k : Nat) : Int) ((2 ^ i : Nat) : Int) = ((k - 2 ^ i : Nat) : Int) := by decide +kernel
theorem shr_t {k i : Nat} (hk : k < 64) (hi : i < 6) (h : wo.off.sp k i = true) : iand.sv .i64 (ishr.sv .i64 ((k : Nat) : Int) ((i : Nat) : Int)) 1 = 0 := by
  rw [wo.shr_and k hk i hi, h, cond_true]
theorem shr_f {k i : Nat} (hk : k < 64) (hi : i < 6) (h : wo.off.sp k i = false) : iand.sv .i64 (ishr.sv .i64 ((k : Nat) : Int) ((i : Nat) : Int)) 1 = 1 := by
  rw [wo.shr_and k hk i hi, h, cond_false]
/-- The sum of the weights of a set, of the first i players. -/
def wg.sv (xs : List Int) (k : Nat) : Nat → Int
  | 0 => 0
  | i + 1 => bif wo.off.sp k i then wg.sv xs k i else wg.sv xs k i + gz xs i
def w.sv (q : Int) (xs : List Int) (k : Nat) : Int := bif decide (q ≤ wg.sv xs k xs.length) then 1 else 0
/-- The greatest cost of a set. -/
def mx.sv (xs : List Int) (k : Nat) : Nat → Int
  | 0 => 0
  | i + 1 => bif wo.off.sp k i then mx.sv xs k i else (if mx.sv xs k i < gz xs i then gz xs i else mx.sv xs k i)
def m.sv (xs : List Int) (k : Nat) : Int := mx.sv xs k xs.length
theorem gz_pos {xs : List Int} {M : Int} (hM : 0 ≤ M) (h : ∀ x ∈ xs, 0 ≤ x ∧ x ≤ M) (i : Nat) : 0 ≤ gz xs i ∧ gz xs i ≤ M := by
  by_cases c : i < xs.length
  · exact h _ (gz_mem c)
  · rw [gz_out (by omega)]; omega
theorem wg_in {xs : List Int} (h : ∀ x ∈ xs, 0 ≤ x ∧ x ≤ 1000) (k : Nat) : ∀ i : Nat, 0 ≤ wg.sv xs k i ∧ wg.sv xs k i ≤ 1000 * (i : Int)
  | 0 => by simp [wg.sv]
  | i + 1 => by
    have h1 := wg_in h k i
    have h2 := gz_pos (by decide) h i
    rw [wg.sv]
    cases wo.off.sp k i
    · rw [cond_false]; omega
    · rw [cond_true]; omega
theorem mx_in {xs : List Int} (h : ∀ x ∈ xs, 0 ≤ x ∧ x ≤ 10000) (k : Nat) : ∀ i : Nat, 0 ≤ mx.sv xs k i ∧ mx.sv xs k i ≤ 10000
  | 0 => by simp [mx.sv]
  | i + 1 => by
    have h1 := mx_in h k i
    have h2 := gz_pos (by decide) h i
    rw [mx.sv]
    cases wo.off.sp k i
    · rw [cond_false]; split <;> omega
    · rw [cond_true]; omega
theorem w_in (q : Int) (xs : List Int) (k : Nat) : w.sv q xs k = 0 ∨ w.sv q xs k = 1 := by
  rw [w.sv]
  cases decide (q ≤ wg.sv xs k xs.length)
  · exact .inl rfl
  · exact .inr rfl
theorem w_one {q : Int} {xs : List Int} {k : Nat} : w.sv q xs k = 1 ↔ q ≤ wg.sv xs k xs.length := by
  rw [w.sv]
  by_cases h : q ≤ wg.sv xs k xs.length
  · simp [h]
  · simp [h]
theorem wg_zero (xs : List Int) : ∀ i, wg.sv xs 0 i = 0
  | 0 => rfl
  | i + 1 => by rw [wg.sv, wg_zero xs i]; simp [wo.off.sp]
theorem mx_zero (xs : List Int) : ∀ i, mx.sv xs 0 i = 0
  | 0 => rfl
  | i + 1 => by rw [mx.sv, mx_zero xs i]; simp [wo.off.sp]
/-- The sum of all. -/
def tot.sv (xs : List Int) : Nat → Int
  | 0 => 0
  | i + 1 => tot.sv xs i + gz xs i
theorem wg_full (xs : List Int) {p : Nat} (hp : p < 7) : ∀ i, i ≤ p → wg.sv xs (2 ^ p - 1) i = tot.sv xs i
  | 0, _ => rfl
  | i + 1, h => by rw [wg.sv, off_full p hp i (by omega), cond_false, wg_full xs hp i (by omega), tot.sv]
theorem wg_dn (xs : List Int) {k j : Nat} (hk : k < 64) (hj : j < 6) (h : wo.off.sp k j = false) : ∀ i, i ≤ 6 → wg.sv xs (k - 2 ^ j) i = wg.sv xs k i - (if j < i then gz xs j else 0)
  | 0, _ => by rw [if_neg (by omega)]; rfl
  | i + 1, hi => by
    rw [wg.sv, wg.sv, wg_dn xs hk hj h i (by omega), off_dn k hk j hj h i (by omega)]
    by_cases e : i = j
    · subst e
      rw [decide_eq_true rfl, Bool.true_or, h, cond_true, cond_false, if_neg (by omega), if_pos (by omega)]; omega
    · rw [decide_eq_false e, Bool.false_or]
      cases wo.off.sp k i
      · rw [cond_false, cond_false]
        by_cases c : j < i
        · rw [if_pos c, if_pos (by omega)]; omega
        · rw [if_neg c, if_neg (by omega)]; omega
      · rw [cond_true, cond_true]
        by_cases c : j < i
        · rw [if_pos c, if_pos (by omega)]
        · rw [if_neg c, if_neg (by omega)]
theorem wg_le {xs : List Int} (h : ∀ x ∈ xs, 0 ≤ x ∧ x ≤ 1000) {k j : Nat} (ho : wo.off.sp k j = true) : ∀ i, wg.sv xs k i ≤ tot.sv xs i - (if j < i then gz xs j else 0)
  | 0 => by rw [if_neg (by omega)]; exact Int.le_refl _
  | i + 1 => by
    have h1 := wg_le h ho i
    have h2 := gz_pos (by decide) h i
    have h3 := gz_pos (by decide) h j
    rw [wg.sv, tot.sv]
    by_cases e : i = j
    · subst e
      rw [ho, cond_true, if_pos (by omega)]
      rw [if_neg (by omega)] at h1
      omega
    · have e2 : (if j < i + 1 then gz xs j else 0) = (if j < i then gz xs j else 0) := by
        by_cases c : j < i
        · rw [if_pos c, if_pos (by omega)]
        · rw [if_neg c, if_neg (by omega)]
      rw [e2]
      cases wo.off.sp k i
      · rw [cond_false]; omega
      · rw [cond_true]; omega
theorem wg_tot {xs : List Int} (h : ∀ x ∈ xs, 0 ≤ x ∧ x ≤ 1000) (k : Nat) : ∀ i, wg.sv xs k i ≤ tot.sv xs i
  | 0 => Int.le_refl _
  | i + 1 => by
    have h1 := wg_tot h k i
    have h2 := gz_pos (by decide) h i
    rw [wg.sv, tot.sv]
    cases wo.off.sp k i
    · rw [cond_false]; omega
    · rw [cond_true]; omega
/-- A least winner. -/
def le.sp (ws : List Int) (k i : Nat) : Bool := !wo.off.sp k i && (gz ws (k - 2 ^ i) == 1)
def win.sp (p : Nat) (ws : List Int) (k : Nat) : Bool := (gz ws k == 1) && !fs.an.sp (le.sp ws k) p 0
def lw.sv (p : Nat) (ws : List Int) : Nat → List Int
  | 0 => []
  | k + 1 => bif win.sp p ws k then lw.sv p ws k ++ [(k : Int)] else lw.sv p ws k
theorem lw_length (p : Nat) (ws : List Int) : ∀ k, (lw.sv p ws k).length ≤ k
  | 0 => Nat.le_refl _
  | k + 1 => by
    have := lw_length p ws k
    rw [lw.sv]
    cases win.sp p ws k
    · rw [cond_false]; omega
    · rw [cond_true, List.length_append, List.length_singleton]; omega
theorem lw_mem {p : Nat} {ws : List Int} : ∀ {n : Nat} {x : Int}, x ∈ lw.sv p ws n → ∃ k : Nat, k < n ∧ x = k ∧ win.sp p ws k = true
  | 0, x, h => by cases h
  | n + 1, x, h => by
    rw [lw.sv] at h
    cases e : win.sp p ws n with
    | false =>
      rw [e, cond_false] at h
      obtain ⟨k, h1, h2, h3⟩ := lw_mem h
      exact ⟨k, by omega, h2, h3⟩
    | true =>
      rw [e, cond_true, List.mem_append, List.mem_singleton] at h
      rcases h with h | h
      · obtain ⟨k, h1, h2, h3⟩ := lw_mem h
        exact ⟨k, by omega, h2, h3⟩
      · exact ⟨n, by omega, h, e⟩
theorem lw_gz {p : Nat} {ws : List Int} {n i : Nat} (h : i < (lw.sv p ws n).length) : ∃ k : Nat, k < n ∧ gz (lw.sv p ws n) i = k ∧ win.sp p ws k = true := by
  exact lw_mem (gz_mem h)
theorem lw_rise {p : Nat} {ws : List Int} : ∀ {n i : Nat}, i + 1 < (lw.sv p ws n).length → gz (lw.sv p ws n) i < gz (lw.sv p ws n) (i + 1)
  | 0, i, h => by simp [lw.sv] at h
  | n + 1, i, h => by
    rw [lw.sv] at h ⊢
    cases e : win.sp p ws n with
    | false =>
      rw [e, cond_false] at h
      rw [cond_false]
      exact lw_rise h
    | true =>
      rw [e, cond_true, List.length_append, List.length_singleton] at h
      rw [cond_true]
      by_cases c : i + 1 < (lw.sv p ws n).length
      · rw [gz_left (by omega), gz_left c]; exact lw_rise c
      · have hi : i + 1 = (lw.sv p ws n).length := by omega
        rw [gz_left (by omega), hi, gz_last]
        obtain ⟨k, h1, h2, _⟩ := lw_gz (p := p) (ws := ws) (n := n) (i := i) (by omega)
        rw [h2]; omega
theorem lw_has {p : Nat} {ws : List Int} : ∀ {n k : Nat}, k < n → win.sp p ws k = true → (k : Int) ∈ lw.sv p ws n
  | 0, k, h, _ => by omega
  | n + 1, k, h, hw => by
    rw [lw.sv]
    by_cases e : k = n
    · subst e
      rw [hw, cond_true]; simp
    · have := lw_has (p := p) (ws := ws) (n := n) (k := k) (by omega) hw
      cases win.sp p ws n
      · rw [cond_false]; exact this
      · rw [cond_true]; exact List.mem_append_left _ this
theorem win_ex {p : Nat} {ws : List Int} : ∀ (n k : Nat), k < n → gz ws k = 1 → ∃ m, m ≤ k ∧ win.sp p ws m = true
  | 0, k, h, _ => by omega
  | n + 1, k, h, hw => by
    cases e : fs.an.sp (le.sp ws k) p 0 with
    | false => exact ⟨k, Nat.le_refl _, by rw [win.sp, e, hw]; rfl⟩
    | true =>
      obtain ⟨j, _, _, h3⟩ := fs.an_iff.1 e
      simp only [le.sp, Bool.and_eq_true, Bool.not_eq_true', beq_iff_eq] at h3
      have hl := dn_lt h3.1
      obtain ⟨m, m1, m2⟩ := win_ex n (k - 2 ^ j) (by omega) h3.2
      exact ⟨m, by omega, m2⟩
/-- Who is in all winning sets. -/
def bt.sv (ws : List Int) (a : Nat) : Nat → Nat
  | 0 => a
  | k + 1 => bif gz ws k == 1 then bt.sv ws a k &&& k else bt.sv ws a k
theorem bt_le (ws : List Int) (a : Nat) : ∀ k, bt.sv ws a k ≤ a
  | 0 => Nat.le_refl _
  | k + 1 => by
    have := bt_le ws a k
    rw [bt.sv]
    cases gz ws k == 1
    · exact this
    · exact Nat.le_trans Nat.and_le_left this
theorem iand_nat : ∀ a < 64, ∀ b < 64, iand.sv .i64 ((a : Nat) : Int) ((b : Nat) : Int) = ((a &&& b : Nat) : Int) := by decide +kernel
theorem off_and (a b i : Nat) : wo.off.sp (a &&& b) i = (wo.off.sp a i || wo.off.sp b i) := by
  rw [off_tb, off_tb, off_tb, Nat.testBit_and]
  cases a.testBit i <;> cases b.testBit i <;> rfl
theorem bt_off (ws : List Int) (a i : Nat) : ∀ n, wo.off.sp (bt.sv ws a n) i = true ↔ wo.off.sp a i = true ∨ ∃ k, k < n ∧ gz ws k = 1 ∧ wo.off.sp k i = true
  | 0 => by
    rw [bt.sv]
    constructor
    · exact .inl
    · rintro (h | ⟨k, h, _⟩)
      · exact h
      · omega
  | n + 1 => by
    have ih := bt_off ws a i n
    rw [bt.sv]
    by_cases e : gz ws n = 1
    · have e2 : (gz ws n == 1) = true := by rw [e]; rfl
      rw [e2, cond_true, off_and, Bool.or_eq_true, ih]
      constructor
      · rintro ((h | ⟨k, h1, h2⟩) | h)
        · exact .inl h
        · exact .inr ⟨k, by omega, h2⟩
        · exact .inr ⟨n, by omega, e, h⟩
      · rintro (h | ⟨k, h1, h2, h3⟩)
        · exact .inl (.inl h)
        · by_cases c : k = n
          · subst c; exact .inr h3
          · exact .inl (.inr ⟨k, by omega, h2, h3⟩)
    · have e2 : (gz ws n == 1) = false := by simp [e]
      rw [e2, cond_false, ih]
      constructor
      · rintro (h | ⟨k, h1, h2⟩)
        · exact .inl h
        · exact .inr ⟨k, by omega, h2⟩
      · rintro (h | ⟨k, h1, h2, h3⟩)
        · exact .inl h
        · by_cases c : k = n
          · subst c; exact absurd h2 e
          · exact .inr ⟨k, by omega, h2, h3⟩
/-- The players of a set. -/
def vt.sv (b : Nat) : Nat → List Int
  | 0 => []
  | i + 1 => bif wo.off.sp b i then vt.sv b i else vt.sv b i ++ [(i : Int)]
theorem vt_length (b : Nat) : ∀ i, (vt.sv b i).length ≤ i
  | 0 => Nat.le_refl _
  | i + 1 => by
    have := vt_length b i
    rw [vt.sv]
    cases wo.off.sp b i
    · rw [cond_false, List.length_append, List.length_singleton]; omega
    · rw [cond_true]; omega
theorem vt_mem {b : Nat} : ∀ {n : Nat} {x : Int}, x ∈ vt.sv b n ↔ ∃ i : Nat, i < n ∧ x = i ∧ wo.off.sp b i = false
  | 0, x => by
    simp only [vt.sv, List.not_mem_nil, false_iff]
    rintro ⟨i, h, _⟩; omega
  | n + 1, x => by
    have ih := vt_mem (b := b) (n := n) (x := x)
    rw [vt.sv]
    cases e : wo.off.sp b n with
    | true =>
      rw [cond_true, ih]
      constructor
      · rintro ⟨i, h1, h2⟩; exact ⟨i, by omega, h2⟩
      · rintro ⟨i, h1, h2, h3⟩
        by_cases c : i = n
        · subst c; rw [e] at h3; cases h3
        · exact ⟨i, by omega, h2, h3⟩
    | false =>
      rw [cond_false, List.mem_append, List.mem_singleton, ih]
      constructor
      · rintro (⟨i, h1, h2⟩ | h)
        · exact ⟨i, by omega, h2⟩
        · exact ⟨n, by omega, h, e⟩
      · rintro ⟨i, h1, h2, h3⟩
        by_cases c : i = n
        · subst c; exact .inr h2
        · exact .inl ⟨i, by omega, h2, h3⟩
/-- Is a number among the first? -/
def th.sp (vs : List Int) (x : Int) : Nat → Bool
  | 0 => false
  | k + 1 => th.sp vs x k || (gz vs k == x)
theorem th_iff {vs : List Int} {x : Int} : ∀ {n : Nat}, n ≤ vs.length → (th.sp vs x n = true ↔ ∃ k, k < n ∧ gz vs k = x)
  | 0, _ => by
    simp only [th.sp, Bool.false_eq_true, false_iff]
    rintro ⟨k, h, _⟩; omega
  | n + 1, h => by
    rw [th.sp, Bool.or_eq_true, beq_iff_eq, th_iff (by omega)]
    constructor
    · rintro (⟨k, h1, h2⟩ | h1)
      · exact ⟨k, by omega, h2⟩
      · exact ⟨n, by omega, h1⟩
    · rintro ⟨k, h1, h2⟩
      by_cases c : k = n
      · subst c; exact .inr h2
      · exact .inl ⟨k, by omega, h2⟩
theorem th_mem {vs : List Int} {x : Int} : th.sp vs x vs.length = decide (x ∈ vs) := by
  rw [Bool.eq_iff_iff, th_iff (Nat.le_refl _), decide_eq_true_eq]
  constructor
  · rintro ⟨k, h1, rfl⟩; exact gz_mem h1
  · intro h
    obtain ⟨i, hi, rfl⟩ := List.getElem_of_mem h
    exact ⟨i, hi, gz_eq hi⟩
/-- The least weight of a set, or all. -/
def lt.sv (all : Int) (xs : List Int) (k : Nat) : Nat → Int
  | 0 => all
  | i + 1 => bif wo.off.sp k i then lt.sv all xs k i else (if gz xs i < lt.sv all xs k i then gz xs i else lt.sv all xs k i)
theorem lt_or (all : Int) (xs : List Int) (k : Nat) : ∀ i, lt.sv all xs k i = all ∨ ∃ j, j < i ∧ wo.off.sp k j = false ∧ lt.sv all xs k i = gz xs j
  | 0 => .inl rfl
  | i + 1 => by
    have ih := lt_or all xs k i
    rw [lt.sv]
    cases e : wo.off.sp k i with
    | true =>
      rw [cond_true]
      rcases ih with h | ⟨j, h1, h2⟩
      · exact .inl h
      · exact .inr ⟨j, by omega, h2⟩
    | false =>
      rw [cond_false]
      by_cases c : lt.sv all xs k i ≤ gz xs i
      · rw [if_neg (by omega)]
        rcases ih with h | ⟨j, h1, h2⟩
        · exact .inl h
        · exact .inr ⟨j, by omega, h2⟩
      · rw [if_pos (by omega)]
        exact .inr ⟨i, by omega, e, rfl⟩
theorem lt_in {all : Int} {xs : List Int} (h : ∀ x ∈ xs, 0 ≤ x ∧ x ≤ 1000) (ha : 0 ≤ all ∧ all ≤ 6000) (k i : Nat) : 0 ≤ lt.sv all xs k i ∧ lt.sv all xs k i ≤ 6000 := by
  rcases lt_or all xs k i with e | ⟨j, _, _, e⟩
  · rw [e]; exact ha
  · have := gz_pos (by decide) h j
    rw [e]; omega
/-- Least winners win, and no less does. -/
theorem least {p : Nat} {q : Int} {xs ws : List Int} (hp : 1 ≤ p ∧ p ≤ 6) (hl : xs.length = p) (hx : ∀ x ∈ xs, 0 ≤ x ∧ x ≤ 1000) (hq : 1 ≤ q) (hw : ws = fs.ls.sv (w.sv q xs) (2 ^ p)) {k : Nat} (hk : k < 2 ^ p) (h : win.sp p ws k = true) :
    q ≤ wg.sv xs k p ∧ wg.sv xs k p - lt.sv (tot.sv xs p) xs k p < q := by
  have h64 := wo.pow_le hp.2
  simp only [win.sp, Bool.and_eq_true, beq_iff_eq, Bool.not_eq_true'] at h
  obtain ⟨h1, h2⟩ := h
  rw [hw, fs.ls_gz _ hk, w_one, hl] at h1
  refine ⟨h1, ?_⟩
  rcases lt_or (tot.sv xs p) xs k p with e | ⟨j, j1, j2, e⟩
  · rw [e]
    have := wg_tot hx k p
    omega
  · rw [e]
    have h3 := wg_dn xs (k := k) (j := j) (by omega) (by omega) j2 p (by omega)
    rw [if_pos j1] at h3
    rw [← h3]
    by_cases c : q ≤ wg.sv xs (k - 2 ^ j) p
    · exfalso
      have : le.sp ws k j = true := by
        have := dn_lt j2
        rw [le.sp, j2, hw, fs.ls_gz _ (by omega), w_one.2 (by rw [hl]; exact c)]; rfl
      have ex := fs.an_iff (P := le.sp ws k) (d := p) (i := 0) |>.2 ⟨j, by omega, by omega, this⟩
      rw [h2] at ex; cases ex
    · omega
/-- Some set wins least of all. -/
theorem least_ex {p : Nat} {q : Int} {xs ws : List Int} (hp : 1 ≤ p ∧ p ≤ 6) (hl : xs.length = p) (hq : q ≤ tot.sv xs p) (hw : ws = fs.ls.sv (w.sv q xs) (2 ^ p)) : 1 ≤ (lw.sv p ws (2 ^ p)).length := by
  have hpp := wo.pow_pos p
  have h1 : gz ws (2 ^ p - 1) = 1 := by
    rw [hw, fs.ls_gz _ (by omega), w_one, hl, wg_full xs (by omega) p (Nat.le_refl _)]; exact hq
  obtain ⟨m, m1, m2⟩ := win_ex (p := p) (2 ^ p) (2 ^ p - 1) (by omega) h1
  have := lw_has (n := 2 ^ p) (by omega) m2
  exact List.length_pos_of_mem this
theorem win_one {p : Nat} {ws : List Int} {k : Nat} (h : win.sp p ws k = true) : gz ws k = 1 := by
  simp only [win.sp, Bool.and_eq_true, beq_iff_eq] at h
  exact h.1
/-- Those with a veto are in all that win. -/
theorem veto_in {p : Nat} {ws : List Int} {k i : Nat} {a : Nat} (hk : k < 2 ^ p) (h : gz ws k = 1) (hb : wo.off.sp (bt.sv ws a (2 ^ p)) i = false) : wo.off.sp k i = false := by
  cases e : wo.off.sp k i with
  | false => rfl
  | true => rw [(bt_off ws a i (2 ^ p)).2 (.inr ⟨k, hk, h, e⟩)] at hb; cases hb
theorem veto {p : Nat} {q : Int} {xs ws : List Int} (hp : 1 ≤ p ∧ p ≤ 6) (hl : xs.length = p) (hx : ∀ x ∈ xs, 0 ≤ x ∧ x ≤ 1000) (hw : ws = fs.ls.sv (w.sv q xs) (2 ^ p)) {j : Nat} (hj : j < p) :
    wo.off.sp (bt.sv ws (2 ^ p - 1) (2 ^ p)) j = !decide (tot.sv xs p - gz xs j < q) := by
  have h64 := wo.pow_le hp.2
  have hpp := wo.pow_pos p
  have hf := off_full p (by omega) j hj
  rw [Bool.eq_iff_iff, bt_off, hf, Bool.not_eq_true', decide_eq_false_iff_not]
  constructor
  · rintro (h | ⟨k, h1, h2, h3⟩)
    · cases h
    · rw [hw, fs.ls_gz _ h1, w_one, hl] at h2
      have := wg_le hx h3 p
      rw [if_pos hj] at this
      omega
  · intro h
    have hd : 2 ^ p - 1 - 2 ^ j < 2 ^ p := Nat.lt_of_le_of_lt (Nat.sub_le _ _) (by omega)
    refine .inr ⟨2 ^ p - 1 - 2 ^ j, hd, ?_, ?_⟩
    · rw [hw, fs.ls_gz _ hd, w_one, hl, wg_dn xs (by omega) (by omega) hf p (by omega), if_pos hj, wg_full xs (by omega) p (Nat.le_refl _)]
      omega
    · rw [off_dn _ (by omega) j (by omega) hf j (by omega), decide_eq_true rfl]; rfl
theorem ss_tot (xs : List Int) : ∀ i, wo.ss.sv xs i = tot.sv xs i
  | 0 => rfl
  | i + 1 => by rw [wo.ss.sv, tot.sv, ss_tot xs i]
/-- Weights that are drawn. -/
def wx.sv (xs : List Int) (k : Nat) : Int := bif decide (k = 0) then wo.at.sv xs k 6 + 1 else wo.at.sv xs k 6
theorem wx_in {xs : List Int} (h : r8.bytes.sp xs = true) (k : Nat) : 0 ≤ wx.sv xs k ∧ wx.sv xs k ≤ 6 := by
  have := wo.at_in h k (n := 6) (by omega)
  unfold wx.sv
  cases decide (k = 0)
  · rw [cond_false]; omega
  · rw [cond_true]; omega
theorem wx_zero {xs : List Int} (h : r8.bytes.sp xs = true) : 1 ≤ wx.sv xs 0 := by
  have := wo.at_in h 0 (n := 6) (by omega)
  rw [wx.sv, decide_eq_true rfl, cond_true]; omega
def sg.sv (g : Nat → Int) : Nat → Int
  | 0 => 0
  | k + 1 => sg.sv g k + g k
theorem tot_ls (g : Nat → Int) (n : Nat) : ∀ k, k ≤ n → tot.sv (fs.ls.sv g n) k = sg.sv g k
  | 0, _ => rfl
  | k + 1, h => by rw [tot.sv, tot_ls g n k (by omega), fs.ls_gz g (by omega), sg.sv]
theorem sg_in {xs : List Int} (h : r8.bytes.sp xs = true) : ∀ k : Nat, 0 ≤ sg.sv (wx.sv xs) k ∧ sg.sv (wx.sv xs) k ≤ 6 * (k : Int) ∧ (1 ≤ k → 1 ≤ sg.sv (wx.sv xs) k)
  | 0 => by refine ⟨?_, ?_, fun h => by omega⟩ <;> simp [sg.sv]
  | k + 1 => by
    have h1 := sg_in h k
    have h2 := wx_in h k
    have h3 := wx_zero h
    rw [sg.sv]
    refine ⟨by omega, by omega, fun _ => ?_⟩
    by_cases e : k = 0
    · subst e; rw [sg.sv]; omega
    · have := h1.2.2 (by omega); omega
/-- All that the law speaks of. -/
structure Ctx (p : Nat) (qu : Int) (wt ws ls vs : List Int) : Prop where
  p1 : 1 ≤ p
  p5 : p ≤ 5
  lw : wt.length = p
  rw_ : ∀ x ∈ wt, 0 ≤ x ∧ x ≤ 1000
  q1 : 1 ≤ qu
  qa : qu ≤ tot.sv wt p
  hws : ws = fs.ls.sv (w.sv qu wt) (2 ^ p)
  hls : ls = vo.lw.sv p ws (2 ^ p)
  hvs : vs = vt.sv (bt.sv ws (2 ^ p - 1) (2 ^ p)) p
theorem Ctx.win {p : Nat} {qu : Int} {wt ws ls vs : List Int} (C : Ctx p qu wt ws ls vs) {i : Nat} (hi : i < ls.length) : ∃ s : Nat, s < 2 ^ p ∧ gz ls i = s ∧ win.sp p ws s = true := by
  have h := C.hls
  subst h
  exact lw_gz hi
theorem Ctx.least {p : Nat} {qu : Int} {wt ws ls vs : List Int} (C : Ctx p qu wt ws ls vs) {s : Nat} (hs : s < 2 ^ p) (hw : win.sp p ws s = true) : qu ≤ wg.sv wt s p ∧ wg.sv wt s p - lt.sv (tot.sv wt p) wt s p < qu :=
  vo.least ⟨C.p1, by have := C.p5; omega⟩ C.lw C.rw_ C.q1 C.hws hs hw
theorem Ctx.rise {p : Nat} {qu : Int} {wt ws ls vs : List Int} (C : Ctx p qu wt ws ls vs) {i : Nat} (hi : i + 1 < ls.length) : gz ls i < gz ls (i + 1) := by
  have h := C.hls
  subst h
  exact lw_rise hi
theorem Ctx.veto {p : Nat} {qu : Int} {wt ws ls vs : List Int} (C : Ctx p qu wt ws ls vs) {k : Nat} (hk : k < vs.length) : ∃ j : Nat, gz vs k = j ∧ j < p ∧ ∀ s, s < 2 ^ p → win.sp p ws s = true → wo.off.sp s j = false := by
  have h := C.hvs
  have hm := gz_mem hk
  rw [h] at hm
  obtain ⟨j, j1, j2, j3⟩ := vt_mem.1 hm
  rw [← h] at j2
  exact ⟨j, j2, j1, fun s hs hw => veto_in hs (win_one hw) j3⟩
theorem Ctx.there {p : Nat} {qu : Int} {wt ws ls vs : List Int} (C : Ctx p qu wt ws ls vs) {k : Nat} (hk : k < p) : th.sp vs (k : Int) vs.length = decide (tot.sv wt p - gz wt k < qu) := by
  have hv := vo.veto ⟨C.p1, by have := C.p5; omega⟩ C.lw C.rw_ C.hws (j := k) hk
  rw [th_mem, Bool.eq_iff_iff, decide_eq_true_eq, decide_eq_true_eq, C.hvs, vt_mem]
  constructor
  · rintro ⟨i, h1, h2, h3⟩
    obtain rfl : k = i := by omega
    rw [h3] at hv
    simpa using hv.symm
  · intro h
    refine ⟨k, hk, rfl, ?_⟩
    rw [hv, decide_eq_true h]; rfl
theorem Ctx.tot {p : Nat} {qu : Int} {wt ws ls vs : List Int} (C : Ctx p qu wt ws ls vs) : 0 ≤ tot.sv wt p ∧ tot.sv wt p ≤ 5000 := by
  have main : ∀ k : Nat, 0 ≤ tot.sv wt k ∧ tot.sv wt k ≤ 1000 * (k : Int) := by
    intro k
    induction k with
    | zero => simp [tot.sv]
    | succ k ih =>
      have := gz_pos (by decide) C.rw_ k
      rw [tot.sv]; omega
  have := main p
  have := C.p5
  omega
end vo

end Go.Proofs.Ytekadpddilfolaa.Ab
