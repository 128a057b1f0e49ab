/-
  Worths of sets, plainly: bits, sums over sets, shares of all orders.
-/
import Derived.Test.YtekadpddilfolaaFnAU
namespace Go.Proofs.Ytekadpddilfolaa.Ab
open Go
set_option linter.unusedVariables false
set_option linter.unusedSimpArgs false
set_option maxRecDepth 100000

namespace wo
def fac.sv : Nat → Int
  | 0 => 1
  | n + 1 => fac.sv n * ((n : Int) + 1)
theorem fac_in : ∀ n, n < 8 → 1 ≤ fac.sv n ∧ fac.sv n ≤ 5040 := by decide +kernel
/-- How many players a set has. -/
def cnt.sv (k : Nat) : Nat := (((((k % 2 + k / 2 % 2) + k / 4 % 2) + k / 8 % 2) + k / 16 % 2) + k / 32 % 2)
theorem cnt_le (k : Nat) : cnt.sv k ≤ 6 := by unfold cnt.sv; omega
/-- A set is without a player. -/
def off.sp (k i : Nat) : Bool := decide (k / 2 ^ i % 2 = 0)
/-- A set with a player. -/
def up.sv (k i : Nat) : Nat := k ||| 2 ^ i
theorem up_lt {p k i : Nat} (hk : k < 2 ^ p) (hi : i < p) : up.sv k i < 2 ^ p :=
  Nat.or_lt_two_pow hk (Nat.pow_lt_pow_right (by omega) hi)
theorem pow_le {p : Nat} (h : p ≤ 6) : 2 ^ p ≤ 64 := Nat.pow_le_pow_right (by omega) h
theorem pow_pos (p : Nat) : 1 ≤ 2 ^ p := Nat.one_le_two_pow
theorem off_add : ∀ k < 64, ∀ i < 6, off.sp k i = true → k + 2 ^ i = up.sv k i := by decide +kernel
theorem cnt_lt : ∀ p < 7, ∀ k < 2 ^ p, ∀ i < p, off.sp k i = true → cnt.sv k < p := by decide +kernel
theorem shr_and : ∀ k < 64, ∀ i < 6, iand.sv .i64 (ishr.sv .i64 ((k : Nat) : Int) ((i : Nat) : Int)) 1 = bif off.sp k i then 0 else 1 := by decide +kernel
theorem u64_nat : ∀ i < 64, IntKind.u64.wrap ((i : Nat) : Int) = ((i : Nat) : Int) := by decide +kernel
theorem shl_one : ∀ i < 7, ishl.sv .i64 1 ((i : Nat) : Int) = ((2 ^ i : Nat) : Int) := by decide +kernel
theorem or_shl : ∀ k < 64, ∀ i < 6, ior.sv .i64 ((k : Nat) : Int) ((2 ^ i : Nat) : Int) = ((up.sv k i : Nat) : Int) := by decide +kernel
/-- How much more a set is worth with a player. -/
def mo.sv (ws : List Int) (k i : Nat) : Int := gz ws (up.sv k i) - gz ws k
def sh.sv (p : Nat) (ws : List Int) (i : Nat) : Nat → Int
  | 0 => 0
  | k + 1 => bif off.sp k i then sh.sv p ws i k + fac.sv (cnt.sv k) * fac.sv (p - 1 - cnt.sv k) * mo.sv ws k i else sh.sv p ws i k
def sw.sv (ws : List Int) (i : Nat) : Nat → Int
  | 0 => 0
  | k + 1 => bif off.sp k i then sw.sv ws i k + mo.sv ws k i else sw.sv ws i k
def nu.sp (ws : List Int) (i : Nat) : Nat → Bool
  | 0 => true
  | k + 1 => bif off.sp k i then nu.sp ws i k && (mo.sv ws k i == 0) else nu.sp ws i k
def al.sp (ws : List Int) (i j : Nat) : Nat → Bool
  | 0 => true
  | k + 1 => bif off.sp k i then (bif off.sp k j then al.sp ws i j k && (mo.sv ws k i == mo.sv ws k j) else al.sp ws i j k) else al.sp ws i j k
/-- Valid worths. -/
def sp (p : Int) (ws : List Int) : Bool := decide (1 ≤ p ∧ p ≤ 6) && (decide (ws.length = 2 ^ p.toNat) && (decide (gz ws 0 = 0) && ws.all fun x => decide (-10000 ≤ x) && decide (x ≤ 10000)))
theorem valid {p : Int} {ws : List Int} (h : sp p ws = true) : ∃ q : Nat, p = q ∧ (1 ≤ q ∧ q ≤ 6) ∧ ws.length = 2 ^ q ∧ gz ws 0 = 0 ∧ ∀ x ∈ ws, -10000 ≤ x ∧ x ≤ 10000 := by
  simp only [sp, Bool.and_eq_true, decide_eq_true_eq, List.all_eq_true] at h
  obtain ⟨h1, h2, h3, h4⟩ := h
  obtain ⟨q, rfl⟩ : ∃ q : Nat, p = q := ⟨p.toNat, by omega⟩
  rw [Int.toNat_natCast] at h2
  exact ⟨q, rfl, by omega, h2, h3, h4⟩
theorem gz_in {ws : List Int} (v : ∀ x ∈ ws, -10000 ≤ x ∧ x ≤ 10000) (k : Nat) : -10000 ≤ gz ws k ∧ gz ws k ≤ 10000 := by
  by_cases h : k < ws.length
  · exact v _ (gz_mem h)
  · rw [gz_out (by omega)]; omega
theorem mo_in {ws : List Int} (v : ∀ x ∈ ws, -10000 ≤ x ∧ x ≤ 10000) (k i : Nat) : -20000 ≤ mo.sv ws k i ∧ mo.sv ws k i ≤ 20000 := by
  have h1 := gz_in v (up.sv k i)
  have h2 := gz_in v k
  unfold mo.sv; omega
theorem mul_in {a b A B : Int} (h1 : 0 ≤ a) (h2 : a ≤ A) (h3 : -B ≤ b) (h4 : b ≤ B) (hB : 0 ≤ B) : -(A * B) ≤ a * b ∧ a * b ≤ A * B := by
  constructor
  · have e1 : a * (-B) ≤ a * b := Int.mul_le_mul_of_nonneg_left h3 h1
    have e2 : a * B ≤ A * B := Int.mul_le_mul_of_nonneg_right h2 hB
    rw [Int.mul_neg] at e1; omega
  · have e1 : a * b ≤ a * B := Int.mul_le_mul_of_nonneg_left h4 h1
    have e2 : a * B ≤ A * B := Int.mul_le_mul_of_nonneg_right h2 hB
    omega
theorem coef_in {p k : Nat} (hp : p ≤ 6) : 0 ≤ fac.sv (cnt.sv k) * fac.sv (p - 1 - cnt.sv k) ∧ fac.sv (cnt.sv k) * fac.sv (p - 1 - cnt.sv k) ≤ 25401600 := by
  have h1 := fac_in (cnt.sv k) (by have := cnt_le k; omega)
  have h2 := fac_in (p - 1 - cnt.sv k) (by omega)
  have := mul_in (a := fac.sv (cnt.sv k)) (b := fac.sv (p - 1 - cnt.sv k)) (A := 5040) (B := 5040) (by omega) h1.2 (by omega) h2.2 (by omega)
  have h3 : 0 ≤ fac.sv (cnt.sv k) * fac.sv (p - 1 - cnt.sv k) := Int.mul_nonneg (by omega) (by omega)
  omega
theorem term_in {ws : List Int} (v : ∀ x ∈ ws, -10000 ≤ x ∧ x ≤ 10000) {p k i : Nat} (hp : p ≤ 6) : -508032000000 ≤ fac.sv (cnt.sv k) * fac.sv (p - 1 - cnt.sv k) * mo.sv ws k i ∧ fac.sv (cnt.sv k) * fac.sv (p - 1 - cnt.sv k) * mo.sv ws k i ≤ 508032000000 := by
  have h1 := coef_in (p := p) (k := k) hp
  have h2 := mo_in v k i
  exact mul_in h1.1 h1.2 h2.1 h2.2 (by omega)
theorem sh_in {ws : List Int} (v : ∀ x ∈ ws, -10000 ≤ x ∧ x ≤ 10000) {p : Nat} (hp : p ≤ 6) (i : Nat) : ∀ k : Nat, -508032000000 * (k : Int) ≤ sh.sv p ws i k ∧ sh.sv p ws i k ≤ 508032000000 * (k : Int)
  | 0 => by simp only [sh.sv]; omega
  | k + 1 => by
    have h := sh_in v hp i k
    have t := term_in v (p := p) (k := k) (i := i) hp
    simp only [sh.sv]
    cases off.sp k i
    · rw [cond_false]; omega
    · rw [cond_true]; omega
theorem sw_in {ws : List Int} (v : ∀ x ∈ ws, -10000 ≤ x ∧ x ≤ 10000) (i : Nat) : ∀ k : Nat, -20000 * (k : Int) ≤ sw.sv ws i k ∧ sw.sv ws i k ≤ 20000 * (k : Int)
  | 0 => by simp only [sw.sv]; omega
  | k + 1 => by
    have h := sw_in v i k
    have t := mo_in v k i
    simp only [sw.sv]
    cases off.sp k i
    · rw [cond_false]; omega
    · rw [cond_true]; omega
-- who brings nothing
theorem nu_sh {p : Nat} {ws : List Int} {i : Nat} : ∀ {k : Nat}, nu.sp ws i k = true → sh.sv p ws i k = 0 ∧ sw.sv ws i k = 0
  | 0, _ => by simp only [sh.sv, sw.sv, and_self]
  | k + 1, h => by
    simp only [nu.sp, sh.sv, sw.sv] at h ⊢
    cases hb : off.sp k i
    · rw [hb, cond_false] at h
      simpa only [cond_false] using nu_sh (p := p) h
    · rw [hb, cond_true, Bool.and_eq_true, beq_iff_eq] at h
      have := nu_sh (p := p) h.1
      simp only [cond_true, h.2, this, Int.mul_zero, Int.add_zero, and_self]
-- sums
def add.sv (ws vs : List Int) : Nat → List Int
  | 0 => []
  | k + 1 => add.sv ws vs k ++ [gz ws k + gz vs k]
theorem add_length (ws vs : List Int) : ∀ k, (add.sv ws vs k).length = k
  | 0 => rfl
  | k + 1 => by rw [add.sv, List.length_append, add_length ws vs k]; rfl
theorem add_gz (ws vs : List Int) : ∀ k j, j < k → gz (add.sv ws vs k) j = gz ws j + gz vs j
  | 0, j, h => by omega
  | k + 1, j, h => by
    rw [add.sv]
    by_cases e : j < k
    · rw [gz_left (by rw [add_length]; exact e), add_gz ws vs k j e]
    · obtain rfl : j = k := by omega
      have := gz_last (l := add.sv ws vs j) (x := gz ws j + gz vs j)
      rw [add_length] at this
      exact this
theorem sh_add {p : Nat} (hp : p ≤ 6) (ws vs : List Int) {i : Nat} (hi : i < p) : ∀ k, k ≤ 2 ^ p → sh.sv p (add.sv ws vs (2 ^ p)) i k = sh.sv p ws i k + sh.sv p vs i k
  | 0, _ => by simp only [sh.sv]; rfl
  | k + 1, h => by
    have e := sh_add hp ws vs hi k (by omega)
    have hu := up_lt (show k < 2 ^ p by omega) hi
    simp only [sh.sv, mo.sv, add_gz ws vs (2 ^ p) _ hu, add_gz ws vs (2 ^ p) k (by omega), e]
    cases off.sp k i
    · rfl
    · simp only [cond_true]
      rw [show gz ws (up.sv k i) + gz vs (up.sv k i) - (gz ws k + gz vs k) = (gz ws (up.sv k i) - gz ws k) + (gz vs (up.sv k i) - gz vs k) by omega, Int.mul_add]
      omega
theorem fac5 : fac.sv 0 = 1 ∧ fac.sv 1 = 1 ∧ fac.sv 2 = 2 ∧ fac.sv 3 = 6 ∧ fac.sv 4 = 24 ∧ fac.sv 5 = 120 := by decide +kernel
def tot.sv (p : Nat) (ws : List Int) (n : Nat) : Nat → Int
  | 0 => 0
  | i + 1 => tot.sv p ws n i + sh.sv p ws i n
theorem set_zero {os : List Int} {i : Nat} (h : gz os i = 0) : os.set i 0 = os := by
  by_cases hi : i < os.length
  · rw [gz_eq hi] at h
    exact List.ext_getElem (by simp) fun j h1 h2 => by
      rw [List.getElem_set]
      split
      · rename_i e; subst e; exact h.symm
      · rfl
  · exact List.set_eq_of_length_le (by omega)
-- all sums, written out
theorem tot_all {ws : List Int} (h0 : gz ws 0 = 0) : ∀ p, 1 ≤ p → p ≤ 5 → tot.sv p ws (2 ^ p) p = fac.sv p * gz ws (2 ^ p - 1) := by
  intro p h1 h5
  obtain rfl | rfl | rfl | rfl | rfl : p = 1 ∨ p = 2 ∨ p = 3 ∨ p = 4 ∨ p = 5 := by omega
  all_goals simp [tot.sv, sh.sv, mo.sv, off.sp, up.sv, cnt.sv, fac.sv, h0]
  all_goals omega
theorem al_2_0 {ws : List Int} : ∀ j, j < 2 → 0 ≠ j → al.sp ws 0 j (2 ^ 2) = true → sh.sv 2 ws 0 (2 ^ 2) = sh.sv 2 ws j (2 ^ 2) ∧ sw.sv ws 0 (2 ^ 2) = sw.sv ws j (2 ^ 2) := by
  intro j hj hij
  obtain rfl : j = 1 := by omega
  all_goals simp [al.sp, sh.sv, sw.sv, mo.sv, off.sp, up.sv, cnt.sv, fac.sv]
  all_goals omega
theorem al_2_1 {ws : List Int} : ∀ j, j < 2 → 1 ≠ j → al.sp ws 1 j (2 ^ 2) = true → sh.sv 2 ws 1 (2 ^ 2) = sh.sv 2 ws j (2 ^ 2) ∧ sw.sv ws 1 (2 ^ 2) = sw.sv ws j (2 ^ 2) := by
  intro j hj hij
  obtain rfl : j = 0 := by omega
  all_goals simp [al.sp, sh.sv, sw.sv, mo.sv, off.sp, up.sv, cnt.sv, fac.sv]
  all_goals omega
theorem al_3_0 {ws : List Int} : ∀ j, j < 3 → 0 ≠ j → al.sp ws 0 j (2 ^ 3) = true → sh.sv 3 ws 0 (2 ^ 3) = sh.sv 3 ws j (2 ^ 3) ∧ sw.sv ws 0 (2 ^ 3) = sw.sv ws j (2 ^ 3) := by
  intro j hj hij
  obtain rfl | rfl : j = 1 ∨ j = 2 := by omega
  all_goals simp [al.sp, sh.sv, sw.sv, mo.sv, off.sp, up.sv, cnt.sv, fac.sv]
  all_goals omega
theorem al_3_1 {ws : List Int} : ∀ j, j < 3 → 1 ≠ j → al.sp ws 1 j (2 ^ 3) = true → sh.sv 3 ws 1 (2 ^ 3) = sh.sv 3 ws j (2 ^ 3) ∧ sw.sv ws 1 (2 ^ 3) = sw.sv ws j (2 ^ 3) := by
  intro j hj hij
  obtain rfl | rfl : j = 0 ∨ j = 2 := by omega
  all_goals simp [al.sp, sh.sv, sw.sv, mo.sv, off.sp, up.sv, cnt.sv, fac.sv]
  all_goals omega
theorem al_3_2 {ws : List Int} : ∀ j, j < 3 → 2 ≠ j → al.sp ws 2 j (2 ^ 3) = true → sh.sv 3 ws 2 (2 ^ 3) = sh.sv 3 ws j (2 ^ 3) ∧ sw.sv ws 2 (2 ^ 3) = sw.sv ws j (2 ^ 3) := by
  intro j hj hij
  obtain rfl | rfl : j = 0 ∨ j = 1 := by omega
  all_goals simp [al.sp, sh.sv, sw.sv, mo.sv, off.sp, up.sv, cnt.sv, fac.sv]
  all_goals omega
theorem al_4_0 {ws : List Int} : ∀ j, j < 4 → 0 ≠ j → al.sp ws 0 j (2 ^ 4) = true → sh.sv 4 ws 0 (2 ^ 4) = sh.sv 4 ws j (2 ^ 4) ∧ sw.sv ws 0 (2 ^ 4) = sw.sv ws j (2 ^ 4) := by
  intro j hj hij
  obtain rfl | rfl | rfl : j = 1 ∨ j = 2 ∨ j = 3 := by omega
  all_goals simp [al.sp, sh.sv, sw.sv, mo.sv, off.sp, up.sv, cnt.sv, fac.sv]
  all_goals omega
theorem al_4_1 {ws : List Int} : ∀ j, j < 4 → 1 ≠ j → al.sp ws 1 j (2 ^ 4) = true → sh.sv 4 ws 1 (2 ^ 4) = sh.sv 4 ws j (2 ^ 4) ∧ sw.sv ws 1 (2 ^ 4) = sw.sv ws j (2 ^ 4) := by
  intro j hj hij
  obtain rfl | rfl | rfl : j = 0 ∨ j = 2 ∨ j = 3 := by omega
  all_goals simp [al.sp, sh.sv, sw.sv, mo.sv, off.sp, up.sv, cnt.sv, fac.sv]
  all_goals omega
theorem al_4_2 {ws : List Int} : ∀ j, j < 4 → 2 ≠ j → al.sp ws 2 j (2 ^ 4) = true → sh.sv 4 ws 2 (2 ^ 4) = sh.sv 4 ws j (2 ^ 4) ∧ sw.sv ws 2 (2 ^ 4) = sw.sv ws j (2 ^ 4) := by
  intro j hj hij
  obtain rfl | rfl | rfl : j = 0 ∨ j = 1 ∨ j = 3 := by omega
  all_goals simp [al.sp, sh.sv, sw.sv, mo.sv, off.sp, up.sv, cnt.sv, fac.sv]
  all_goals omega
theorem al_4_3 {ws : List Int} : ∀ j, j < 4 → 3 ≠ j → al.sp ws 3 j (2 ^ 4) = true → sh.sv 4 ws 3 (2 ^ 4) = sh.sv 4 ws j (2 ^ 4) ∧ sw.sv ws 3 (2 ^ 4) = sw.sv ws j (2 ^ 4) := by
  intro j hj hij
  obtain rfl | rfl | rfl : j = 0 ∨ j = 1 ∨ j = 2 := by omega
  all_goals simp [al.sp, sh.sv, sw.sv, mo.sv, off.sp, up.sv, cnt.sv, fac.sv]
  all_goals omega
theorem al_5_0 {ws : List Int} : ∀ j, j < 5 → 0 ≠ j → al.sp ws 0 j (2 ^ 5) = true → sh.sv 5 ws 0 (2 ^ 5) = sh.sv 5 ws j (2 ^ 5) ∧ sw.sv ws 0 (2 ^ 5) = sw.sv ws j (2 ^ 5) := by
  intro j hj hij
  obtain rfl | rfl | rfl | rfl : j = 1 ∨ j = 2 ∨ j = 3 ∨ j = 4 := by omega
  all_goals simp [al.sp, sh.sv, sw.sv, mo.sv, off.sp, up.sv, cnt.sv, fac.sv]
  all_goals omega
theorem al_5_1 {ws : List Int} : ∀ j, j < 5 → 1 ≠ j → al.sp ws 1 j (2 ^ 5) = true → sh.sv 5 ws 1 (2 ^ 5) = sh.sv 5 ws j (2 ^ 5) ∧ sw.sv ws 1 (2 ^ 5) = sw.sv ws j (2 ^ 5) := by
  intro j hj hij
  obtain rfl | rfl | rfl | rfl : j = 0 ∨ j = 2 ∨ j = 3 ∨ j = 4 := by omega
  all_goals simp [al.sp, sh.sv, sw.sv, mo.sv, off.sp, up.sv, cnt.sv, fac.sv]
  all_goals omega
theorem al_5_2 {ws : List Int} : ∀ j, j < 5 → 2 ≠ j → al.sp ws 2 j (2 ^ 5) = true → sh.sv 5 ws 2 (2 ^ 5) = sh.sv 5 ws j (2 ^ 5) ∧ sw.sv ws 2 (2 ^ 5) = sw.sv ws j (2 ^ 5) := by
  intro j hj hij
  obtain rfl | rfl | rfl | rfl : j = 0 ∨ j = 1 ∨ j = 3 ∨ j = 4 := by omega
  all_goals simp [al.sp, sh.sv, sw.sv, mo.sv, off.sp, up.sv, cnt.sv, fac.sv]
  all_goals omega
theorem al_5_3 {ws : List Int} : ∀ j, j < 5 → 3 ≠ j → al.sp ws 3 j (2 ^ 5) = true → sh.sv 5 ws 3 (2 ^ 5) = sh.sv 5 ws j (2 ^ 5) ∧ sw.sv ws 3 (2 ^ 5) = sw.sv ws j (2 ^ 5) := by
  intro j hj hij
  obtain rfl | rfl | rfl | rfl : j = 0 ∨ j = 1 ∨ j = 2 ∨ j = 4 := by omega
  all_goals simp [al.sp, sh.sv, sw.sv, mo.sv, off.sp, up.sv, cnt.sv, fac.sv]
  all_goals omega
theorem al_5_4 {ws : List Int} : ∀ j, j < 5 → 4 ≠ j → al.sp ws 4 j (2 ^ 5) = true → sh.sv 5 ws 4 (2 ^ 5) = sh.sv 5 ws j (2 ^ 5) ∧ sw.sv ws 4 (2 ^ 5) = sw.sv ws j (2 ^ 5) := by
  intro j hj hij
  obtain rfl | rfl | rfl | rfl : j = 0 ∨ j = 1 ∨ j = 2 ∨ j = 3 := by omega
  all_goals simp [al.sp, sh.sv, sw.sv, mo.sv, off.sp, up.sv, cnt.sv, fac.sv]
  all_goals omega
theorem al_all {ws : List Int} : ∀ p, 1 ≤ p → p ≤ 5 → ∀ i, i < p → ∀ j, j < p → i ≠ j → al.sp ws i j (2 ^ p) = true → sh.sv p ws i (2 ^ p) = sh.sv p ws j (2 ^ p) ∧ sw.sv ws i (2 ^ p) = sw.sv ws j (2 ^ p) := by
  intro p h1 h5 i hi j hj hij
  obtain rfl | rfl | rfl | rfl | rfl : p = 1 ∨ p = 2 ∨ p = 3 ∨ p = 4 ∨ p = 5 := by omega
  · omega
  · obtain rfl | rfl : i = 0 ∨ i = 1 := by omega
    · exact al_2_0 j hj hij
    · exact al_2_1 j hj hij
  · obtain rfl | rfl | rfl : i = 0 ∨ i = 1 ∨ i = 2 := by omega
    · exact al_3_0 j hj hij
    · exact al_3_1 j hj hij
    · exact al_3_2 j hj hij
  · obtain rfl | rfl | rfl | rfl : i = 0 ∨ i = 1 ∨ i = 2 ∨ i = 3 := by omega
    · exact al_4_0 j hj hij
    · exact al_4_1 j hj hij
    · exact al_4_2 j hj hij
    · exact al_4_3 j hj hij
  · obtain rfl | rfl | rfl | rfl | rfl : i = 0 ∨ i = 1 ∨ i = 2 ∨ i = 3 ∨ i = 4 := by omega
    · exact al_5_0 j hj hij
    · exact al_5_1 j hj hij
    · exact al_5_2 j hj hij
    · exact al_5_3 j hj hij
    · exact al_5_4 j hj hij
end wo

end Go.Proofs.Ytekadpddilfolaa.Ab
