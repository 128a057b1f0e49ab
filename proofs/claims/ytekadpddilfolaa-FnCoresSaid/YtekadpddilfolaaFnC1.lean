/-
  Cores, plainly: what holds of all sets, complaints, what players bring in convex worths, shares of all orders, steps to the kernel.
-/
import Derived.Test.YtekadpddilfolaaFnVP
namespace Go.Proofs.Ytekadpddilfolaa.Ab
open Go
set_option linter.unusedVariables false
set_option linter.unusedSimpArgs false
set_option maxRecDepth 100000

namespace fs
def al.sp (P : Nat → Bool) : Nat → Nat → Bool
  | 0, _ => true
  | d + 1, i => P i && al.sp P d (i + 1)
theorem al_iff {P : Nat → Bool} : ∀ {d i : Nat}, al.sp P d i = true ↔ ∀ j, i ≤ j → j < i + d → P j = true
  | 0, i => by
    simp only [al.sp, true_iff]
    intro j h1 h2; omega
  | d + 1, i => by
    rw [al.sp, Bool.and_eq_true, al_iff]
    constructor
    · rintro ⟨h1, h2⟩ j h3 h4
      by_cases e : j = i
      · subst e; exact h1
      · exact h2 j (by omega) (by omega)
    · intro h
      exact ⟨h i (Nat.le_refl _) (by omega), fun j h1 h2 => h j (by omega) (by omega)⟩
def al2.sp (H : Nat → Nat → Bool) (n : Nat) : Bool := al.sp (fun a => al.sp (H a) n 0) n 0
theorem al2_iff {H : Nat → Nat → Bool} {n : Nat} : al2.sp H n = true ↔ ∀ a b, a < n → b < n → H a b = true := by
  rw [al2.sp, al_iff]
  constructor
  · intro h a b ha hb
    exact al_iff.1 (h a (by omega) (by omega)) b (by omega) (by omega)
  · intro h a _ ha
    exact al_iff.2 fun b _ hb => h a b (by omega) (by omega)
end fs

namespace co
theorem and_lt {n a : Nat} (b : Nat) (h : a < n) : a &&& b < n := Nat.lt_of_le_of_lt Nat.and_le_left h
theorem iandn_nat : ∀ a < 64, ∀ b < 64, iandn.sv .i64 ((a : Nat) : Int) ((b : Nat) : Int) = ((a - (a &&& b) : Nat) : Int) := by decide +kernel
theorem ior_nat : ∀ a < 64, ∀ b < 64, ior.sv .i64 ((a : Nat) : Int) ((b : Nat) : Int) = ((a ||| b : Nat) : Int) := by decide +kernel
def conv.sp (ws : List Int) (a b : Nat) : Bool := decide (gz ws a + gz ws b ≤ gz ws (a ||| b) + gz ws (a &&& b))
def join.sp (ws : List Int) (a b : Nat) : Bool := !decide (a &&& b = 0) || decide (gz ws a + gz ws b ≤ gz ws (a ||| b))
def rise.sp (ws : List Int) (a b : Nat) : Bool := !decide (a - (a &&& b) = 0) || decide (gz ws a ≤ gz ws b)
def ris1.sp (ws : List Int) (a i : Nat) : Bool := !wo.off.sp a i || decide (gz ws a ≤ gz ws (a + 2 ^ i))
theorem conv_join {ws : List Int} {n : Nat} (h0 : gz ws 0 = 0) (h : fs.al2.sp (conv.sp ws) n = true) : fs.al2.sp (join.sp ws) n = true := by
  rw [fs.al2_iff] at h ⊢
  intro a b ha hb
  have := h a b ha hb
  simp only [conv.sp, decide_eq_true_eq] at this
  simp only [join.sp, Bool.or_eq_true, Bool.not_eq_true', decide_eq_false_iff_not, decide_eq_true_eq]
  by_cases c : a &&& b = 0
  · rw [c, h0] at this
    exact .inr (by omega)
  · exact .inl c
theorem sub_step : ∀ a < 16, ∀ b < 16, a - (a &&& b) = 0 → a ≠ b → ∃ i, i < 4 ∧ wo.off.sp a i = true ∧ wo.off.sp b i = false ∧ a + 2 ^ i - ((a + 2 ^ i) &&& b) = 0 ∧ a + 2 ^ i ≤ b := by
  have main : ∀ a < 16, ∀ b < 16, a - (a &&& b) = 0 → a ≠ b → ((List.range 4).any fun i => wo.off.sp a i && (!wo.off.sp b i && (decide (a + 2 ^ i - ((a + 2 ^ i) &&& b) = 0) && decide (a + 2 ^ i ≤ b)))) = true := by decide +kernel
  intro a ha b hb h1 h2
  have := main a ha b hb h1 h2
  simp only [List.any_eq_true, List.mem_range, Bool.and_eq_true, Bool.not_eq_true', decide_eq_true_eq] at this
  obtain ⟨i, h3, h4, h5, h6, h7⟩ := this
  exact ⟨i, h3, h4, h5, h6, h7⟩
theorem off_addn : ∀ a < 16, ∀ i < 4, wo.off.sp a i = true → a - (a &&& (a + 2 ^ i)) = 0 := by decide +kernel
theorem off_lt : ∀ p < 5, ∀ a < 2 ^ p, ∀ i < p, wo.off.sp a i = true → a + 2 ^ i < 2 ^ p := by decide +kernel
theorem bit_lt : ∀ p < 5, ∀ b < 2 ^ p, ∀ i < 4, wo.off.sp b i = false → i < p := by decide +kernel
/-- To rise by single players is to rise. -/
theorem rise_eq {ws : List Int} {p : Nat} (hp : p ≤ 4) : fs.al2.sp (rise.sp ws) (2 ^ p) = fs.al.sp (fun a => fs.al.sp (ris1.sp ws a) p 0) (2 ^ p) 0 := by
  have h16 : 2 ^ p ≤ 16 := Nat.pow_le_pow_right (by decide) hp
  rw [Bool.eq_iff_iff, fs.al2_iff, fs.al_iff]
  constructor
  · intro h a _ ha
    rw [fs.al_iff]
    intro i _ hi
    rw [ris1.sp]
    cases ho : wo.off.sp a i with
    | false => rfl
    | true =>
      have hl := off_lt p (by omega) a (by omega) i (by omega) ho
      have := h a (a + 2 ^ i) (by omega) hl
      rw [rise.sp, off_addn a (by omega) i (by omega) ho, decide_eq_true rfl] at this
      simpa using this
  · intro h
    have main : ∀ d a b, a < 2 ^ p → b < 2 ^ p → a - (a &&& b) = 0 → b - a ≤ d → a ≤ b → gz ws a ≤ gz ws b := by
      intro d
      induction d with
      | zero =>
        intro a b ha hb h1 h2 h3
        obtain rfl : a = b := by omega
        exact Int.le_refl _
      | succ d ih =>
        intro a b ha hb h1 h2 h3
        by_cases e : a = b
        · subst e; exact Int.le_refl _
        · obtain ⟨i, i1, i2, i3, i4, i5⟩ := sub_step a (by omega) b (by omega) h1 e
          have hpow := wo.pow_pos i
          have hip := bit_lt p (by omega) b hb i i1 i3
          have h4 := fs.al_iff.1 (h a (by omega) (by omega)) i (by omega) (by omega)
          rw [ris1.sp, i2] at h4
          have h5 : gz ws a ≤ gz ws (a + 2 ^ i) := by simpa using h4
          have h6 := ih (a + 2 ^ i) b (by omega) hb i4 (by omega) i5
          omega
    intro a b ha hb
    simp only [rise.sp, Bool.or_eq_true, Bool.not_eq_true', decide_eq_false_iff_not, decide_eq_true_eq]
    by_cases c : a - (a &&& b) = 0
    · right
      have : a ≤ b := by
        have h1 : a &&& b ≤ b := Nat.and_le_right
        omega
      exact main (b - a) a b ha hb c (Nat.le_refl _) this
    · exact .inl c
/-- The complaint of a set. -/
def cm.sv (ws xs : List Int) (by_ : Int) (S : Nat) (i : Nat) : Int := gz ws S * by_ - vo.wg.sv xs S i
/-- The greatest of what is meant, and where it is first. -/
def wst.sv (c : Nat → Int) (M : Nat → Bool) : Nat → Int × Int
  | 0 => (0, -1)
  | k + 1 => bif M k then (bif decide ((wst.sv c M k).2 < 0) || decide ((wst.sv c M k).1 < c k) then (c k, (k : Int)) else wst.sv c M k) else wst.sv c M k
theorem wst_spec (c : Nat → Int) (M : Nat → Bool) : ∀ n, ((wst.sv c M n).2 = -1 ∧ (wst.sv c M n).1 = 0 ∧ ∀ k, k < n → M k = false) ∨
    ∃ s : Nat, s < n ∧ M s = true ∧ (wst.sv c M n).2 = s ∧ (wst.sv c M n).1 = c s ∧ ∀ k, k < n → M k = true → c k ≤ c s
  | 0 => .inl ⟨rfl, rfl, fun k h => by omega⟩
  | n + 1 => by
    have ih := wst_spec c M n
    rw [wst.sv]
    cases hM : M n with
    | false =>
      rw [cond_false]
      rcases ih with ⟨h1, h2, h3⟩ | ⟨s, h1, h2, h3, h4, h5⟩
      · refine .inl ⟨h1, h2, fun k hk => ?_⟩
        by_cases e : k = n
        · subst e; exact hM
        · exact h3 k (by omega)
      · refine .inr ⟨s, by omega, h2, h3, h4, fun k hk hm => ?_⟩
        by_cases e : k = n
        · subst e; rw [hM] at hm; cases hm
        · exact h5 k (by omega) hm
    | true =>
      rw [cond_true]
      rcases ih with ⟨h1, h2, h3⟩ | ⟨s, h1, h2, h3, h4, h5⟩
      · have e : (decide ((wst.sv c M n).2 < 0) || decide ((wst.sv c M n).1 < c n)) = true := by rw [h1]; rfl
        rw [e, cond_true]
        refine .inr ⟨n, by omega, hM, rfl, rfl, fun k hk hm => ?_⟩
        by_cases e : k = n
        · subst e; exact Int.le_refl _
        · rw [h3 k (by omega)] at hm; cases hm
      · by_cases hc : c s < c n
        · have e : (decide ((wst.sv c M n).2 < 0) || decide ((wst.sv c M n).1 < c n)) = true := by rw [h4, decide_eq_true hc, Bool.or_true]
          rw [e, cond_true]
          refine .inr ⟨n, by omega, hM, rfl, rfl, fun k hk hm => ?_⟩
          by_cases e : k = n
          · subst e; exact Int.le_refl _
          · have := h5 k (by omega) hm; omega
        · have e : (decide ((wst.sv c M n).2 < 0) || decide ((wst.sv c M n).1 < c n)) = false := by
            rw [h3, h4, decide_eq_false hc, decide_eq_false (by omega)]; rfl
          rw [e, cond_false]
          refine .inr ⟨s, by omega, h2, h3, h4, fun k hk hm => ?_⟩
          by_cases e : k = n
          · subst e; omega
          · exact h5 k (by omega) hm
def tt.sp (_ : Nat) : Bool := true
def pr.sp (n S : Nat) : Bool := !decide (S = 0) && !decide (S = n - 1)
def core.sp (ws xs : List Int) (by_ : Int) (p : Nat) : Bool := fs.al.sp (fun S => decide (cm.sv ws xs by_ S p ≤ 0)) (2 ^ p) 0 && (cm.sv ws xs by_ (2 ^ p - 1) p == 0)
theorem core_iff {ws xs : List Int} {by_ : Int} {p : Nat} : core.sp ws xs by_ p = true ↔ (∀ S, S < 2 ^ p → cm.sv ws xs by_ S p ≤ 0) ∧ cm.sv ws xs by_ (2 ^ p - 1) p = 0 := by
  rw [core.sp, Bool.and_eq_true, fs.al_iff, beq_iff_eq]
  constructor
  · rintro ⟨h1, h2⟩
    exact ⟨fun S hS => by simpa using h1 S (by omega) (by omega), h2⟩
  · rintro ⟨h1, h2⟩
    exact ⟨fun S _ hS => by simpa using h1 S (by omega), h2⟩
theorem core_wst (ws xs : List Int) (by_ : Int) (p : Nat) : (decide ((wst.sv (fun S => cm.sv ws xs by_ S p) tt.sp (2 ^ p)).1 ≤ 0) && (cm.sv ws xs by_ (2 ^ p - 1) p == 0)) = core.sp ws xs by_ p := by
  rw [core.sp]
  congr 1
  rw [Bool.eq_iff_iff, decide_eq_true_eq, fs.al_iff]
  have hp := wo.pow_pos p
  rcases wst_spec (fun S => cm.sv ws xs by_ S p) tt.sp (2 ^ p) with ⟨_, _, h3⟩ | ⟨s, h1, h2, h3, h4, h5⟩
  · have := h3 0 (by omega); cases this
  · rw [h4]
    constructor
    · intro h S _ hS
      have := h5 S (by omega) rfl
      simp only [decide_eq_true_eq] at this ⊢
      omega
    · intro h
      simpa using h s (by omega) (by omega)
/-- The reference's way to look. -/
def c1.sp (ws xs : List Int) (by_ : Int) (p S : Nat) : Bool := !(decide (0 < cm.sv ws xs by_ S p) || (decide (S = 2 ^ p - 1) && !decide (cm.sv ws xs by_ S p = 0)))
theorem core_c1 (ws xs : List Int) (by_ : Int) (p : Nat) : fs.al.sp (c1.sp ws xs by_ p) (2 ^ p) 0 = core.sp ws xs by_ p := by
  have hp := wo.pow_pos p
  rw [Bool.eq_iff_iff, core_iff, fs.al_iff]
  constructor
  · intro h
    have key : ∀ S, S < 2 ^ p → cm.sv ws xs by_ S p ≤ 0 ∧ (S = 2 ^ p - 1 → cm.sv ws xs by_ S p = 0) := by
      intro S hS
      have := h S (by omega) (by omega)
      simp only [c1.sp, Bool.not_eq_true', Bool.or_eq_false_iff, decide_eq_false_iff_not, Bool.and_eq_false_iff, Bool.not_eq_false', decide_eq_true_eq] at this
      refine ⟨by omega, fun e => ?_⟩
      rcases this.2 with h | h
      · exact absurd e h
      · exact h
    exact ⟨fun S hS => (key S hS).1, (key (2 ^ p - 1) (by omega)).2 rfl⟩
  · rintro ⟨h1, h2⟩ S _ hS
    have := h1 S (by omega)
    simp only [c1.sp, Bool.not_eq_true', Bool.or_eq_false_iff, decide_eq_false_iff_not, Bool.and_eq_false_iff, Bool.not_eq_false', decide_eq_true_eq]
    refine ⟨by omega, ?_⟩
    by_cases e : S = 2 ^ p - 1
    · subst e; exact .inr h2
    · exact .inl e
/-- The reference's greatest. -/
def sur.sv (c : Nat → Int) (M : Nat → Bool) : Nat → Int × Bool
  | 0 => (0, false)
  | k + 1 => bif M k then (bif !(sur.sv c M k).2 || decide ((sur.sv c M k).1 < c k) then (c k, true) else sur.sv c M k) else sur.sv c M k
theorem sur_wst (c : Nat → Int) (M : Nat → Bool) : ∀ n, (sur.sv c M n).1 = (wst.sv c M n).1 ∧ (sur.sv c M n).2 = !decide ((wst.sv c M n).2 < 0)
  | 0 => ⟨rfl, rfl⟩
  | n + 1 => by
    have ih := sur_wst c M n
    rw [sur.sv, wst.sv]
    cases M n with
    | false => exact ih
    | true =>
      rw [cond_true, cond_true, ih.1, ih.2, Bool.not_not]
      cases decide ((wst.sv c M n).2 < 0) || decide ((wst.sv c M n).1 < c n) with
      | true =>
        refine ⟨rfl, ?_⟩
        show true = !decide (((n : Nat) : Int) < 0)
        rw [decide_eq_false (by omega)]; rfl
      | false => exact ih
/-! Convex worths. -/
theorem wg_set {xs : List Int} {x S : Nat} {v : Int} (hx : x < xs.length) : ∀ i, vo.wg.sv (xs.set x v) S i = vo.wg.sv xs S i + (if x < i ∧ wo.off.sp S x = false then v - gz xs x else 0)
  | 0 => by rw [if_neg (by omega)]; rfl
  | i + 1 => by
    rw [vo.wg.sv, vo.wg.sv, wg_set hx i, gz_set hx]
    by_cases e : x = i
    · subst e
      rw [if_neg (by omega), if_pos rfl]
      cases ho : wo.off.sp S x with
      | true => rw [cond_true, cond_true, if_neg (by simp)]
      | false => rw [cond_false, cond_false, if_pos ⟨by omega, rfl⟩]; omega
    · rw [if_neg e]
      have e2 : (if x < i + 1 ∧ wo.off.sp S x = false then v - gz xs x else 0) = (if x < i ∧ wo.off.sp S x = false then v - gz xs x else 0) := by
        by_cases c : x < i ∧ wo.off.sp S x = false
        · rw [if_pos c, if_pos ⟨by omega, c.2⟩]
        · rw [if_neg c, if_neg (fun h => c ⟨by omega, h.2⟩)]
      rw [e2]
      cases wo.off.sp S i
      · rw [cond_false, cond_false]; omega
      · rw [cond_true, cond_true]
theorem wg_nought {xs : List Int} {S : Nat} (h : ∀ i, gz xs i = 0) : ∀ i, vo.wg.sv xs S i = 0
  | 0 => rfl
  | i + 1 => by rw [vo.wg.sv, wg_nought h i, h i]; cases wo.off.sp S i <;> rfl
theorem gz_rep (n i : Nat) : gz (List.replicate n 0) i = 0 := by
  by_cases c : i < n
  · rw [gz_eq (by simpa using c), List.getElem_replicate]
  · rw [gz_out (by simpa using c)]
theorem and_up_in {S T x : Nat} (h : wo.off.sp S x = false) : S &&& wo.up.sv T x = wo.up.sv (S &&& T) x := by
  rw [vo.off_tb] at h
  apply Nat.eq_of_testBit_eq
  intro j
  rw [Nat.testBit_and, wo.up_bit, wo.up_bit, Nat.testBit_and]
  by_cases e : x = j
  · subst e
    rw [decide_eq_true rfl, Bool.or_true, Bool.or_true, Bool.and_true]
    simpa using h
  · rw [decide_eq_false e, Bool.or_false, Bool.or_false]
theorem and_up_out {S T x : Nat} (h : wo.off.sp S x = true) : S &&& wo.up.sv T x = S &&& T := by
  rw [vo.off_tb] at h
  apply Nat.eq_of_testBit_eq
  intro j
  rw [Nat.testBit_and, wo.up_bit, Nat.testBit_and]
  by_cases e : x = j
  · subst e
    have : S.testBit x = false := by simpa using h
    rw [this, Bool.false_and, Bool.false_and]
  · rw [decide_eq_false e, Bool.or_false]
theorem or_meet {S T x : Nat} : T ||| wo.up.sv (S &&& T) x = wo.up.sv T x := by
  apply Nat.eq_of_testBit_eq
  intro j
  rw [Nat.testBit_or, wo.up_bit, wo.up_bit, Nat.testBit_and]
  cases T.testBit j <;> cases S.testBit j <;> cases decide (x = j) <;> rfl
theorem and_meet {S T x : Nat} (h : T.testBit x = false) : T &&& wo.up.sv (S &&& T) x = S &&& T := by
  apply Nat.eq_of_testBit_eq
  intro j
  rw [Nat.testBit_and, wo.up_bit, Nat.testBit_and]
  by_cases e : x = j
  · subst e; rw [h]; simp
  · rw [decide_eq_false e, Bool.or_false]
    cases T.testBit j <;> cases S.testBit j <;> rfl
/-- What players bring in an order gives each set its worth at the least. -/
theorem brings {p : Nat} {ws os : List Int} (ho : wo.Ord p os) (h0 : gz ws 0 = 0) (hc : fs.al2.sp (conv.sp ws) (2 ^ p) = true) {S : Nat} (hS : S < 2 ^ p) :
    ∀ k, k ≤ p → gz ws (S &&& wo.st.sv os k) ≤ vo.wg.sv (wo.br.sv p ws os k) S p
  | 0, _ => by
    rw [wo.st.sv, Nat.and_zero, h0, wo.br.sv, wg_nought (gz_rep p) p]; exact Int.le_refl _
  | k + 1, hk => by
    have ih := brings ho h0 hc hS k (by omega)
    have hkl : k < os.length := by rw [ho.len]; omega
    have hr := ho.ran _ (gz_mem hkl)
    obtain ⟨x, hx⟩ : ∃ x : Nat, gz os k = x := ⟨(gz os k).toNat, by omega⟩
    rw [hx] at hr
    have hxp : x < p := by omega
    rw [wo.br.sv, wo.st.sv, hx, Int.toNat_natCast, wg_set (by rw [wo.br_length]; exact hxp)]
    have hz : gz (wo.br.sv p ws os k) x = 0 := wo.br_zero p ws os k x (by rw [ho.len]; omega) fun y hy e => by
      obtain ⟨j, hj, rfl⟩ := List.getElem_of_mem hy
      rw [List.length_take] at hj
      have hjl : j < os.length := by omega
      rw [List.getElem_take] at e
      have h1 : os[j] = os[k] := by
        have h2 := ho.ran _ (List.getElem_mem hjl)
        have h3 : os[k] = (x : Int) := by rw [← gz_eq hkl]; exact hx
        omega
      have := (List.getElem_inj ho.nd).1 h1
      omega
    have hnot : (wo.st.sv os k).testBit x = false := by
      rw [wo.st_bit os k x (by omega), List.any_eq_false]
      intro y hy e
      simp only [decide_eq_true_eq] at e
      obtain ⟨j, hj, rfl⟩ := List.getElem_of_mem hy
      rw [List.length_take] at hj
      have hjl : j < os.length := by omega
      rw [List.getElem_take] at e
      have h1 : os[j] = os[k] := by
        have h2 := ho.ran _ (List.getElem_mem hjl)
        have h3 : os[k] = (x : Int) := by rw [← gz_eq hkl]; exact hx
        omega
      have := (List.getElem_inj ho.nd).1 h1
      omega
    rw [hz]
    cases hb : wo.off.sp S x with
    | true =>
      rw [and_up_out hb, if_neg (by simp)]; omega
    | false =>
      rw [and_up_in hb, if_pos ⟨hxp, rfl⟩]
      have hT : wo.st.sv os k < 2 ^ p := wo.st_lt (fun y hy => by have := ho.ran y hy; omega) k (by rw [ho.len]; omega)
      have hU : wo.up.sv (S &&& wo.st.sv os k) x < 2 ^ p := wo.up_lt (and_lt _ hS) hxp
      have := fs.al2_iff.1 hc _ _ hT hU
      simp only [conv.sp, decide_eq_true_eq, or_meet, and_meet hnot] at this
      simp only [wo.mo.sv]
      omega
theorem and_all : ∀ p < 5, ∀ S < 2 ^ p, S &&& (2 ^ p - 1) = S := by decide +kernel
theorem wg_ss (xs : List Int) {p : Nat} (hp : p < 7) : vo.wg.sv xs (2 ^ p - 1) p = wo.ss.sv xs p := by rw [vo.wg_full xs hp p (Nat.le_refl _), vo.ss_tot]
theorem brings_core {p : Nat} {ws os : List Int} (hp : p ≤ 4) (ho : wo.Ord p os) (h0 : gz ws 0 = 0) (hc : fs.al2.sp (conv.sp ws) (2 ^ p) = true) : core.sp ws (wo.br.sv p ws os p) 1 p = true := by
  rw [core_iff]
  refine ⟨fun S hS => ?_, ?_⟩
  · have := brings ho h0 hc hS p (Nat.le_refl _)
    rw [wo.st_all ho, and_all p (by omega) S hS] at this
    rw [cm.sv]; omega
  · rw [cm.sv, wg_ss _ (by omega), wo.ss_br ho p (Nat.le_refl _), wo.st_all ho, h0]; omega
/-- Shares within a set. -/
def shS.sv (p : Nat) (ws : List Int) (S i : Nat) : Nat → Int
  | 0 => 0
  | k + 1 => bif wo.off.sp k i then shS.sv p ws S i k + wo.fac.sv (wo.cnt.sv k) * wo.fac.sv (p - 1 - wo.cnt.sv k) * wo.mo.sv ws (k &&& S) i else shS.sv p ws S i k
theorem shS_le {p : Nat} {ws : List Int} (hp : p ≤ 4) (hc : fs.al2.sp (conv.sp ws) (2 ^ p) = true) {S i : Nat} (hS : S < 2 ^ p) (hi : i < p) (ho : wo.off.sp S i = false) : ∀ n, n ≤ 2 ^ p → shS.sv p ws S i n ≤ wo.sh.sv p ws i n
  | 0, _ => Int.le_refl _
  | k + 1, hk => by
    have ih := shS_le hp hc hS hi ho k (by omega)
    have h16 : 2 ^ p ≤ 16 := Nat.pow_le_pow_right (by decide) hp
    rw [shS.sv, wo.sh.sv]
    cases hb : wo.off.sp k i with
    | false => exact ih
    | true =>
      rw [cond_true, cond_true]
      have h1 : wo.up.sv (k &&& S) i < 2 ^ p := wo.up_lt (and_lt _ (by omega)) hi
      have h2 := fs.al2_iff.1 hc _ _ (show k < 2 ^ p by omega) h1
      have hnot : k.testBit i = false := by rw [vo.off_tb] at hb; simpa using hb
      have e1 : k ||| wo.up.sv (k &&& S) i = wo.up.sv k i := by rw [Nat.and_comm]; exact or_meet
      have e2 : k &&& wo.up.sv (k &&& S) i = k &&& S := by rw [Nat.and_comm k S]; exact and_meet hnot
      simp only [conv.sp, decide_eq_true_eq, e1, e2] at h2
      have hco := wo.coef_in (p := p) (k := k) (by omega)
      have hm : wo.mo.sv ws (k &&& S) i ≤ wo.mo.sv ws k i := by simp only [wo.mo.sv]; omega
      have := Int.mul_le_mul_of_nonneg_left hm hco.1
      omega
theorem wg_mono {xs : List Int} {g : Nat → Int} {S : Nat} : ∀ n, (∀ i, i < n → wo.off.sp S i = false → g i ≤ gz xs i) → vo.wg.sv (fs.ls.sv g n) S n ≤ vo.wg.sv xs S n := by
  have main : ∀ (n m : Nat), m ≤ n → (∀ i, i < m → wo.off.sp S i = false → g i ≤ gz xs i) → vo.wg.sv (fs.ls.sv g n) S m ≤ vo.wg.sv xs S m := by
    intro n m
    induction m with
    | zero => intro _ _; exact Int.le_refl _
    | succ m ih =>
      intro hm h
      have := ih (by omega) fun i hi => h i (by omega)
      rw [vo.wg.sv, vo.wg.sv, fs.ls_gz g (by omega)]
      cases hb : wo.off.sp S m with
      | true => exact this
      | false =>
        have h2 := h m (by omega) hb
        rw [cond_false, cond_false]; omega
  exact fun n h => main n n (Nat.le_refl _) h
def wgf.sv (g : Nat → Int) (S : Nat) : Nat → Int
  | 0 => 0
  | i + 1 => bif wo.off.sp S i then wgf.sv g S i else wgf.sv g S i + g i
theorem wg_ls (g : Nat → Int) (S n : Nat) : ∀ m, m ≤ n → vo.wg.sv (fs.ls.sv g n) S m = wgf.sv g S m
  | 0, _ => rfl
  | m + 1, h => by rw [vo.wg.sv, wgf.sv, wg_ls g S n m (by omega), fs.ls_gz g (by omega)]
theorem shS_2 {ws : List Int} (h0 : gz ws 0 = 0) : ∀ S, S < 2 ^ 2 → vo.wg.sv (fs.ls.sv (fun i => shS.sv 2 ws S i (2 ^ 2)) 2) S 2 = wo.fac.sv 2 * gz ws S := by
  intro S hS
  rw [wg_ls _ _ _ _ (Nat.le_refl _)]
  obtain rfl | rfl | rfl | rfl : S = 0 ∨ S = 1 ∨ S = 2 ∨ S = 3 := by omega
  all_goals
    simp [wgf.sv, shS.sv, wo.mo.sv, wo.off.sp, wo.up.sv, wo.cnt.sv, wo.fac.sv, h0]
    try omega
theorem shS_3 {ws : List Int} (h0 : gz ws 0 = 0) : ∀ S, S < 2 ^ 3 → vo.wg.sv (fs.ls.sv (fun i => shS.sv 3 ws S i (2 ^ 3)) 3) S 3 = wo.fac.sv 3 * gz ws S := by
  intro S hS
  rw [wg_ls _ _ _ _ (Nat.le_refl _)]
  obtain rfl | rfl | rfl | rfl | rfl | rfl | rfl | rfl : S = 0 ∨ S = 1 ∨ S = 2 ∨ S = 3 ∨ S = 4 ∨ S = 5 ∨ S = 6 ∨ S = 7 := by omega
  all_goals
    simp [wgf.sv, shS.sv, wo.mo.sv, wo.off.sp, wo.up.sv, wo.cnt.sv, wo.fac.sv, h0]
    try omega
theorem shS_4 {ws : List Int} (h0 : gz ws 0 = 0) : ∀ S, S < 2 ^ 4 → vo.wg.sv (fs.ls.sv (fun i => shS.sv 4 ws S i (2 ^ 4)) 4) S 4 = wo.fac.sv 4 * gz ws S := by
  intro S hS
  rw [wg_ls _ _ _ _ (Nat.le_refl _)]
  obtain rfl | rfl | rfl | rfl | rfl | rfl | rfl | rfl | rfl | rfl | rfl | rfl | rfl | rfl | rfl | rfl : S = 0 ∨ S = 1 ∨ S = 2 ∨ S = 3 ∨ S = 4 ∨ S = 5 ∨ S = 6 ∨ S = 7 ∨ S = 8 ∨ S = 9 ∨ S = 10 ∨ S = 11 ∨ S = 12 ∨ S = 13 ∨ S = 14 ∨ S = 15 := by omega
  all_goals
    simp [wgf.sv, shS.sv, wo.mo.sv, wo.off.sp, wo.up.sv, wo.cnt.sv, wo.fac.sv, h0]
    try omega
theorem shares_core {p : Nat} {ws xs : List Int} (h2 : 2 ≤ p) (hp : p ≤ 4) (h0 : gz ws 0 = 0) (hc : fs.al2.sp (conv.sp ws) (2 ^ p) = true) (hx : ∀ i, i < p → gz xs i = wo.sh.sv p ws i (2 ^ p)) (hN : vo.wg.sv xs (2 ^ p - 1) p = wo.fac.sv p * gz ws (2 ^ p - 1)) : core.sp ws xs (wo.fac.sv p) p = true := by
  rw [core_iff]
  refine ⟨fun S hS => ?_, ?_⟩
  · have h1 : vo.wg.sv (fs.ls.sv (fun i => shS.sv p ws S i (2 ^ p)) p) S p ≤ vo.wg.sv xs S p := wg_mono p fun i hi ho => by
      rw [hx i hi]
      exact shS_le hp hc hS hi ho (2 ^ p) (Nat.le_refl _)
    have h3 : vo.wg.sv (fs.ls.sv (fun i => shS.sv p ws S i (2 ^ p)) p) S p = wo.fac.sv p * gz ws S := by
      obtain rfl | rfl | rfl : p = 2 ∨ p = 3 ∨ p = 4 := by omega
      · exact shS_2 h0 S hS
      · exact shS_3 h0 S hS
      · exact shS_4 h0 S hS
    rw [h3, Int.mul_comm] at h1
    rw [cm.sv]; omega
  · rw [cm.sv, hN, Int.mul_comm]; omega
/-! A step to the kernel. -/
def m2.sp (i k S : Nat) : Bool := !wo.off.sp S i && wo.off.sp S k
def dd.sv (ws xs : List Int) (p i k : Nat) : Int := (wst.sv (fun S => cm.sv ws xs 1 S p) (m2.sp i k) (2 ^ p)).1 - (wst.sv (fun S => cm.sv ws xs 1 S p) (m2.sp k i) (2 ^ p)).1
structure Kr where
  m : Int
  to : Int
  fr : Int
def kin.sv (D : Nat → Nat → Int) (i : Nat) (r : Kr) : Nat → Kr
  | 0 => r
  | k + 1 => bif decide (i = k) then kin.sv D i r k else bif decide ((kin.sv D i r k).to < 0) || decide ((kin.sv D i r k).m < D i k) then ⟨D i k, (i : Int), (k : Int)⟩ else kin.sv D i r k
def kou.sv (D : Nat → Nat → Int) (p : Nat) : Nat → Kr
  | 0 => ⟨0, -1, -1⟩
  | i + 1 => kin.sv D i (kou.sv D p i) p
def KOk (p : Nat) (B : Int) (r : Kr) : Prop := (r.to = -1 ∧ r.fr = -1 ∧ r.m = 0) ∨ ∃ t f : Nat, r.to = t ∧ r.fr = f ∧ t < p ∧ f < p ∧ t ≠ f ∧ -B ≤ r.m ∧ r.m ≤ B
theorem kin_ok {D : Nat → Nat → Int} {B : Int} (hD : ∀ i k, -B ≤ D i k ∧ D i k ≤ B) {p i : Nat} (hi : i < p) {r : Kr} (h : KOk p B r) : ∀ k, k ≤ p → KOk p B (kin.sv D i r k)
  | 0, _ => h
  | k + 1, hk => by
    have ih := kin_ok hD hi h k (by omega)
    rw [kin.sv]
    by_cases e : i = k
    · rw [decide_eq_true e]; exact ih
    · rw [decide_eq_false e, cond_false]
      cases decide ((kin.sv D i r k).to < 0) || decide ((kin.sv D i r k).m < D i k)
      · exact ih
      · exact .inr ⟨i, k, rfl, rfl, hi, by omega, e, (hD i k).1, (hD i k).2⟩
theorem kou_ok {D : Nat → Nat → Int} {B : Int} (hD : ∀ i k, -B ≤ D i k ∧ D i k ≤ B) {p : Nat} : ∀ i, i ≤ p → KOk p B (kou.sv D p i)
  | 0, _ => .inl ⟨rfl, rfl, rfl⟩
  | i + 1, h => kin_ok hD (by omega) (kou_ok hD i (by omega)) p (Nat.le_refl _)
/-- The reference's numbers for nobody yet. -/
def za.sv (x : Int) : Int := bif decide (x < 0) then 0 else x
def stp.sv (xs : List Int) (r : Kr) : List Int := bif decide (2 ≤ r.m) then (xs.set r.to.toNat (gz xs r.to.toNat + r.m.tdiv 2)).set r.fr.toNat (gz xs r.fr.toNat - r.m.tdiv 2) else xs
theorem cm_in {ws xs : List Int} {p S : Nat} {A : Int} (hA : 0 ≤ A) (v : ∀ x ∈ ws, -10000 ≤ x ∧ x ≤ 10000) (hx : ∀ x ∈ xs, -A ≤ x ∧ x ≤ A) (hp : p ≤ 6) : -10000 - 6 * A ≤ cm.sv ws xs 1 S p ∧ cm.sv ws xs 1 S p ≤ 10000 + 6 * A := by
  have h1 := wo.gz_in v S
  have hg : ∀ i, -A ≤ gz xs i ∧ gz xs i ≤ A := fun i => by
    by_cases c : i < xs.length
    · exact hx _ (gz_mem c)
    · rw [gz_out (by omega)]; omega
  have main : ∀ i : Nat, i ≤ 6 → -(6 * A) ≤ vo.wg.sv xs S i ∧ vo.wg.sv xs S i ≤ 6 * A := by
    have key : ∀ i : Nat, -((i : Int) * A) ≤ vo.wg.sv xs S i ∧ vo.wg.sv xs S i ≤ (i : Int) * A := by
      intro i
      induction i with
      | zero => simp [vo.wg.sv]
      | succ i ih =>
        have := hg i
        have e : ((i + 1 : Nat) : Int) * A = (i : Int) * A + A := by rw [Int.natCast_add, Int.add_mul]; simp
        rw [vo.wg.sv, e]
        cases wo.off.sp S i
        · rw [cond_false]; omega
        · rw [cond_true]; omega
    intro i hi
    have h2 := key i
    have h3 : (i : Int) * A ≤ 6 * A := Int.mul_le_mul_of_nonneg_right (by omega) hA
    omega
  have := main p hp
  rw [cm.sv]; omega
theorem wst_in {c : Nat → Int} {M : Nat → Bool} {B : Int} (hB : 0 ≤ B) (hc : ∀ k, -B ≤ c k ∧ c k ≤ B) (n : Nat) : -B ≤ (wst.sv c M n).1 ∧ (wst.sv c M n).1 ≤ B ∧ -1 ≤ (wst.sv c M n).2 ∧ (wst.sv c M n).2 < (n : Int) + 1 := by
  rcases wst_spec c M n with ⟨h1, h2, _⟩ | ⟨s, h1, _, h3, h4, _⟩
  · rw [h1, h2]; omega
  · rw [h3, h4]; have := hc s; omega
end co


namespace pl
/-- The first p digits of a number, base 5. -/
def dig.sv : Nat → Nat → List Int
  | 0, _ => []
  | p + 1, t => dig.sv p (t / 5) ++ [((t % 5 : Nat) : Int)]
theorem dig_length : ∀ p t, (dig.sv p t).length = p
  | 0, _ => rfl
  | p + 1, t => by rw [dig.sv, List.length_append, dig_length p, List.length_singleton]
theorem dig_in : ∀ p t, ∀ x ∈ dig.sv p t, 0 ≤ x ∧ x ≤ 4
  | 0, _, x, h => by cases h
  | p + 1, t, x, h => by
    rw [dig.sv, List.mem_append, List.mem_singleton] at h
    rcases h with h | rfl
    · exact dig_in p _ x h
    · have := Nat.mod_lt t (show 0 < 5 by decide); omega
/-- The number that the first i digits make. -/
def vl.sv (xs : List Int) : Nat → Nat
  | 0 => 0
  | i + 1 => 5 * vl.sv xs i + (gz xs i).toNat
theorem vl_lt {xs : List Int} : ∀ i, (∀ j, j < i → 0 ≤ gz xs j ∧ gz xs j ≤ 4) → vl.sv xs i < 5 ^ i
  | 0, _ => by simp [vl.sv]
  | i + 1, h => by
    have := vl_lt i fun j hj => h j (by omega)
    have h2 := h i (by omega)
    rw [vl.sv, Nat.pow_succ]; omega
theorem dig_vl {xs : List Int} : ∀ i, i ≤ xs.length → (∀ j, j < i → 0 ≤ gz xs j ∧ gz xs j ≤ 4) → dig.sv i (vl.sv xs i) = xs.take i
  | 0, _, _ => rfl
  | i + 1, hl, h => by
    have ih := dig_vl (xs := xs) i (by omega) fun j hj => h j (by omega)
    have h2 := h i (by omega)
    have e1 : vl.sv xs (i + 1) / 5 = vl.sv xs i := by rw [vl.sv]; omega
    have e2 : ((vl.sv xs (i + 1) % 5 : Nat) : Int) = gz xs i := by rw [vl.sv]; omega
    rw [dig.sv, e1, e2, ih, List.take_add_one, List.getElem?_eq_getElem (by omega), gz_eq (by omega)]; rfl
theorem vl_congr {xs ys : List Int} : ∀ i, (∀ j, j < i → gz xs j = gz ys j) → vl.sv xs i = vl.sv ys i
  | 0, _ => rfl
  | i + 1, h => by rw [vl.sv, vl.sv, vl_congr i fun j hj => h j (by omega), h i (by omega)]
/-- The plans in the core among d numbers from a on. -/
def go.sv (ws : List Int) (p a : Nat) : Nat → List (List Int)
  | 0 => []
  | d + 1 => bif co.core.sp ws (dig.sv p (a + d)) 1 p then go.sv ws p a d ++ [dig.sv p (a + d)] else go.sv ws p a d
theorem go_add (ws : List Int) (p a d : Nat) : ∀ e, go.sv ws p a (d + e) = go.sv ws p a d ++ go.sv ws p (a + d) e
  | 0 => by rw [Nat.add_zero, go.sv, List.append_nil]
  | e + 1 => by
    rw [← Nat.add_assoc, go.sv, go.sv, go_add ws p a d e, Nat.add_assoc]
    cases co.core.sp ws (dig.sv p (a + (d + e))) 1 p
    · rfl
    · rw [cond_true, cond_true, List.append_assoc]
theorem go_length (ws : List Int) (p a : Nat) : ∀ d, (go.sv ws p a d).length ≤ d
  | 0 => Nat.le_refl _
  | d + 1 => by
    have := go_length ws p a d
    rw [go.sv]
    cases co.core.sp ws (dig.sv p (a + d)) 1 p
    · rw [cond_false]; omega
    · rw [cond_true, List.length_append, List.length_singleton]; omega
theorem go_mem {ws : List Int} {p a : Nat} : ∀ {d : Nat} {x : List Int}, x ∈ go.sv ws p a d → ∃ t, x = dig.sv p t ∧ co.core.sp ws x 1 p = true
  | 0, x, h => by cases h
  | d + 1, x, h => by
    rw [go.sv] at h
    cases e : co.core.sp ws (dig.sv p (a + d)) 1 p with
    | false => rw [e, cond_false] at h; exact go_mem h
    | true =>
      rw [e, cond_true, List.mem_append, List.mem_singleton] at h
      rcases h with h | rfl
      · exact go_mem h
      · exact ⟨_, rfl, e⟩
def all.sv (ws : List Int) (p : Nat) : List (List Int) := go.sv ws p 0 (5 ^ p)
/-- The list when n has been tried at the place i. -/
def xn.sv (p : Nat) (xs : List Int) (i : Nat) : Nat → List Int
  | 0 => xs
  | n + 1 => xs.take i ++ ((n : Int) :: List.replicate (p - i - 1) 4)
def xe.sv (p : Nat) (xs : List Int) (i : Nat) : List Int := xs.take i ++ List.replicate (p - i) 4
theorem xn_end {p : Nat} (xs : List Int) {i : Nat} (h : i < p) : xn.sv p xs i 5 = xe.sv p xs i := by
  rw [xn.sv, xe.sv, show p - i = (p - i - 1) + 1 by omega, List.replicate_succ]; rfl
theorem xn_length {p : Nat} {xs : List Int} (hl : xs.length = p) {i : Nat} (h : i < p) : ∀ n, (xn.sv p xs i n).length = p
  | 0 => hl
  | n + 1 => by rw [xn.sv, List.length_append, List.length_take, List.length_cons, List.length_replicate]; omega
theorem xe_length {p : Nat} {xs : List Int} (hl : xs.length = p) {i : Nat} (h : i ≤ p) : (xe.sv p xs i).length = p := by
  rw [xe.sv, List.length_append, List.length_take, List.length_replicate]; omega
theorem gz_take {xs : List Int} {i j : Nat} (h : j < i) : gz (xs.take i) j = gz xs j := by
  simp only [gz, List.getD_eq_getElem?_getD]
  rw [List.getElem?_take, if_pos h]
theorem gz_app {l r : List Int} {j : Nat} (h : j < l.length) : gz (l ++ r) j = gz l j := by
  simp only [gz, List.getD_eq_getElem?_getD]
  rw [List.getElem?_append_left h]
theorem xn_low {p : Nat} {xs : List Int} (hl : xs.length = p) {i : Nat} (h : i < p) {j : Nat} (hj : j < i) : ∀ n, gz (xn.sv p xs i n) j = gz xs j
  | 0 => rfl
  | n + 1 => by rw [xn.sv, gz_app (by rw [List.length_take]; omega), gz_take hj]
theorem xn_take {p : Nat} {xs : List Int} (hl : xs.length = p) {i : Nat} (h : i < p) : ∀ n, (xn.sv p xs i n).take i = xs.take i
  | 0 => rfl
  | n + 1 => by
    rw [xn.sv, List.take_append_of_le_length (by rw [List.length_take]; omega), List.take_take, Nat.min_self]
/-- What is left behind when one more has been tried. -/
theorem xn_next {p : Nat} {xs : List Int} (hl : xs.length = p) {i : Nat} (h : i < p) (n : Nat) : xe.sv p ((xn.sv p xs i n).set i (n : Int)) (i + 1) = xn.sv p xs i (n + 1) := by
  have hle := xn_length hl h n
  rw [xe.sv, xn.sv, List.take_add_one, List.take_set_of_le (Nat.le_refl i), xn_take hl h n, List.getElem?_set_self (by omega), List.append_assoc]
  rw [show p - (i + 1) = p - i - 1 by omega]; rfl
theorem xn_vl {p : Nat} {xs : List Int} (hl : xs.length = p) {i : Nat} (h : i < p) (n : Nat) : vl.sv ((xn.sv p xs i n).set i (n : Int)) (i + 1) = 5 * vl.sv xs i + n := by
  have hle := xn_length hl h n
  rw [vl.sv, gz_set (by omega), if_pos rfl, Int.toNat_natCast, vl_congr (xs := (xn.sv p xs i n).set i (n : Int)) (ys := xs) i fun j hj => by
    rw [gz_set (by omega), if_neg (by omega), xn_low hl h hj]]
/-- Digits that may stand. -/
def ok.sp (p : Nat) (xs : List Int) : Bool := decide (xs.length = p) && xs.all fun x => decide (0 ≤ x) && decide (x ≤ 4)
theorem ok_spec {p : Nat} {xs : List Int} : ok.sp p xs = true ↔ xs.length = p ∧ ∀ x ∈ xs, 0 ≤ x ∧ x ≤ 4 := by
  simp only [ok.sp, Bool.and_eq_true, decide_eq_true_eq, List.all_eq_true]
theorem ok_gz {p : Nat} {xs : List Int} (h : ok.sp p xs = true) (j : Nat) : 0 ≤ gz xs j ∧ gz xs j ≤ 4 := by
  obtain ⟨h1, h2⟩ := ok_spec.1 h
  by_cases c : j < xs.length
  · exact h2 _ (gz_mem c)
  · rw [gz_out (by omega)]; omega
theorem ok_xn {p : Nat} {xs : List Int} (h : ok.sp p xs = true) {i : Nat} (hi : i < p) : ∀ n, n ≤ 5 → ok.sp p (xn.sv p xs i n) = true
  | 0, _ => h
  | n + 1, hn => by
    obtain ⟨h1, h2⟩ := ok_spec.1 h
    refine ok_spec.2 ⟨xn_length h1 hi _, fun x hx => ?_⟩
    rw [xn.sv, List.mem_append, List.mem_cons, List.mem_replicate] at hx
    rcases hx with hx | rfl | hx
    · exact h2 x (List.mem_of_mem_take hx)
    · omega
    · omega
theorem ok_set {p : Nat} {xs : List Int} (h : ok.sp p xs = true) {i : Nat} {n : Int} (h1 : 0 ≤ n) (h4 : n ≤ 4) : ok.sp p (xs.set i n) = true := by
  obtain ⟨k1, k2⟩ := ok_spec.1 h
  refine ok_spec.2 ⟨by rw [List.length_set, k1], fun x hx => ?_⟩
  rcases List.mem_or_eq_of_mem_set hx with hx | rfl
  · exact k2 x hx
  · exact ⟨h1, h4⟩
/-- All that begin as the first i. -/
def sub.sv (ws : List Int) (p : Nat) (xs : List Int) (i : Nat) : List (List Int) := go.sv ws p (vl.sv xs i * 5 ^ (p - i)) (5 ^ (p - i))
theorem sub_leaf {ws : List Int} {p : Nat} {xs : List Int} (h : ok.sp p xs = true) : sub.sv ws p xs p = bif co.core.sp ws xs 1 p then [xs] else [] := by
  obtain ⟨h1, h2⟩ := ok_spec.1 h
  have e := dig_vl (xs := xs) p (by omega) fun j _ => ok_gz h j
  rw [List.take_of_length_le (by omega)] at e
  rw [sub.sv, Nat.sub_self, Nat.pow_zero, Nat.mul_one, go.sv, Nat.add_zero, e, go.sv, List.nil_append]
/-- Rows found when n have been tried at the place i. -/
def nn.sv (ws : List Int) (p : Nat) (xs : List Int) (i n : Nat) : List (List Int) := go.sv ws p (vl.sv xs i * 5 ^ (p - i)) (n * 5 ^ (p - i - 1))
theorem nn_next {ws : List Int} {p : Nat} {xs : List Int} (hl : xs.length = p) {i : Nat} (h : i < p) (n : Nat) :
    nn.sv ws p xs i (n + 1) = nn.sv ws p xs i n ++ sub.sv ws p ((xn.sv p xs i n).set i (n : Int)) (i + 1) := by
  have e : 5 ^ (p - i) = 5 * 5 ^ (p - i - 1) := by rw [show p - i = (p - i - 1) + 1 by omega, Nat.pow_succ, Nat.mul_comm]; rfl
  rw [nn.sv, Nat.succ_mul, go_add, sub.sv, xn_vl hl h n, show p - (i + 1) = p - i - 1 by omega]
  have e2 : vl.sv xs i * 5 ^ (p - i) + n * 5 ^ (p - i - 1) = (5 * vl.sv xs i + n) * 5 ^ (p - i - 1) := by
    rw [e, Nat.add_mul, Nat.mul_comm 5 (vl.sv xs i), Nat.mul_assoc]
  rw [e2]; rfl
theorem nn_end {ws : List Int} {p : Nat} {xs : List Int} {i : Nat} (h : i < p) : nn.sv ws p xs i 5 = sub.sv ws p xs i := by
  have e : 5 ^ (p - i) = 5 * 5 ^ (p - i - 1) := by rw [show p - i = (p - i - 1) + 1 by omega, Nat.pow_succ, Nat.mul_comm]; rfl
  rw [nn.sv, sub.sv, ← e]
theorem sub_zero (ws : List Int) (p : Nat) (xs : List Int) : sub.sv ws p xs 0 = all.sv ws p := by
  rw [sub.sv, all.sv, vl.sv, Nat.zero_mul, Nat.sub_zero]
theorem sub_length (ws : List Int) {p : Nat} (hp : p ≤ 4) (xs : List Int) (i : Nat) : (sub.sv ws p xs i).length ≤ 625 := by
  have h1 := go_length ws p (vl.sv xs i * 5 ^ (p - i)) (5 ^ (p - i))
  have h2 : 5 ^ (p - i) ≤ 5 ^ 4 := Nat.pow_le_pow_right (by decide) (by omega)
  rw [sub.sv]
  omega
theorem pow625 {p : Nat} (hp : p ≤ 4) : 5 ^ p ≤ 625 := Nat.pow_le_pow_right (by decide) hp
/-! The reference counts up. -/
/-- Digits behind which all is nought. -/
def od.sv (p j v : Nat) : List Int := dig.sv j v ++ List.replicate (p - j) 0
theorem od_length {p j : Nat} (h : j ≤ p) (v : Nat) : (od.sv p j v).length = p := by
  rw [od.sv, List.length_append, dig_length, List.length_replicate]; omega
theorem od_full (p v : Nat) : od.sv p p v = dig.sv p v := by rw [od.sv, Nat.sub_self, List.replicate_zero, List.append_nil]
theorem od_gz {p j : Nat} (h : j + 1 ≤ p) (v : Nat) : gz (od.sv p (j + 1) v) j = ((v % 5 : Nat) : Int) := by
  rw [od.sv, gz_app (by rw [dig_length]; omega), dig.sv]
  have := gz_last (l := dig.sv j (v / 5)) (x := ((v % 5 : Nat) : Int))
  rwa [dig_length] at this
theorem od_set {p j : Nat} (h : j + 1 ≤ p) (v : Nat) (x : Int) : (od.sv p (j + 1) v).set j x = (dig.sv j (v / 5) ++ [x]) ++ List.replicate (p - (j + 1)) 0 := by
  rw [od.sv, List.set_append_left _ _ (by rw [dig_length]; omega), dig.sv, List.set_append_right _ _ (by rw [dig_length]; omega), dig_length, Nat.sub_self]; rfl
theorem od_carry {p j : Nat} (h : j + 1 ≤ p) (v : Nat) : (od.sv p (j + 1) v).set j 0 = od.sv p j (v / 5) := by
  rw [od_set h, od.sv, List.append_assoc, show p - j = (p - (j + 1)) + 1 by omega, List.replicate_succ]; rfl
theorem od_up {p j : Nat} (h : j + 1 ≤ p) {v : Nat} (hv : v % 5 < 4) : (od.sv p (j + 1) v).set j (((v % 5 : Nat) : Int) + 1) = od.sv p (j + 1) (v + 1) := by
  rw [od_set h, od.sv, dig.sv]
  have e1 : (v + 1) / 5 = v / 5 := by omega
  have e2 : (((v + 1) % 5 : Nat) : Int) = ((v % 5 : Nat) : Int) + 1 := by omega
  rw [e1, e2]
theorem dig_zero : ∀ p, dig.sv p 0 = List.replicate p 0
  | 0 => rfl
  | p + 1 => by rw [dig.sv, Nat.zero_div, dig_zero p, Nat.zero_mod, List.replicate_succ']; rfl
/-- Noughts behind are digits too. -/
theorem dig_pad {v : Nat} : ∀ d j, dig.sv (j + d) (v * 5 ^ d) = od.sv (j + d) j v
  | 0, j => by rw [Nat.pow_zero, Nat.mul_one, Nat.add_zero, od_full]
  | d + 1, j => by
    have e1 : v * 5 ^ (d + 1) / 5 = v * 5 ^ d := by rw [Nat.pow_succ, ← Nat.mul_assoc, Nat.mul_div_cancel _ (by decide)]
    have e2 : v * 5 ^ (d + 1) % 5 = 0 := by rw [Nat.pow_succ, ← Nat.mul_assoc, Nat.mul_mod_left]
    rw [← Nat.add_assoc, dig.sv, e1, e2, dig_pad d j, od.sv, od.sv, List.append_assoc]
    congr 1
    rw [show j + d + 1 - j = (j + d - j) + 1 by omega, List.replicate_succ']; rfl
end pl

end Go.Proofs.Ytekadpddilfolaa.Ab
