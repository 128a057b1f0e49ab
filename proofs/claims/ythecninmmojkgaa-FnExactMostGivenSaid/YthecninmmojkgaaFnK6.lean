/-
  Plain: sets that are held as bits; gives, rings that are given around.
-/
import Derived.Test.YthecninmmojkgaaFnUC
import Derived.Test.YthecninmmojkgaaFnAU
import Derived.Test.YthecninmmojkgaaFnB
import Derived.Test.YthecninmmojkgaaFnUD
import Derived.Test.YthecninmmojkgaaFnQ
import Derived.Test.YthecninmmojkgaaAbFrz
import Derived.Test.YthecninmmojkgaaAbWk
namespace Go.Proofs.Ythecninmmojkgaa.Ab
open Go
set_option linter.unusedVariables false
set_option linter.unusedSimpArgs false
set_option maxRecDepth 100000

namespace gvs
/-! Bits. -/
def off.sp (k i : Nat) : Bool := decide (k / 2 ^ i % 2 = 0)
theorem u64_nat {i : Nat} (h : i < 64) : IntKind.u64.wrap ((i : Nat) : Int) = ((i : Nat) : Int) := (by decide +kernel : ∀ i < 64, IntKind.u64.wrap ((i : Nat) : Int) = ((i : Nat) : Int)) i h
theorem shl_one {i : Nat} (h : i < 40) : ishl.sv .i64 1 ((i : Nat) : Int) = ((2 ^ i : Nat) : Int) := (by decide +kernel : ∀ i < 40, ishl.sv .i64 1 ((i : Nat) : Int) = ((2 ^ i : Nat) : Int)) i h
theorem shr_nat {k i : Nat} (h : i ≤ 64) : ishr.sv .i64 ((k : Nat) : Int) ((i : Nat) : Int) = ((k / 2 ^ i : Nat) : Int) := by
  have e : min i IntKind.i64.bits = i := Nat.min_eq_left h
  rw [ishr.sv, Int.toNat_natCast, e, Int.fdiv_eq_ediv_of_nonneg _ (by exact Int.le_of_lt (Int.pow_pos (by decide)))]
  rw [Int.natCast_ediv, Int.natCast_pow]
  rfl
theorem and_nat {a b : Nat} (ha : a < 9223372036854775808) (hb : b < 9223372036854775808) : iand.sv .i64 ((a : Nat) : Int) ((b : Nat) : Int) = ((a &&& b : Nat) : Int) := by
  have h1 : (BitVec.ofInt 64 ((a : Nat) : Int)).toNat = a := by rw [BitVec.ofInt_natCast, BitVec.toNat_ofNat]; omega
  have h2 : (BitVec.ofInt 64 ((b : Nat) : Int)).toNat = b := by rw [BitVec.ofInt_natCast, BitVec.toNat_ofNat]; omega
  have e : iand.sv .i64 ((a : Nat) : Int) ((b : Nat) : Int) = IntKind.i64.wrap (((BitVec.ofInt 64 ((a : Nat) : Int)) &&& (BitVec.ofInt 64 ((b : Nat) : Int))).toNat : Int) := rfl
  rw [e, BitVec.toNat_and, h1, h2]
  have := Nat.and_le_left (n := a) (m := b)
  exact IntWalk.i64_in _ (by omega)
theorem and_one {a : Nat} (ha : a < 9223372036854775808) : iand.sv .i64 ((a : Nat) : Int) 1 = ((a % 2 : Nat) : Int) := by
  have h := and_nat ha (b := 1) (by omega)
  rw [Nat.and_one_is_mod] at h
  exact h
theorem shr_and {k i : Nat} (hk : k < 9223372036854775808) (hi : i ≤ 64) : iand.sv .i64 (ishr.sv .i64 ((k : Nat) : Int) ((i : Nat) : Int)) 1 = bif off.sp k i then 0 else 1 := by
  have h : k / 2 ^ i < 9223372036854775808 := Nat.lt_of_le_of_lt (Nat.div_le_self _ _) hk
  rw [shr_nat hi, and_one h]
  unfold off.sp
  by_cases c : k / 2 ^ i % 2 = 0
  · rw [c, decide_eq_true rfl]; rfl
  · have : k / 2 ^ i % 2 = 1 := by omega
    rw [this]
    rfl
theorem off_big {k i : Nat} (h : k < 2 ^ i) : off.sp k i = true := by
  unfold off.sp
  rw [Nat.div_eq_of_lt h]
  rfl
def up.sv (k i : Nat) : Nat := k ||| 2 ^ i
theorem or_shl : ∀ k < 256, ∀ i < 8, ior.sv .i64 ((k : Nat) : Int) ((2 ^ i : Nat) : Int) = ((up.sv k i : Nat) : Int) := by decide +kernel
theorem up_lt : ∀ k < 256, ∀ i < 8, up.sv k i < 256 := by decide +kernel
theorem and_shl : ∀ k < 256, ∀ i < 8, iand.sv .i64 ((k : Nat) : Int) ((2 ^ i : Nat) : Int) = bif off.sp k i then 0 else ((2 ^ i : Nat) : Int) := by decide +kernel
theorem up_off : ∀ k < 256, ∀ i < 8, ∀ j < 8, off.sp (up.sv k i) j = (off.sp k j && !decide (i = j)) := by decide +kernel
/-- The members of a set. -/
def mb.sv (m : Nat) : Nat → List Int
  | 0 => []
  | n + 1 => bif off.sp m n then mb.sv m n else mb.sv m n ++ [(n : Int)]
theorem mb_mem {m : Nat} : ∀ (n : Nat) (x : Int), x ∈ mb.sv m n → ∃ i : Nat, i < n ∧ x = i ∧ off.sp m i = false := by
  intro n
  induction n with
  | zero => intro x hx; cases hx
  | succ n ih =>
    intro x hx
    rw [mb.sv] at hx
    cases ho : off.sp m n <;> rw [ho] at hx
    · rcases List.mem_append.1 hx with h | h
      · obtain ⟨i, a, b, c⟩ := ih x h
        exact ⟨i, by omega, b, c⟩
      · exact ⟨n, by omega, List.mem_singleton.1 h, ho⟩
    · obtain ⟨i, a, b, c⟩ := ih x hx
      exact ⟨i, by omega, b, c⟩
theorem mb_length (m : Nat) : ∀ n, (mb.sv m n).length ≤ n := by
  intro n
  induction n with
  | zero => exact Nat.le_refl _
  | succ n ih =>
    rw [mb.sv]
    cases off.sp m n
    · rw [cond_false, List.length_append, List.length_singleton]; omega
    · rw [cond_true]; omega
/-- Behind the highest bit there are no more members. -/
theorem mb_more {m a : Nat} (h : m < 2 ^ a) : ∀ d, mb.sv m (a + d) = mb.sv m a := by
  intro d
  induction d with
  | zero => rfl
  | succ d ih =>
    have e : m < 2 ^ (a + d) := Nat.lt_of_lt_of_le h (Nat.pow_le_pow_right (by omega) (by omega))
    rw [show a + (d + 1) = (a + d) + 1 by omega, mb.sv, off_big e, ih]
    rfl
theorem mb_same {m a b : Nat} (ha : m < 2 ^ a) (hb : m < 2 ^ b) : mb.sv m a = mb.sv m b := by
  rcases Nat.le_total a b with h | h
  · have := mb_more ha (b - a)
    rw [show a + (b - a) = b by omega] at this
    exact this.symm
  · have := mb_more hb (a - b)
    rw [show b + (a - b) = a by omega] at this
    exact this
/-- How many bits a number has. -/
def l8.sv (k : Nat) : Nat := bif decide (k < 1) then 0 else bif decide (k < 2) then 1 else bif decide (k < 4) then 2 else bif decide (k < 8) then 3 else bif decide (k < 16) then 4 else bif decide (k < 32) then 5 else bif decide (k < 64) then 6 else bif decide (k < 128) then 7 else 8
def ln.sv (k : Nat) : Nat := bif decide (k < 256) then l8.sv k else 8 + l8.sv (k / 256)
theorem l8_pow : ∀ k < 256, k < 2 ^ l8.sv k := by decide +kernel
theorem l8_le (k : Nat) : l8.sv k ≤ 8 := by
  unfold l8.sv
  cases decide (k < 1) <;> cases decide (k < 2) <;> cases decide (k < 4) <;> cases decide (k < 8) <;> cases decide (k < 16) <;> cases decide (k < 32) <;> cases decide (k < 64) <;> cases decide (k < 128) <;> decide
theorem ln_le (k : Nat) : ln.sv k ≤ 16 := by
  unfold ln.sv
  have := l8_le k
  have := l8_le (k / 256)
  cases decide (k < 256) <;> simp only [cond_true, cond_false] <;> omega
theorem ln_pow {k : Nat} (h : k < 65536) : k < 2 ^ ln.sv k := by
  unfold ln.sv
  by_cases c : k < 256
  · rw [decide_eq_true c, cond_true]; exact l8_pow k c
  · rw [decide_eq_false c, cond_false, Nat.pow_add]
    have h2 := l8_pow (k / 256) (by omega)
    omega
theorem mb_ln {k n : Nat} (hn : n ≤ 16) (h : k < 2 ^ n) : mb.sv k (ln.sv k) = mb.sv k n :=
  mb_same (ln_pow (Nat.lt_of_lt_of_le h (by have := Nat.pow_le_pow_right (n := 2) (by omega) hn; omega))) h

/-! Lists laid one behind the other, tests of all. -/
def cat {α : Type} (P : Nat → List α) : Nat → Nat → List α
  | 0, _ => []
  | d + 1, k => P k ++ cat P d (k + 1)
def alf (P : Nat → Bool) : Nat → Nat → Bool
  | 0, _ => true
  | d + 1, k => P k && alf P d (k + 1)
theorem alf_iff {P : Nat → Bool} : ∀ d k, alf P d k = true ↔ ∀ j, k ≤ j → j < k + d → P j = true := by
  intro d
  induction d with
  | zero => intro k; exact ⟨fun _ j h1 h2 => by omega, fun _ => rfl⟩
  | succ d ih =>
    intro k
    rw [alf, Bool.and_eq_true, ih]
    constructor
    · rintro ⟨h1, h2⟩ j a b
      rcases Nat.eq_or_lt_of_le a with e | e
      · subst e; exact h1
      · exact h2 j e (by omega)
    · intro h
      exact ⟨h k (Nat.le_refl _) (by omega), fun j a b => h j (by omega) (by omega)⟩
theorem mem_cat {α : Type} {P : Nat → List α} {x : α} : ∀ d k, x ∈ cat P d k ↔ ∃ j, k ≤ j ∧ j < k + d ∧ x ∈ P j := by
  intro d
  induction d with
  | zero => intro k; simp [cat]; intro j h1 h2; omega
  | succ d ih =>
    intro k
    rw [cat, List.mem_append, ih]
    constructor
    · rintro (h | ⟨j, a, b, h⟩)
      · exact ⟨k, Nat.le_refl _, by omega, h⟩
      · exact ⟨j, by omega, by omega, h⟩
    · rintro ⟨j, a, b, h⟩
      rcases Nat.eq_or_lt_of_le a with e | e
      · subst e; exact .inl h
      · exact .inr ⟨j, e, by omega, h⟩
theorem cat_le {α : Type} {P : Nat → List α} {B : Nat} (h : ∀ j, (P j).length ≤ B) : ∀ d k, (cat P d k).length ≤ d * B := by
  intro d
  induction d with
  | zero => intro k; simp [cat]
  | succ d ih =>
    intro k
    have h1 := h k
    have h2 := ih (k + 1)
    rw [cat, List.length_append, Nat.add_mul, Nat.one_mul]
    omega

/-! Gives. -/
/-- A row of what somebody gives: rising, and not the own. -/
def rr.sp (i : Nat) (r : List Int) : Bool := alf (fun k => !((gz r k == ((i : Nat) : Int)) || (decide (0 < k) && decide (gz r k ≤ gz r (k - 1))))) r.length 0
def gv.sp (W : List (List Int)) (L : Int) : Bool := (!(decide ((W.length : Int) < 1) || decide (8 < (W.length : Int))) && (lo.sp W.length W && (decide (2 ≤ L) && decide (L ≤ 4)))) && alf (fun i => rr.sp i (gr W i)) W.length 0
structure GV (W : List (List Int)) : Prop where
  h1 : 1 ≤ W.length
  h8 : W.length ≤ 8
  rl : ∀ i, i < W.length → (gr W i).length ≤ 8
  rin : ∀ i, i < W.length → ∀ x ∈ gr W i, 0 ≤ x ∧ x < (W.length : Int)
  rne : ∀ i, i < W.length → ((i : Nat) : Int) ∉ gr W i
theorem asc_ge {r : List Int} (h : ∀ k, 0 < k → k < r.length → gz r (k - 1) < gz r k) (h0 : ∀ x ∈ r, 0 ≤ x) : ∀ k, k < r.length → (k : Int) ≤ gz r k := by
  intro k
  induction k with
  | zero => intro hk; exact h0 _ (gz_mem hk)
  | succ k ih =>
    intro hk
    have h1 := ih (by omega)
    have h2 := h (k + 1) (by omega) hk
    rw [Nat.add_sub_cancel] at h2
    omega
theorem rr_iff {i : Nat} {r : List Int} : rr.sp i r = true ↔ (∀ k, k < r.length → gz r k ≠ (i : Int)) ∧ ∀ k, 0 < k → k < r.length → gz r (k - 1) < gz r k := by
  unfold rr.sp
  rw [alf_iff]
  constructor
  · intro h
    have key : ∀ k, k < r.length → gz r k ≠ (i : Int) ∧ (0 < k → gz r (k - 1) < gz r k) := by
      intro k hk
      have := h k (Nat.zero_le _) (by omega)
      simp only [Bool.not_eq_true', Bool.or_eq_false_iff, beq_eq_false_iff_ne, ne_eq, Bool.and_eq_false_iff, decide_eq_false_iff_not] at this
      refine ⟨this.1, fun h0 => ?_⟩
      rcases this.2 with a | a
      · exact absurd h0 a
      · omega
    exact ⟨fun k hk => (key k hk).1, fun k h0 hk => (key k hk).2 h0⟩
  · rintro ⟨h1, h2⟩ k _ hk
    simp only [Bool.not_eq_true', Bool.or_eq_false_iff, beq_eq_false_iff_ne, ne_eq, Bool.and_eq_false_iff, decide_eq_false_iff_not]
    refine ⟨h1 k (by omega), ?_⟩
    by_cases c : 0 < k
    · right; have := h2 k c (by omega); omega
    · left; exact c
theorem row_in {W : List (List Int)} {n : Int} (h : lo.sp n W = true) {i : Nat} (hi : i < W.length) : ∀ x ∈ gr W i, 0 ≤ x ∧ x < n := by
  have hm : gr W i ∈ W := by
    unfold gr
    rw [List.getD_eq_getElem?_getD, List.getElem?_eq_getElem hi]
    exact List.getElem_mem hi
  have h1 := List.all_eq_true.1 h _ hm
  unfold rk.sp at h1
  rw [uniq_tws, Bool.and_eq_true] at h1
  intro x hx
  have h2 := List.all_eq_true.1 h1.1 x hx
  simp only [iw.sp, Bool.and_eq_true, decide_eq_true_eq] at h2
  omega
theorem valid {W : List (List Int)} {L : Int} (h : gv.sp W L = true) : GV W ∧ 2 ≤ L ∧ L ≤ 4 := by
  simp only [gv.sp, Bool.and_eq_true, Bool.not_eq_true', Bool.or_eq_false_iff, decide_eq_false_iff_not, decide_eq_true_eq] at h
  obtain ⟨⟨⟨h1, h8⟩, hl, h2, h4⟩, ha⟩ := h
  rw [alf_iff] at ha
  refine ⟨⟨by omega, by omega, fun i hi => ?_, fun i hi => row_in hl hi, fun i hi hm => ?_⟩, h2, h4⟩
  · obtain ⟨_, a2⟩ := rr_iff.1 (ha i (Nat.zero_le _) (by omega))
    have hr := row_in hl hi
    rcases Nat.lt_or_ge 8 (gr W i).length with c | c
    · have g := asc_ge a2 (fun x hx => (hr x hx).1) 8 c
      have := (hr _ (gz_mem c)).2
      omega
    · exact c
  · obtain ⟨a1, _⟩ := rr_iff.1 (ha i (Nat.zero_le _) (by omega))
    obtain ⟨k, hk, e⟩ := List.mem_iff_getElem.1 hm
    exact a1 k hk (by rw [gz_eq hk]; exact e)

/-! Rings. -/
/-- The last one's row, of a ring begun. -/
def lr (W : List (List Int)) (r : List Int) : List Int := gr W (gz r (r.length - 1)).toNat
def can.sp (r : List Int) (x : Int) : Bool := decide (gz r 0 < x) && !r.any (has.sp x)
def gw.sv (W : List (List Int)) : Nat → List Int → List (List Int)
  | 0, r => bif (lr W r).any (has.sp (gz r 0)) then [r] else []
  | N + 1, r => cat (fun k => bif can.sp r (gz (lr W r) k) then gw.sv W N (r ++ [gz (lr W r) k]) else []) (lr W r).length 0
structure Rg (n : Nat) (r : List Int) : Prop where
  pos : 1 ≤ r.length
  ran : ∀ x ∈ r, 0 ≤ x ∧ x < (n : Int)
  nd : r.Nodup
theorem Rg.last {n : Nat} {r : List Int} (h : Rg n r) : 0 ≤ gz r (r.length - 1) ∧ gz r (r.length - 1) < (n : Int) := h.ran _ (gz_mem (by have := h.pos; omega))
theorem Rg.one {n i : Nat} (h : i < n) : Rg n [(i : Int)] := ⟨by simp, fun x hx => by rw [List.mem_singleton] at hx; omega, by simp⟩
theorem Rg.add {n : Nat} {r : List Int} (h : Rg n r) {x : Int} (hx : 0 ≤ x ∧ x < (n : Int)) (hc : can.sp r x = true) : Rg n (r ++ [x]) := by
  simp only [can.sp, Bool.and_eq_true, Bool.not_eq_true', decide_eq_true_eq] at hc
  refine ⟨by rw [List.length_append]; have := h.pos; omega, fun y hy => ?_, ?_⟩
  · rcases List.mem_append.1 hy with hy | hy
    · exact h.ran y hy
    · rw [List.mem_singleton] at hy; subst hy; exact hx
  · rw [List.nodup_append]
    refine ⟨h.nd, by simp, fun a ha b hb e => ?_⟩
    rw [List.mem_singleton] at hb
    subst hb; subst e
    have := (List.any_eq_false.1 hc.2) a ha
    simp [has.sp] at this
theorem lr_in {W : List (List Int)} (g : GV W) {r : List Int} (h : Rg W.length r) : (lr W r).length ≤ 8 ∧ ∀ k, k < (lr W r).length → 0 ≤ gz (lr W r) k ∧ gz (lr W r) k < (W.length : Int) := by
  have hl := h.last
  have hi : (gz r (r.length - 1)).toNat < W.length := by omega
  exact ⟨g.rl _ hi, fun k hk => g.rin _ hi _ (gz_mem hk)⟩
theorem gw_in {W : List (List Int)} (g : GV W) : ∀ (N : Nat) (r : List Int), Rg W.length r → ∀ q ∈ gw.sv W N r, Rg W.length q ∧ q.length = r.length + N
  | 0, r, h, q, hq => by
    rw [gw.sv] at hq
    cases hc : (lr W r).any (has.sp (gz r 0)) <;> rw [hc] at hq
    · cases hq
    · rw [cond_true, List.mem_singleton] at hq; subst hq; exact ⟨h, rfl⟩
  | N + 1, r, h, q, hq => by
    rw [gw.sv, mem_cat] at hq
    obtain ⟨j, _, hj, hq⟩ := hq
    cases hc : can.sp r (gz (lr W r) j) <;> rw [hc] at hq
    · cases hq
    · rw [cond_true] at hq
      obtain ⟨a, b⟩ := gw_in g N _ (h.add ((lr_in g h).2 j (by omega)) hc) q hq
      refine ⟨a, ?_⟩
      rw [b, List.length_append, List.length_singleton]
      omega
theorem gw_le {W : List (List Int)} (g : GV W) : ∀ (N : Nat) (r : List Int), Rg W.length r → (gw.sv W N r).length ≤ 8 ^ N
  | 0, r, h => by
    rw [gw.sv]
    cases (lr W r).any (has.sp (gz r 0)) <;> simp
  | N + 1, r, h => by
    rw [gw.sv]
    have h8 := (lr_in g h).1
    have key : ∀ d k, k + d = (lr W r).length → (cat (fun k => bif can.sp r (gz (lr W r) k) then gw.sv W N (r ++ [gz (lr W r) k]) else []) d k).length ≤ d * 8 ^ N := by
      intro d
      induction d with
      | zero => intro k _; simp [cat]
      | succ d ih =>
        intro k hk
        have h2 := ih (k + 1) (by omega)
        rw [cat, List.length_append, Nat.add_mul, Nat.one_mul]
        have h1 : (bif can.sp r (gz (lr W r) k) then gw.sv W N (r ++ [gz (lr W r) k]) else []).length ≤ 8 ^ N := by
          cases hc : can.sp r (gz (lr W r) k)
          · exact Nat.zero_le _
          · exact gw_le g N _ (h.add ((lr_in g h).2 k (by omega)) hc)
        omega
    have h3 := key (lr W r).length 0 (by omega)
    have h4 : (lr W r).length * 8 ^ N ≤ 8 * 8 ^ N := Nat.mul_le_mul_right _ h8
    rw [Nat.pow_succ, Nat.mul_comm]
    omega
/-- Rings of one length; all rings. -/
def r1.sv (W : List (List Int)) (s : Nat) : List (List Int) := cat (fun i => gw.sv W (s - 1) [(i : Int)]) W.length 0
def rs.sv (W : List (List Int)) (L : Nat) : List (List Int) := cat (fun s => r1.sv W s) (L - 1) 2
theorem rs_in {W : List (List Int)} (g : GV W) {L : Nat} : ∀ q ∈ rs.sv W L, Rg W.length q ∧ q.length ≤ L := by
  intro q hq
  unfold rs.sv at hq
  rw [mem_cat] at hq
  obtain ⟨s, h2, hs, hq⟩ := hq
  unfold r1.sv at hq
  rw [mem_cat] at hq
  obtain ⟨i, _, hi, hq⟩ := hq
  obtain ⟨a, b⟩ := gw_in g (s - 1) _ (Rg.one (by omega)) q hq
  refine ⟨a, ?_⟩
  rw [List.length_singleton] at b
  omega

/-! The most that can be given around. -/
/-- Those who are in a ring, beside those of before; whether none of the ring was among these. -/
def us.sv (q : List Int) (u : Nat) : Nat → Nat
  | 0 => u
  | k + 1 => up.sv (us.sv q u k) (gz q k).toNat
def un.sp (q : List Int) (u : Nat) : Nat → Bool
  | 0 => true
  | k + 1 => un.sp q u k && off.sp (us.sv q u k) (gz q k).toNat
def su.sv (Q : List (List Int)) (l : List Int) : Nat → Nat
  | 0 => 0
  | k + 1 => us.sv (gr Q (gz l k).toNat) (su.sv Q l k) (gr Q (gz l k).toNat).length
def sk.sp (Q : List (List Int)) (l : List Int) : Nat → Bool
  | 0 => true
  | k + 1 => sk.sp Q l k && un.sp (gr Q (gz l k).toNat) (su.sv Q l k) (gr Q (gz l k).toNat).length
def sc.sv (Q : List (List Int)) (l : List Int) : Nat → Nat
  | 0 => 0
  | k + 1 => sc.sv Q l k + (gr Q (gz l k).toNat).length
def pk.sv (Q : List (List Int)) (l : List Int) : Nat → List (List Int)
  | 0 => []
  | k + 1 => pk.sv Q l k ++ [gr Q (gz l k).toNat]
theorem gz_app {l : List Int} {x : Int} {k : Nat} (h : k < l.length) : gz (l ++ [x]) k = gz l k := by
  rw [gz_eq (by rw [List.length_append]; omega), gz_eq h, List.getElem_append_left]
theorem gz_app_end {l : List Int} {x : Int} : gz (l ++ [x]) l.length = x := by
  rw [gz_eq (by simp)]
  simp
theorem s_app (Q : List (List Int)) (l : List Int) (x : Int) : ∀ k, k ≤ l.length → su.sv Q (l ++ [x]) k = su.sv Q l k ∧ sk.sp Q (l ++ [x]) k = sk.sp Q l k ∧ sc.sv Q (l ++ [x]) k = sc.sv Q l k ∧ pk.sv Q (l ++ [x]) k = pk.sv Q l k
  | 0, _ => ⟨rfl, rfl, rfl, rfl⟩
  | k + 1, h => by
    obtain ⟨a, b, c, d⟩ := s_app Q l x k (by omega)
    simp only [su.sv, sk.sp, sc.sv, pk.sv, a, b, c, d, gz_app (show k < l.length by omega), and_self]
/-- All of a list. -/
def Su (Q : List (List Int)) (l : List Int) : Nat := su.sv Q l l.length
def Sk (Q : List (List Int)) (l : List Int) : Bool := sk.sp Q l l.length
def Sc (Q : List (List Int)) (l : List Int) : Nat := sc.sv Q l l.length
def Pk (Q : List (List Int)) (l : List Int) : List (List Int) := pk.sv Q l l.length
theorem S_app (Q : List (List Int)) (l : List Int) (i : Nat) : Su Q (l ++ [(i : Int)]) = us.sv (gr Q i) (Su Q l) (gr Q i).length ∧ Sk Q (l ++ [(i : Int)]) = (Sk Q l && un.sp (gr Q i) (Su Q l) (gr Q i).length) ∧
    Sc Q (l ++ [(i : Int)]) = Sc Q l + (gr Q i).length ∧ Pk Q (l ++ [(i : Int)]) = Pk Q l ++ [gr Q i] := by
  obtain ⟨a, b, c, d⟩ := s_app Q l i l.length (Nat.le_refl _)
  have e : (l ++ [(i : Int)]).length = l.length + 1 := by simp
  simp only [Su, Sk, Sc, Pk, e, su.sv, sk.sp, sc.sv, pk.sv, a, b, c, d, gz_app_end, Int.toNat_natCast, and_self]
/-- The best set of the first m, and how many it has. -/
def bs (Q : List (List Int)) (n : Nat) : Nat → Nat × Nat
  | 0 => (0, 0)
  | m + 1 => bif Sk Q (mb.sv m n) && decide ((bs Q n m).2 < Sc Q (mb.sv m n)) then (m, Sc Q (mb.sv m n)) else bs Q n m
def Good (Q : List (List Int)) (n : Nat) (b : Nat × Nat) : Prop := b.1 < 2 ^ n ∧ Sk Q (mb.sv b.1 n) = true ∧ b.2 = Sc Q (mb.sv b.1 n)
theorem mb_zero : ∀ n, mb.sv 0 n = []
  | 0 => rfl
  | n + 1 => by
    rw [mb.sv, mb_zero n]
    have : off.sp 0 n = true := by simp [off.sp]
    rw [this]
    rfl
theorem bs_good (Q : List (List Int)) (n : Nat) : ∀ m, m ≤ 2 ^ n → Good Q n (bs Q n m)
  | 0, _ => ⟨Nat.pos_of_ne_zero (by simp [bs]), by rw [bs, mb_zero]; rfl, by rw [bs, mb_zero]; rfl⟩
  | m + 1, h => by
    rw [bs]
    cases c : Sk Q (mb.sv m n) && decide ((bs Q n m).2 < Sc Q (mb.sv m n))
    · exact bs_good Q n m (by omega)
    · rw [Bool.and_eq_true] at c
      exact ⟨by simp only [cond_true]; omega, c.1, rfl⟩
end gvs

-- numbers
namespace gvs
/-- Gives that are valid, as the program tells them. -/
def gc.sp (n : Nat) (i : Nat) (r : List Int) : Bool := (r.all (iw.sp 0 ((n : Int) - 1)) && !r.any (has.sp ((i : Nat) : Int))) && alf (fun k => !decide (gz r k ≤ gz r (k - 1))) (r.length - 1) 1
def gp.sp (W : List (List Int)) (L : Int) : Bool := alf (fun i => gc.sp W.length i (gr W i)) W.length 0 && ((decide (1 ≤ (W.length : Int)) && decide ((W.length : Int) ≤ 8)) && (decide (2 ≤ L) && decide (L ≤ 4)))
theorem uniq_in {n : Int} : ∀ {xs pre : List Int}, (∀ x ∈ xs, 0 ≤ x ∧ x < n) → xs.Nodup → (∀ x ∈ xs, x ∉ pre) → uniq.sq n pre xs = true
  | [], _, _, _, _ => rfl
  | y :: r, pre, h, nd, dj => by
    have hy := h y (List.mem_cons_self ..)
    rw [List.nodup_cons] at nd
    have hn : pre.any (has.sp y) = false := by
      rw [List.any_eq_false]
      intro z hz e
      simp only [has.sp, beq_iff_eq] at e
      subst e
      exact dj _ (List.mem_cons_self ..) hz
    simp only [uniq.sq, hn, Bool.not_false, Bool.and_true, Bool.and_eq_true, decide_eq_true_eq]
    refine ⟨by omega, uniq_in (fun x hx => h x (List.mem_cons_of_mem _ hx)) nd.2 fun x hx hm => ?_⟩
    rcases List.mem_append.1 hm with hm | hm
    · exact dj x (List.mem_cons_of_mem _ hx) hm
    · rw [List.mem_singleton] at hm; subst hm; exact nd.1 hx
theorem asc_lt {r : List Int} (h : ∀ k, 0 < k → k < r.length → gz r (k - 1) < gz r k) : ∀ b a, a < b → b < r.length → gz r a < gz r b := by
  intro b
  induction b with
  | zero => intro a ha; omega
  | succ b ih =>
    intro a ha hb
    have h1 := h (b + 1) (by omega) hb
    rw [Nat.add_sub_cancel] at h1
    rcases Nat.lt_or_ge a b with c | c
    · have := ih a c (by omega); omega
    · obtain rfl : a = b := by omega
      exact h1
theorem asc_nd {r : List Int} (h : ∀ k, 0 < k → k < r.length → gz r (k - 1) < gz r k) : r.Nodup := by
  refine List.pairwise_iff_getElem.2 fun a b ha hb hab e => ?_
  have := asc_lt h b a hab hb
  rw [gz_eq ha, gz_eq hb, e] at this
  omega
theorem gc_iff {n i : Nat} {r : List Int} : gc.sp n i r = true ↔ ((∀ x ∈ r, 0 ≤ x ∧ x < (n : Int)) ∧ (∀ k, k < r.length → gz r k ≠ (i : Int))) ∧ ∀ k, 0 < k → k < r.length → gz r (k - 1) < gz r k := by
  unfold gc.sp
  rw [Bool.and_eq_true, Bool.and_eq_true, alf_iff, List.all_eq_true, Bool.not_eq_true', List.any_eq_false]
  constructor
  · rintro ⟨⟨a, b⟩, c⟩
    refine ⟨⟨fun x hx => ?_, fun k hk e => ?_⟩, fun k h0 hk => ?_⟩
    · have := a x hx
      simp only [iw.sp, Bool.and_eq_true, decide_eq_true_eq] at this
      omega
    · have := b _ (gz_mem hk)
      simp [has.sp, e] at this
    · have := c k h0 (by omega)
      simp only [Bool.not_eq_true', decide_eq_false_iff_not] at this
      omega
  · rintro ⟨⟨a, b⟩, c⟩
    refine ⟨⟨fun x hx => ?_, fun x hx e => ?_⟩, fun k h0 hk => ?_⟩
    · have := a x hx
      simp only [iw.sp, Bool.and_eq_true, decide_eq_true_eq]
      omega
    · simp only [has.sp, beq_iff_eq] at e
      obtain ⟨k, hk, rfl⟩ := List.mem_iff_getElem.1 hx
      exact b k hk (by rw [gz_eq hk]; exact e)
    · simp only [Bool.not_eq_true', decide_eq_false_iff_not]
      have := c k (by omega) (by omega)
      omega
theorem gp_eq (W : List (List Int)) (L : Int) : gp.sp W L = gv.sp W L := by
  rw [Bool.eq_iff_iff]
  unfold gp.sp gv.sp
  simp only [Bool.and_eq_true, Bool.not_eq_true', Bool.or_eq_false_iff, decide_eq_false_iff_not, decide_eq_true_eq, alf_iff]
  constructor
  · rintro ⟨a, ⟨h1, h8⟩, h2, h4⟩
    refine ⟨⟨⟨by omega, by omega⟩, ?_, h2, h4⟩, fun j hj hl => ?_⟩
    · refine List.all_eq_true.2 fun r hr => ?_
      obtain ⟨k, hk, rfl⟩ := List.mem_iff_getElem.1 hr
      have g := gc_iff.1 (a k (Nat.zero_le _) (by omega))
      rw [gr_eq hk] at g
      exact uniq_in g.1.1 (asc_nd g.2) (fun x _ => by simp)
    · obtain ⟨⟨_, g2⟩, g3⟩ := gc_iff.1 (a j hj hl)
      exact rr_iff.2 ⟨g2, g3⟩
  · rintro ⟨⟨⟨h1, h8⟩, hl, h2, h4⟩, a⟩
    refine ⟨fun j hj hlt => ?_, ⟨by omega, by omega⟩, h2, h4⟩
    obtain ⟨g2, g3⟩ := rr_iff.1 (a j hj hlt)
    exact gc_iff.2 ⟨⟨row_in hl (by omega), g2⟩, g3⟩
end gvs

namespace areGives
def R : List AVal → Option (Bool × AVal × List Blk)
  | [.ro (.rows .i64 W) m 1, .int .i64 l] => some (decide (m = W.length ∧ m ≤ 4611686018427387903) && short.sp 4611686018427387903 W, .bool (gvs.gv.sp W l), [])
  | _ => none
def hd : Nat → Head := fun i => bif eqN i 0 then ⟨[1, 4, 5, 11, 12, 13], none⟩ else ⟨[1, 4, 5, 7, 8, 11, 12, 13], none⟩
noncomputable def L0 (f n : Nat) (s : State) := loopAt Try.prog (orc [⟨74, areWithin.R⟩, ⟨58, slContains.R⟩, ⟨51, within.R⟩]) hd Dr.std 0 f (bodyOf Try.f56) 0 [true, true, false, true] (retK Try.prog [4] 0 none) n s
noncomputable def L2 (f n n2 : Nat) (s : State) := loopAt Try.prog (orc [⟨74, areWithin.R⟩, ⟨58, slContains.R⟩, ⟨51, within.R⟩]) hd Dr.std 0 f (bodyAt (bodyOf Try.f56) [true, true, false, true]) (curAt (bodyOf Try.f56) 0 [true, true, false, true]) [true, true, false, true, true, true] (iterK (normE 0 (hd (curAt (bodyOf Try.f56) 0 [true, true, false, true]))) (L0 f n) (contAt Try.prog (orc [⟨74, areWithin.R⟩, ⟨58, slContains.R⟩, ⟨51, within.R⟩]) hd Dr.std 0 f (bodyOf Try.f56) 0 [true, true, false, true] (retK Try.prog [4] 0 none))) n2 s
theorem start (W : List (List Int)) (l : Int) (f : Nat) :
  runFn Try.prog (orc [⟨74, areWithin.R⟩, ⟨58, slContains.R⟩, ⟨51, within.R⟩]) hd Dr.std none f (bodyOf Try.f56) 51 [4] [.ro (.rows .i64 W) W.length 1, .int .i64 l] []
  = (L0 f f (mkS (51 : Nat) [((1 : Nat), AVal.int IntKind.i64 l), ((4 : Nat), AVal.bool false), ((5 : Nat), AVal.int IntKind.i64 (↑W.length : Int)), ((11 : Nat), AVal.ro (Cont.rows IntKind.i64 W) W.length (1 : Nat)), ((12 : Nat), AVal.int IntKind.i64 (↑W.length : Int)), ((13 : Nat), AVal.int IntKind.i64 (0 : Int))] [])) := by kernel_rfl
theorem round0 (W : List (List Int)) (l : Int) (i f n : Nat) :
  L0 f (n + 1) (mkS 51 [(1, .int .i64 l), (4, .bool false), (5, .int .i64 ((W.length : Nat) : Int)), (11, .ro (.rows .i64 W) W.length 1), (12, .int .i64 ((W.length : Nat) : Int)), (13, .int .i64 ((i : Nat) : Int))] [])
  = (bif decide ((↑i : Int) < (↑W.length : Int)) then bif true && (decide ((0 : Int) ≤ (↑i : Int)) && decide ((↑i : Int) < (↑W.length : Int))) then bif decide ((↑i : Int).toNat < W.length) then bif decide ((gr W (↑i : Int).toNat).length ≤ (gr W (↑i : Int).toNat).length ∧ (gr W (↑i : Int).toNat).length ≤ (4611686018427387904 : Nat)) && (true && (true && (true && true)) || true && true) then bif !(List.take (gr W (↑i : Int).toNat).length (gr W (↑i : Int).toNat)).all fun x => decide ((0 : Int) ≤ x) && decide (x ≤ IntKind.i64.wrap ((↑W.length : Int) - (1 : Int))) then some (AVal.bool false, []) else bif decide ((gr W (↑i : Int).toNat).length ≤ (gr W (↑i : Int).toNat).length ∧ (gr W (↑i : Int).toNat).length ≤ (4611686018427387904 : Nat)) && (true && (true && true) || true && true) then bif (List.take (gr W (↑i : Int).toNat).length (gr W (↑i : Int).toNat)).any (has.sp (↑i : Int)) then some (AVal.bool false, []) else L2 f n f (mkS (51 : Nat) [((1 : Nat), AVal.int IntKind.i64 l), ((4 : Nat), AVal.bool false), ((5 : Nat), AVal.int IntKind.i64 (↑W.length : Int)), ((7 : Nat), AVal.ro (Cont.ints IntKind.i64 (gr W (↑i : Int).toNat)) (gr W (↑i : Int).toNat).length (1 : Nat)), ((8 : Nat), AVal.int IntKind.i64 (1 : Int)), ((11 : Nat), AVal.ro (Cont.rows IntKind.i64 W) W.length (1 : Nat)), ((12 : Nat), AVal.int IntKind.i64 (↑W.length : Int)), ((13 : Nat), AVal.int IntKind.i64 (↑i : Int))] []) else none else none else none else none else bif true && (true && true || true && true) then bif decide ((1 : Int) ≤ (↑W.length : Int)) && decide ((↑W.length : Int) ≤ (8 : Int)) then bif true && (true && true || true && true) then some (AVal.bool (decide ((2 : Int) ≤ l) && decide (l ≤ (4 : Int))), []) else none else some (AVal.bool false, []) else none) := by kernel_rfl
theorem round2 (W : List (List Int)) (r : List Int) (l : Int) (i k f n n2 : Nat) :
  L2 f n (n2 + 1) (mkS 51 [(1, .int .i64 l), (4, .bool false), (5, .int .i64 ((W.length : Nat) : Int)), (11, .ro (.rows .i64 W) W.length 1), (12, .int .i64 ((W.length : Nat) : Int)), (13, .int .i64 ((i : Nat) : Int)), (7, .ro (.ints .i64 r) r.length 1), (8, .int .i64 ((k : Nat) : Int))] [])
  = (bif decide ((↑k : Int) < (↑r.length : Int)) then bif true && (decide ((0 : Int) ≤ (↑k : Int)) && decide ((↑k : Int) < (↑r.length : Int))) then bif decide ((↑k : Int).toNat < r.length) then bif true && (decide ((0 : Int) ≤ IntKind.i64.wrap ((↑k : Int) - (1 : Int))) && decide (IntKind.i64.wrap ((↑k : Int) - (1 : Int)) < (↑r.length : Int))) then bif decide ((IntKind.i64.wrap ((↑k : Int) - (1 : Int))).toNat < r.length) then bif decide (gz r (↑k : Int).toNat ≤ gz r (IntKind.i64.wrap ((↑k : Int) - (1 : Int))).toNat) then some (AVal.bool false, []) else L2 f n n2 (mkS (51 : Nat) [((1 : Nat), AVal.int IntKind.i64 l), ((4 : Nat), AVal.bool false), ((5 : Nat), AVal.int IntKind.i64 (↑W.length : Int)), ((7 : Nat), AVal.ro (Cont.ints IntKind.i64 r) r.length (1 : Nat)), ((8 : Nat), AVal.int IntKind.i64 (IntKind.i64.wrap ((↑k : Int) + (1 : Int)))), ((11 : Nat), AVal.ro (Cont.rows IntKind.i64 W) W.length (1 : Nat)), ((12 : Nat), AVal.int IntKind.i64 (↑W.length : Int)), ((13 : Nat), AVal.int IntKind.i64 (↑i : Int))] []) else none else none else none else none else L0 f n (mkS (51 : Nat) [((1 : Nat), AVal.int IntKind.i64 l), ((4 : Nat), AVal.bool false), ((5 : Nat), AVal.int IntKind.i64 (↑W.length : Int)), ((11 : Nat), AVal.ro (Cont.rows IntKind.i64 W) W.length (1 : Nat)), ((12 : Nat), AVal.int IntKind.i64 (↑W.length : Int)), ((13 : Nat), AVal.int IntKind.i64 (IntKind.i64.wrap ((↑i : Int) + (1 : Int))))] [])) := by kernel_rfl
theorem loop2 (W : List (List Int)) (r : List Int) (l : Int) (i f n : Nat) (hi : i < W.length) (hW : W.length ≤ 4611686018427387903) (hl : r.length ≤ 4611686018427387903) : ∀ (d k n2 : Nat), (k + d = r.length ∨ d = 0 ∧ r.length ≤ k) → k ≤ 4611686018427387904 → 1 ≤ k → d < n2 →
    L2 f n n2 (mkS 51 [(1, .int .i64 l), (4, .bool false), (5, .int .i64 ((W.length : Nat) : Int)), (11, .ro (.rows .i64 W) W.length 1), (12, .int .i64 ((W.length : Nat) : Int)), (13, .int .i64 ((i : Nat) : Int)), (7, .ro (.ints .i64 r) r.length 1), (8, .int .i64 ((k : Nat) : Int))] []) = bif gvs.alf (fun k => !decide (gz r k ≤ gz r (k - 1))) d k then L0 f n (mkS 51 [(1, .int .i64 l), (4, .bool false), (5, .int .i64 ((W.length : Nat) : Int)), (11, .ro (.rows .i64 W) W.length 1), (12, .int .i64 ((W.length : Nat) : Int)), (13, .int .i64 (((i + 1) : Nat) : Int))] []) else some (.bool false, []) := by
  intro d
  induction d with
  | zero =>
    intro k n2 hk hk2 h1 hn
    obtain ⟨n2, rfl⟩ : ∃ q, n2 = q + 1 := ⟨n2 - 1, by omega⟩
    rw [round2, gvs.alf]
    simp -implicitDefEqProofs (disch := omega) only [take_one, set_one, decide_eq_true, decide_eq_false, IntWalk.i64_in, beqT, beqF, bneT, bneF, nat_succ, ← Int.natCast_mul, ← Int.natCast_add, Int.toNat_natCast, Int.zero_mul, Int.zero_add, Int.add_zero, Nat.zero_add, Nat.add_zero, Nat.zero_mul, List.length_singleton, List.length_append, List.length_nil, List.length_cons, List.take_length, List.drop_zero, List.replicate_zero, List.take_nil, List.nil_append, Nat.reduceBEq, Nat.reduceMul, Nat.reduceLeDiff, eq_self, and_self, true_and, and_true, decide_true, decide_false, Bool.and_self, Bool.or_self, Bool.and_true, Bool.true_and, Bool.and_false, Bool.false_and, Bool.or_true, Bool.true_or, Bool.or_false, Bool.false_or, Bool.not_true, Bool.not_false, cond_true, cond_false]
  | succ d ih =>
    intro k n2 hk hk2 h1 hn
    obtain ⟨n2, rfl⟩ : ∃ q, n2 = q + 1 := ⟨n2 - 1, by omega⟩
    have g := ih (k + 1) n2 (by omega) (by omega) (by omega) (by omega)
    have wk : IntKind.i64.wrap (((k : Nat) : Int) - 1) = ((k - 1 : Nat) : Int) := by
      rw [IntWalk.i64_in _ (by omega)]; omega
    rw [round2, gvs.alf]
    by_cases c2 : gz r k ≤ gz r (k - 1)
    · simp -implicitDefEqProofs (disch := omega) only [wk, take_one, set_one, decide_eq_true, decide_eq_false, IntWalk.i64_in, beqT, beqF, bneT, bneF, nat_succ, ← Int.natCast_mul, ← Int.natCast_add, Int.toNat_natCast, Int.zero_mul, Int.zero_add, Int.add_zero, Nat.zero_add, Nat.add_zero, Nat.zero_mul, List.length_singleton, List.length_append, List.length_nil, List.length_cons, List.take_length, List.drop_zero, List.replicate_zero, List.take_nil, List.nil_append, Nat.reduceBEq, Nat.reduceMul, Nat.reduceLeDiff, eq_self, and_self, true_and, and_true, decide_true, decide_false, Bool.and_self, Bool.or_self, Bool.and_true, Bool.true_and, Bool.and_false, Bool.false_and, Bool.or_true, Bool.true_or, Bool.or_false, Bool.false_or, Bool.not_true, Bool.not_false, cond_true, cond_false]
    · simp -implicitDefEqProofs (disch := omega) only [wk, take_one, set_one, decide_eq_true, decide_eq_false, IntWalk.i64_in, beqT, beqF, bneT, bneF, nat_succ, ← Int.natCast_mul, ← Int.natCast_add, Int.toNat_natCast, Int.zero_mul, Int.zero_add, Int.add_zero, Nat.zero_add, Nat.add_zero, Nat.zero_mul, List.length_singleton, List.length_append, List.length_nil, List.length_cons, List.take_length, List.drop_zero, List.replicate_zero, List.take_nil, List.nil_append, Nat.reduceBEq, Nat.reduceMul, Nat.reduceLeDiff, eq_self, and_self, true_and, and_true, decide_true, decide_false, Bool.and_self, Bool.or_self, Bool.and_true, Bool.true_and, Bool.and_false, Bool.false_and, Bool.or_true, Bool.true_or, Bool.or_false, Bool.false_or, Bool.not_true, Bool.not_false, cond_true, cond_false]
      exact g
theorem loop0 (W : List (List Int)) (l : Int) (f : Nat) (hW : W.length ≤ 4611686018427387903) (hl : ∀ i, i < W.length → (gr W i).length ≤ 4611686018427387903) (hf : ∀ i, i < W.length → (gr W i).length < f) (tb : Bool) (htb : tb = ((decide (1 ≤ (W.length : Int)) && decide ((W.length : Int) ≤ 8)) && (decide (2 ≤ l) && decide (l ≤ 4)))) : ∀ (d i n : Nat), i + d = W.length → d < n →
    L0 f n (mkS 51 [(1, .int .i64 l), (4, .bool false), (5, .int .i64 ((W.length : Nat) : Int)), (11, .ro (.rows .i64 W) W.length 1), (12, .int .i64 ((W.length : Nat) : Int)), (13, .int .i64 ((i : Nat) : Int))] []) = some (.bool (gvs.alf (fun i => gvs.gc.sp W.length i (gr W i)) d i && tb), []) := by
  intro d
  induction d with
  | zero =>
    intro i n hk hn
    obtain ⟨n, rfl⟩ : ∃ q, n = q + 1 := ⟨n - 1, by omega⟩
    obtain rfl : i = W.length := by omega
    rw [round0, gvs.alf, htb]
    by_cases c1 : 1 ≤ (W.length : Int)
    · by_cases c2 : (W.length : Int) ≤ 8
      · simp -implicitDefEqProofs (disch := omega) only [take_one, set_one, decide_eq_true, decide_eq_false, IntWalk.i64_in, beqT, beqF, bneT, bneF, nat_succ, ← Int.natCast_mul, ← Int.natCast_add, Int.toNat_natCast, Int.zero_mul, Int.zero_add, Int.add_zero, Nat.zero_add, Nat.add_zero, Nat.zero_mul, List.length_singleton, List.length_append, List.length_nil, List.length_cons, List.take_length, List.drop_zero, List.replicate_zero, List.take_nil, List.nil_append, Nat.reduceBEq, Nat.reduceMul, Nat.reduceLeDiff, eq_self, and_self, true_and, and_true, decide_true, decide_false, Bool.and_self, Bool.or_self, Bool.and_true, Bool.true_and, Bool.and_false, Bool.false_and, Bool.or_true, Bool.true_or, Bool.or_false, Bool.false_or, Bool.not_true, Bool.not_false, cond_true, cond_false]
      · simp -implicitDefEqProofs (disch := omega) only [take_one, set_one, decide_eq_true, decide_eq_false, IntWalk.i64_in, beqT, beqF, bneT, bneF, nat_succ, ← Int.natCast_mul, ← Int.natCast_add, Int.toNat_natCast, Int.zero_mul, Int.zero_add, Int.add_zero, Nat.zero_add, Nat.add_zero, Nat.zero_mul, List.length_singleton, List.length_append, List.length_nil, List.length_cons, List.take_length, List.drop_zero, List.replicate_zero, List.take_nil, List.nil_append, Nat.reduceBEq, Nat.reduceMul, Nat.reduceLeDiff, eq_self, and_self, true_and, and_true, decide_true, decide_false, Bool.and_self, Bool.or_self, Bool.and_true, Bool.true_and, Bool.and_false, Bool.false_and, Bool.or_true, Bool.true_or, Bool.or_false, Bool.false_or, Bool.not_true, Bool.not_false, cond_true, cond_false]
    · simp -implicitDefEqProofs (disch := omega) only [take_one, set_one, decide_eq_true, decide_eq_false, IntWalk.i64_in, beqT, beqF, bneT, bneF, nat_succ, ← Int.natCast_mul, ← Int.natCast_add, Int.toNat_natCast, Int.zero_mul, Int.zero_add, Int.add_zero, Nat.zero_add, Nat.add_zero, Nat.zero_mul, List.length_singleton, List.length_append, List.length_nil, List.length_cons, List.take_length, List.drop_zero, List.replicate_zero, List.take_nil, List.nil_append, Nat.reduceBEq, Nat.reduceMul, Nat.reduceLeDiff, eq_self, and_self, true_and, and_true, decide_true, decide_false, Bool.and_self, Bool.or_self, Bool.and_true, Bool.true_and, Bool.and_false, Bool.false_and, Bool.or_true, Bool.true_or, Bool.or_false, Bool.false_or, Bool.not_true, Bool.not_false, cond_true, cond_false]
  | succ d ih =>
    intro i n hk hn
    obtain ⟨n, rfl⟩ : ∃ q, n = q + 1 := ⟨n - 1, by omega⟩
    have g := ih (i + 1) n (by omega) (by omega)
    have hl2 := hl i (by omega)
    have hf2 := hf i (by omega)
    have g2 := loop2 W (gr W i) l i f n (by omega) hW hl2 ((gr W i).length - 1) 1 f (by omega) (by omega) (by omega) (by omega)
    have wn : IntKind.i64.wrap (((W.length : Nat) : Int) - 1) = ((W.length : Nat) : Int) - 1 := IntWalk.i64_in _ (by omega)
    have tz : (gr W i).take (gr W i).length = gr W i := List.take_of_length_le (Nat.le_refl _)
    have ef : (fun x : Int => decide (0 ≤ x) && decide (x ≤ ((W.length : Nat) : Int) - 1)) = iw.sp 0 (((W.length : Nat) : Int) - 1) := rfl
    rw [round0, gvs.alf]
    have e : gvs.gc.sp W.length i (gr W i) = (((gr W i).all (iw.sp 0 (((W.length : Nat) : Int) - 1)) && !(gr W i).any (has.sp ((i : Nat) : Int))) && gvs.alf (fun k => !decide (gz (gr W i) k ≤ gz (gr W i) (k - 1))) ((gr W i).length - 1) 1) := rfl
    rw [e]
    cases c1 : (gr W i).all (iw.sp 0 (((W.length : Nat) : Int) - 1))
    · simp -implicitDefEqProofs (disch := omega) only [wn, tz, ef, c1, take_one, set_one, decide_eq_true, decide_eq_false, IntWalk.i64_in, beqT, beqF, bneT, bneF, nat_succ, ← Int.natCast_mul, ← Int.natCast_add, Int.toNat_natCast, Int.zero_mul, Int.zero_add, Int.add_zero, Nat.zero_add, Nat.add_zero, Nat.zero_mul, List.length_singleton, List.length_append, List.length_nil, List.length_cons, List.take_length, List.drop_zero, List.replicate_zero, List.take_nil, List.nil_append, Nat.reduceBEq, Nat.reduceMul, Nat.reduceLeDiff, eq_self, and_self, true_and, and_true, decide_true, decide_false, Bool.and_self, Bool.or_self, Bool.and_true, Bool.true_and, Bool.and_false, Bool.false_and, Bool.or_true, Bool.true_or, Bool.or_false, Bool.false_or, Bool.not_true, Bool.not_false, cond_true, cond_false]
    · cases c3 : (gr W i).any (has.sp ((i : Nat) : Int))
      · simp -implicitDefEqProofs (disch := omega) only [wn, tz, ef, c1, c3, take_one, set_one, decide_eq_true, decide_eq_false, IntWalk.i64_in, beqT, beqF, bneT, bneF, nat_succ, ← Int.natCast_mul, ← Int.natCast_add, Int.toNat_natCast, Int.zero_mul, Int.zero_add, Int.add_zero, Nat.zero_add, Nat.add_zero, Nat.zero_mul, List.length_singleton, List.length_append, List.length_nil, List.length_cons, List.take_length, List.drop_zero, List.replicate_zero, List.take_nil, List.nil_append, Nat.reduceBEq, Nat.reduceMul, Nat.reduceLeDiff, eq_self, and_self, true_and, and_true, decide_true, decide_false, Bool.and_self, Bool.or_self, Bool.and_true, Bool.true_and, Bool.and_false, Bool.false_and, Bool.or_true, Bool.true_or, Bool.or_false, Bool.false_or, Bool.not_true, Bool.not_false, cond_true, cond_false]
        refine g2.trans ?_
        cases gvs.alf (fun k => !decide (gz (gr W i) k ≤ gz (gr W i) (k - 1))) ((gr W i).length - 1) 1
        · rfl
        · rw [cond_true, Bool.true_and]; exact g
      · simp -implicitDefEqProofs (disch := omega) only [wn, tz, ef, c1, c3, take_one, set_one, decide_eq_true, decide_eq_false, IntWalk.i64_in, beqT, beqF, bneT, bneF, nat_succ, ← Int.natCast_mul, ← Int.natCast_add, Int.toNat_natCast, Int.zero_mul, Int.zero_add, Int.add_zero, Nat.zero_add, Nat.add_zero, Nat.zero_mul, List.length_singleton, List.length_append, List.length_nil, List.length_cons, List.take_length, List.drop_zero, List.replicate_zero, List.take_nil, List.nil_append, Nat.reduceBEq, Nat.reduceMul, Nat.reduceLeDiff, eq_self, and_self, true_and, and_true, decide_true, decide_false, Bool.and_self, Bool.or_self, Bool.and_true, Bool.true_and, Bool.and_false, Bool.false_and, Bool.or_true, Bool.true_or, Bool.or_false, Bool.false_or, Bool.not_true, Bool.not_false, cond_true, cond_false]
theorem run : ∀ args v new, R args = some (true, v, new) → ∃ fuel, runFn Try.prog (orc [⟨74, areWithin.R⟩, ⟨58, slContains.R⟩, ⟨51, within.R⟩]) hd Dr.std none fuel (bodyOf Try.f56) 51 [4] args [] = some (v, new) := by
  intro args v new h
  unfold R at h
  split at h
  · rename_i W m l
    simp only [Option.some.injEq, Prod.mk.injEq, Bool.and_eq_true, decide_eq_true_eq] at h
    obtain ⟨⟨⟨rfl, h1⟩, hs⟩, rfl, rfl⟩ := h
    have hl : ∀ i, i < W.length → (gr W i).length ≤ 4611686018427387903 := fun i hi => by
      have := List.all_eq_true.1 hs (gr W i) (by rw [gr_eq hi]; exact List.getElem_mem hi)
      simpa using this
    have hB : ∃ B, ∀ i, i < W.length → (gr W i).length < B := by
      refine ⟨4611686018427387904, fun i hi => ?_⟩
      have := hl i hi
      omega
    obtain ⟨B, hB⟩ := hB
    refine ⟨B + W.length + 1, ?_⟩
    have g := loop0 W l (B + W.length + 1) h1 hl (fun i hi => by have := hB i hi; omega) _ rfl W.length 0 (B + W.length + 1) (by omega) (by omega)
    rw [start, ← gvs.gp_eq]
    exact g
  · cases h
theorem ok : EntOk Try.prog ⟨56, R⟩ :=
  ent_okA mixed (A := (orc [⟨74, areWithin.R⟩, ⟨58, slContains.R⟩, ⟨51, within.R⟩])) (orc_ok (by simp only [List.mem_cons, List.not_mem_nil, or_false, forall_eq_or_imp, forall_eq]; exact ⟨areWithin.ok, slContains.ok, within.ok⟩)) Try.func56 (by kernel_rfl) (by kernel_rfl) (n := 51) (ts := [4]) (hd := hd) (dr := Dr.std) (cut := none) (by kernel_rfl) (by kernel_rfl) (by kernel_rfl) run
end areGives


-- bytes gvs.tb
namespace gvs
def tb : ByteArray := ⟨⟨[0, 1, 2, 2, 3, 3, 3, 3, 4, 4, 4, 4, 4, 4, 4, 4, 5, 5, 5, 5, 5, 5, 5, 5, 5, 5, 5, 5, 5, 5, 5, 5, 6, 6, 6, 6, 6, 6, 6, 6, 6, 6, 6, 6, 6, 6, 6, 6, 6, 6, 6, 6, 6, 6, 6, 6, 6, 6, 6, 6, 6, 6, 6, 6, 7, 7, 7, 7, 7, 7, 7, 7, 7, 7, 7, 7, 7, 7, 7, 7, 7, 7, 7, 7, 7, 7, 7, 7, 7, 7, 7, 7, 7, 7, 7, 7, 7, 7, 7, 7, 7, 7, 7, 7, 7, 7, 7, 7, 7, 7, 7, 7, 7, 7, 7, 7, 7, 7, 7, 7, 7, 7, 7, 7, 7, 7, 7, 7, 8, 8, 8, 8, 8, 8, 8, 8, 8, 8, 8, 8, 8, 8, 8, 8, 8, 8, 8, 8, 8, 8, 8, 8, 8, 8, 8, 8, 8, 8, 8, 8, 8, 8, 8, 8, 8, 8, 8, 8, 8, 8, 8, 8, 8, 8, 8, 8, 8, 8, 8, 8, 8, 8, 8, 8, 8, 8, 8, 8, 8, 8, 8, 8, 8, 8, 8, 8, 8, 8, 8, 8, 8, 8, 8, 8, 8, 8, 8, 8, 8, 8, 8, 8, 8, 8, 8, 8, 8, 8, 8, 8, 8, 8, 8, 8, 8, 8, 8, 8, 8, 8, 8, 8, 8, 8, 8, 8, 8, 8, 8, 8, 8, 8, 8, 8, 8, 8, 8, 8, 8, 8, 8, 8, 8, 8, 8, 8]⟩⟩
theorem tb_get : ∀ k < 256, sat.sv tb k = ((l8.sv k : Nat) : Int) := by decide +kernel
theorem u64_shr {x : Nat} (h : x < 65536) : ishr.sv .u64 ((x : Nat) : Int) 8 = ((x / 256 : Nat) : Int) := by
  have e : ishr.sv .u64 ((x : Nat) : Int) 8 = ((x : Nat) : Int).fdiv 256 := rfl
  rw [e, Int.fdiv_eq_ediv_of_nonneg _ (by decide)]
  omega
theorem u8_nat {x : Nat} (h : x < 256) : IntKind.u8.wrap ((x : Nat) : Int) = ((x : Nat) : Int) := (by decide +kernel : ∀ x < 256, IntKind.u8.wrap ((x : Nat) : Int) = ((x : Nat) : Int)) x h
end gvs

namespace bLen64
def R : List AVal → Option (Bool × AVal × List Blk)
  | [.int .u64 x] => some (decide (0 ≤ x ∧ x < 65536), .int .i64 ((gvs.ln.sv x.toNat : Nat) : Int), [])
  | _ => none
theorem go (x : Int) :
  runFn Try.prog (orc []) hd0 Dr.std (some 0) 0 (bodyOf Try.f77) 25 [2] [.int .u64 x] []
  = (bif decide ((4294967296 : Int) ≤ x) then bif decide ((65536 : Int) ≤ ishr.sv IntKind.u64 x (32 : Int)) then bif decide ((256 : Int) ≤ ishr.sv IntKind.u64 (ishr.sv IntKind.u64 x (32 : Int)) (16 : Int)) then bif decide ((0 : Int) ≤ IntKind.u8.wrap (ishr.sv IntKind.u64 (ishr.sv IntKind.u64 (ishr.sv IntKind.u64 x (32 : Int)) (16 : Int)) (8 : Int))) && decide (IntKind.u8.wrap (ishr.sv IntKind.u64 (ishr.sv IntKind.u64 (ishr.sv IntKind.u64 x (32 : Int)) (16 : Int)) (8 : Int)) < (256 : Int)) then some (AVal.int IntKind.i64 (IntKind.i64.wrap ((56 : Int) + IntKind.i64.wrap (sat.sv gvs.tb (IntKind.u8.wrap (ishr.sv IntKind.u64 (ishr.sv IntKind.u64 (ishr.sv IntKind.u64 x (32 : Int)) (16 : Int)) (8 : Int))).toNat))), []) else none else bif decide ((0 : Int) ≤ IntKind.u8.wrap (ishr.sv IntKind.u64 (ishr.sv IntKind.u64 x (32 : Int)) (16 : Int))) && decide (IntKind.u8.wrap (ishr.sv IntKind.u64 (ishr.sv IntKind.u64 x (32 : Int)) (16 : Int)) < (256 : Int)) then some (AVal.int IntKind.i64 (IntKind.i64.wrap ((48 : Int) + IntKind.i64.wrap (sat.sv gvs.tb (IntKind.u8.wrap (ishr.sv IntKind.u64 (ishr.sv IntKind.u64 x (32 : Int)) (16 : Int))).toNat))), []) else none else bif decide ((256 : Int) ≤ ishr.sv IntKind.u64 x (32 : Int)) then bif decide ((0 : Int) ≤ IntKind.u8.wrap (ishr.sv IntKind.u64 (ishr.sv IntKind.u64 x (32 : Int)) (8 : Int))) && decide (IntKind.u8.wrap (ishr.sv IntKind.u64 (ishr.sv IntKind.u64 x (32 : Int)) (8 : Int)) < (256 : Int)) then some (AVal.int IntKind.i64 (IntKind.i64.wrap ((40 : Int) + IntKind.i64.wrap (sat.sv gvs.tb (IntKind.u8.wrap (ishr.sv IntKind.u64 (ishr.sv IntKind.u64 x (32 : Int)) (8 : Int))).toNat))), []) else none else bif decide ((0 : Int) ≤ IntKind.u8.wrap (ishr.sv IntKind.u64 x (32 : Int))) && decide (IntKind.u8.wrap (ishr.sv IntKind.u64 x (32 : Int)) < (256 : Int)) then some (AVal.int IntKind.i64 (IntKind.i64.wrap ((32 : Int) + IntKind.i64.wrap (sat.sv gvs.tb (IntKind.u8.wrap (ishr.sv IntKind.u64 x (32 : Int))).toNat))), []) else none else bif decide ((65536 : Int) ≤ x) then bif decide ((256 : Int) ≤ ishr.sv IntKind.u64 x (16 : Int)) then bif decide ((0 : Int) ≤ IntKind.u8.wrap (ishr.sv IntKind.u64 (ishr.sv IntKind.u64 x (16 : Int)) (8 : Int))) && decide (IntKind.u8.wrap (ishr.sv IntKind.u64 (ishr.sv IntKind.u64 x (16 : Int)) (8 : Int)) < (256 : Int)) then some (AVal.int IntKind.i64 (IntKind.i64.wrap ((24 : Int) + IntKind.i64.wrap (sat.sv gvs.tb (IntKind.u8.wrap (ishr.sv IntKind.u64 (ishr.sv IntKind.u64 x (16 : Int)) (8 : Int))).toNat))), []) else none else bif decide ((0 : Int) ≤ IntKind.u8.wrap (ishr.sv IntKind.u64 x (16 : Int))) && decide (IntKind.u8.wrap (ishr.sv IntKind.u64 x (16 : Int)) < (256 : Int)) then some (AVal.int IntKind.i64 (IntKind.i64.wrap ((16 : Int) + IntKind.i64.wrap (sat.sv gvs.tb (IntKind.u8.wrap (ishr.sv IntKind.u64 x (16 : Int))).toNat))), []) else none else bif decide ((256 : Int) ≤ x) then bif decide ((0 : Int) ≤ IntKind.u8.wrap (ishr.sv IntKind.u64 x (8 : Int))) && decide (IntKind.u8.wrap (ishr.sv IntKind.u64 x (8 : Int)) < (256 : Int)) then some (AVal.int IntKind.i64 (IntKind.i64.wrap ((8 : Int) + IntKind.i64.wrap (sat.sv gvs.tb (IntKind.u8.wrap (ishr.sv IntKind.u64 x (8 : Int))).toNat))), []) else none else bif decide ((0 : Int) ≤ IntKind.u8.wrap x) && decide (IntKind.u8.wrap x < (256 : Int)) then some (AVal.int IntKind.i64 (IntKind.i64.wrap ((0 : Int) + IntKind.i64.wrap (sat.sv gvs.tb (IntKind.u8.wrap x).toNat))), []) else none) := by kernel_rfl
theorem run : ∀ args v new, R args = some (true, v, new) → ∃ fuel, runFn Try.prog (orc []) hd0 Dr.std (some 0) fuel (bodyOf Try.f77) 25 [2] args [] = some (v, new) := by
  intro args v new h
  unfold R at h
  split at h
  · rename_i x
    simp only [Option.some.injEq, Prod.mk.injEq, decide_eq_true_eq] at h
    obtain ⟨⟨h1, h2⟩, rfl, rfl⟩ := h
    obtain ⟨x, rfl⟩ : ∃ q : Nat, x = q := ⟨x.toNat, by omega⟩
    refine ⟨0, ?_⟩
    rw [go]
    by_cases c : x < 256
    · have t := gvs.tb_get x c
      have w := gvs.u8_nat c
      have l := gvs.l8_le x
      have e : gvs.ln.sv x = gvs.l8.sv x := by unfold gvs.ln.sv; rw [decide_eq_true c]; rfl
      simp -implicitDefEqProofs (disch := omega) only [w, t, e, take_one, set_one, decide_eq_true, decide_eq_false, IntWalk.i64_in, beqT, beqF, bneT, bneF, nat_succ, ← Int.natCast_mul, ← Int.natCast_add, Int.toNat_natCast, Int.zero_mul, Int.zero_add, Int.add_zero, Nat.zero_add, Nat.add_zero, Nat.zero_mul, List.length_singleton, List.length_append, List.length_nil, List.length_cons, List.take_length, List.drop_zero, List.replicate_zero, List.take_nil, List.nil_append, Nat.reduceBEq, Nat.reduceMul, Nat.reduceLeDiff, eq_self, and_self, true_and, and_true, decide_true, decide_false, Bool.and_self, Bool.or_self, Bool.and_true, Bool.true_and, Bool.and_false, Bool.false_and, Bool.or_true, Bool.true_or, Bool.or_false, Bool.false_or, Bool.not_true, Bool.not_false, cond_true, cond_false]
    · have t := gvs.tb_get (x / 256) (by omega)
      have w := gvs.u8_nat (x := x / 256) (by omega)
      have s := gvs.u64_shr (x := x) (by omega)
      have l := gvs.l8_le (x / 256)
      have e : gvs.ln.sv x = 8 + gvs.l8.sv (x / 256) := by unfold gvs.ln.sv; rw [decide_eq_false c]; rfl
      simp -implicitDefEqProofs (disch := omega) only [s, w, t, e, take_one, set_one, decide_eq_true, decide_eq_false, IntWalk.i64_in, beqT, beqF, bneT, bneF, nat_succ, ← Int.natCast_mul, ← Int.natCast_add, Int.toNat_natCast, Int.zero_mul, Int.zero_add, Int.add_zero, Nat.zero_add, Nat.add_zero, Nat.zero_mul, List.length_singleton, List.length_append, List.length_nil, List.length_cons, List.take_length, List.drop_zero, List.replicate_zero, List.take_nil, List.nil_append, Nat.reduceBEq, Nat.reduceMul, Nat.reduceLeDiff, eq_self, and_self, true_and, and_true, decide_true, decide_false, Bool.and_self, Bool.or_self, Bool.and_true, Bool.true_and, Bool.and_false, Bool.false_and, Bool.or_true, Bool.true_or, Bool.or_false, Bool.false_or, Bool.not_true, Bool.not_false, cond_true, cond_false]
      try rfl
  · cases h
theorem ok : EntOk Try.prog ⟨77, R⟩ :=
  ent_okA mixed (A := (orc [])) (orc_ok (by simp)) Try.func77 (by kernel_rfl) (by kernel_rfl) (n := 25) (ts := [2]) (hd := hd0) (dr := Dr.std) (cut := (some 0)) (by kernel_rfl) (by kernel_rfl) (by kernel_rfl) run
end bLen64

namespace bLen
def R : List AVal → Option (Bool × AVal × List Blk)
  | [.int .u64 x] => some (decide (0 ≤ x ∧ x < 65536), .int .i64 ((gvs.ln.sv x.toNat : Nat) : Int), [])
  | _ => none
theorem go (x : Int) :
  runFn Try.prog (orc [⟨77, bLen64.R⟩]) hd0 Dr.std (some 0) 0 (bodyOf Try.f60) 8 [2] [.int .u64 x] []
  = (bif decide ((0 : Int) ≤ x ∧ x < (65536 : Int)) && (true && true || true && true) then some (AVal.int IntKind.i64 (↑(gvs.ln.sv x.toNat) : Int), []) else none) := by kernel_rfl
theorem run : ∀ args v new, R args = some (true, v, new) → ∃ fuel, runFn Try.prog (orc [⟨77, bLen64.R⟩]) hd0 Dr.std (some 0) fuel (bodyOf Try.f60) 8 [2] args [] = some (v, new) := by
  intro args v new h
  unfold R at h
  split at h
  · rename_i x
    simp only [Option.some.injEq, Prod.mk.injEq, decide_eq_true_eq] at h
    obtain ⟨⟨h1, h2⟩, rfl, rfl⟩ := h
    refine ⟨0, ?_⟩
    rw [go]
    simp -implicitDefEqProofs (disch := omega) only [take_one, set_one, decide_eq_true, decide_eq_false, IntWalk.i64_in, beqT, beqF, bneT, bneF, nat_succ, ← Int.natCast_mul, ← Int.natCast_add, Int.toNat_natCast, Int.zero_mul, Int.zero_add, Int.add_zero, Nat.zero_add, Nat.add_zero, Nat.zero_mul, List.length_singleton, List.length_append, List.length_nil, List.length_cons, List.take_length, List.drop_zero, List.replicate_zero, List.take_nil, List.nil_append, Nat.reduceBEq, Nat.reduceMul, Nat.reduceLeDiff, eq_self, and_self, true_and, and_true, decide_true, decide_false, Bool.and_self, Bool.or_self, Bool.and_true, Bool.true_and, Bool.and_false, Bool.false_and, Bool.or_true, Bool.true_or, Bool.or_false, Bool.false_or, Bool.not_true, Bool.not_false, cond_true, cond_false]
  · cases h
theorem ok : EntOk Try.prog ⟨60, R⟩ :=
  ent_okA mixed (A := (orc [⟨77, bLen64.R⟩])) (orc_ok (by simp only [List.mem_cons, List.not_mem_nil, or_false, forall_eq_or_imp, forall_eq]; exact bLen64.ok)) Try.func60 (by kernel_rfl) (by kernel_rfl) (n := 8) (ts := [2]) (hd := hd0) (dr := Dr.std) (cut := (some 0)) (by kernel_rfl) (by kernel_rfl) (by kernel_rfl) run
end bLen

namespace members
def R : List AVal → Option (Bool × AVal × List Blk)
  | [.int .i64 s] => some (decide (0 ≤ s ∧ s < 65536), .own 0 0 (gvs.mb.sv s.toNat (gvs.ln.sv s.toNat)).length 0 1, [⟨.typ (.ints .i64 (gvs.mb.sv s.toNat (gvs.ln.sv s.toNat))), 0⟩])
  | _ => none
def hd : Nat → Head := fun _ => ⟨[998, 0, 3, 8, 9], none⟩
noncomputable def L (f n : Nat) (s : State) := loopAt Try.prog (orc [⟨60, bLen.R⟩]) hd Dr.std 0 f (bodyOf Try.f41) 0 [true, true, false, true] (retK Try.prog [2] 0 none) n s
theorem start (m : Nat) (f : Nat) :
  runFn Try.prog (orc [⟨60, bLen.R⟩]) hd Dr.std none f (bodyOf Try.f41) 23 [2] [.int .i64 ((m : Nat) : Int)] []
  = (bif decide ((0 : Int) ≤ IntKind.u64.wrap (↑m : Int) ∧ IntKind.u64.wrap (↑m : Int) < (65536 : Int)) && (true && true || true && true) then L f f (mkS (23 : Nat) [((0 : Nat), AVal.int IntKind.i64 (↑m : Int)), ((3 : Nat), AVal.own (0 : Nat) (0 : Nat) (0 : Nat) (0 : Nat) (1 : Nat)), ((8 : Nat), AVal.int IntKind.i64 (↑(gvs.ln.sv (IntKind.u64.wrap (↑m : Int)).toNat) : Int)), ((9 : Nat), AVal.int IntKind.i64 (0 : Int))] [{ c := BC.typ (Cont.ints IntKind.i64 (List.replicate (0 : Nat) (0 : Int))), ver := (0 : Nat) }]) else none) := by kernel_rfl
theorem round (m l : Nat) (os : List Int) (q i f n : Nat) :
  L f (n + 1) (mkS 23 [(0, .int .i64 ((m : Nat) : Int)), (3, .own 0 0 q 0 1), (8, .int .i64 ((l : Nat) : Int)), (9, .int .i64 i)] [⟨.typ (.ints .i64 os), 0⟩])
  = (bif decide ((↑i : Int) < (↑l : Int)) then bif decide ((0 : Int) ≤ (↑i : Int)) then bif iand.sv IntKind.i64 (ishr.sv IntKind.i64 (↑m : Int) (↑i : Int)) (1 : Int) == (1 : Int) then bif (1 : Nat) == (1 : Nat) && (1 : Nat) == (1 : Nat) && (true && (true && true) && (true && true && (decide (q + (List.take (1 : Nat) (List.drop (0 : Nat) ((List.replicate (1 : Nat) (0 : Int)).set (0 : Nat) (↑i : Int)))).length ≤ (4611686018427387904 : Nat)) && decide ((q + (List.take (1 : Nat) (List.drop (0 : Nat) ((List.replicate (1 : Nat) (0 : Int)).set (0 : Nat) (↑i : Int)))).length) * (8 : Nat) ≤ (140737488355328 : Nat))))) then L f n (mkS (23 : Nat) [((0 : Nat), AVal.int IntKind.i64 (↑m : Int)), ((3 : Nat), AVal.own (0 : Nat) (0 : Nat) (q + (List.take (1 : Nat) (List.drop (0 : Nat) ((List.replicate (1 : Nat) (0 : Int)).set (0 : Nat) (↑i : Int)))).length) (0 : Nat) (1 : Nat)), ((8 : Nat), AVal.int IntKind.i64 (↑l : Int)), ((9 : Nat), AVal.int IntKind.i64 (IntKind.i64.wrap ((↑i : Int) + (1 : Int))))] [{ c := BC.typ (Cont.ints IntKind.i64 (List.take q os ++ List.take (1 : Nat) (List.drop (0 : Nat) ((List.replicate (1 : Nat) (0 : Int)).set (0 : Nat) (↑i : Int))))), ver := (0 : Nat) }]) else none else L f n (mkS (23 : Nat) [((0 : Nat), AVal.int IntKind.i64 (↑m : Int)), ((3 : Nat), AVal.own (0 : Nat) (0 : Nat) q (0 : Nat) (1 : Nat)), ((8 : Nat), AVal.int IntKind.i64 (↑l : Int)), ((9 : Nat), AVal.int IntKind.i64 (IntKind.i64.wrap ((↑i : Int) + (1 : Int))))] [{ c := BC.typ (Cont.ints IntKind.i64 os), ver := (0 : Nat) }]) else none else some (AVal.own (0 : Nat) (0 : Nat) q (0 : Nat) (1 : Nat), [{ c := BC.typ (Cont.ints IntKind.i64 os), ver := (0 : Nat) }])) := by kernel_rfl
theorem loop (m l f : Nat) (hm : m < 65536) (hl : l ≤ 16) : ∀ (d i n : Nat), i + d = l → d < n →
    L f n (mkS 23 [(0, .int .i64 ((m : Nat) : Int)), (3, .own 0 0 (gvs.mb.sv m i).length 0 1), (8, .int .i64 ((l : Nat) : Int)), (9, .int .i64 ((i : Nat) : Int))] [⟨.typ (.ints .i64 (gvs.mb.sv m i)), 0⟩]) = some (.own 0 0 (gvs.mb.sv m l).length 0 1, [⟨.typ (.ints .i64 (gvs.mb.sv m l)), 0⟩]) := by
  intro d
  induction d with
  | zero =>
    intro i n hi hn
    obtain ⟨n, rfl⟩ : ∃ q, n = q + 1 := ⟨n - 1, by omega⟩
    obtain rfl : i = l := by omega
    rw [round]
    simp -implicitDefEqProofs (disch := omega) only [take_one, set_one, decide_eq_true, decide_eq_false, IntWalk.i64_in, beqT, beqF, bneT, bneF, nat_succ, ← Int.natCast_mul, ← Int.natCast_add, Int.toNat_natCast, Int.zero_mul, Int.zero_add, Int.add_zero, Nat.zero_add, Nat.add_zero, Nat.zero_mul, List.length_singleton, List.length_append, List.length_nil, List.length_cons, List.take_length, List.drop_zero, List.replicate_zero, List.take_nil, List.nil_append, Nat.reduceBEq, Nat.reduceMul, Nat.reduceLeDiff, eq_self, and_self, true_and, and_true, decide_true, decide_false, Bool.and_self, Bool.or_self, Bool.and_true, Bool.true_and, Bool.and_false, Bool.false_and, Bool.or_true, Bool.true_or, Bool.or_false, Bool.false_or, Bool.not_true, Bool.not_false, cond_true, cond_false]
  | succ d ih =>
    intro i n hi hn
    obtain ⟨n, rfl⟩ : ∃ q, n = q + 1 := ⟨n - 1, by omega⟩
    have g := ih (i + 1) n (by omega) (by omega)
    have il := gvs.mb_length m i
    have u2 := gvs.shr_and (k := m) (i := i) (by omega) (by omega)
    have tz : (gvs.mb.sv m i).take (gvs.mb.sv m i).length = gvs.mb.sv m i := List.take_of_length_le (Nat.le_refl _)
    rw [gvs.mb.sv] at g
    rw [round]
    cases ho : gvs.off.sp m i
    · rw [ho, cond_false] at u2
      rw [ho, cond_false, List.length_append, List.length_singleton] at g
      simp -implicitDefEqProofs (disch := omega) only [u2, tz, take_one, set_one, decide_eq_true, decide_eq_false, IntWalk.i64_in, beqT, beqF, bneT, bneF, nat_succ, ← Int.natCast_mul, ← Int.natCast_add, Int.toNat_natCast, Int.zero_mul, Int.zero_add, Int.add_zero, Nat.zero_add, Nat.add_zero, Nat.zero_mul, List.length_singleton, List.length_append, List.length_nil, List.length_cons, List.take_length, List.drop_zero, List.replicate_zero, List.take_nil, List.nil_append, Nat.reduceBEq, Nat.reduceMul, Nat.reduceLeDiff, eq_self, and_self, true_and, and_true, decide_true, decide_false, Bool.and_self, Bool.or_self, Bool.and_true, Bool.true_and, Bool.and_false, Bool.false_and, Bool.or_true, Bool.true_or, Bool.or_false, Bool.false_or, Bool.not_true, Bool.not_false, cond_true, cond_false]
      exact g
    · rw [ho, cond_true] at u2
      rw [ho, cond_true] at g
      simp -implicitDefEqProofs (disch := omega) only [u2, take_one, set_one, decide_eq_true, decide_eq_false, IntWalk.i64_in, beqT, beqF, bneT, bneF, nat_succ, ← Int.natCast_mul, ← Int.natCast_add, Int.toNat_natCast, Int.zero_mul, Int.zero_add, Int.add_zero, Nat.zero_add, Nat.add_zero, Nat.zero_mul, List.length_singleton, List.length_append, List.length_nil, List.length_cons, List.take_length, List.drop_zero, List.replicate_zero, List.take_nil, List.nil_append, Nat.reduceBEq, Nat.reduceMul, Nat.reduceLeDiff, eq_self, and_self, true_and, and_true, decide_true, decide_false, Bool.and_self, Bool.or_self, Bool.and_true, Bool.true_and, Bool.and_false, Bool.false_and, Bool.or_true, Bool.true_or, Bool.or_false, Bool.false_or, Bool.not_true, Bool.not_false, cond_true, cond_false]
      exact g
theorem run : ∀ args v new, R args = some (true, v, new) → ∃ fuel, regc [0] (runFn Try.prog (orc [⟨60, bLen.R⟩]) hd Dr.std none fuel (bodyOf Try.f41) 23 [2] args []) = some (v, new) := by
  intro args v new h
  unfold R at h
  split at h
  · rename_i s
    simp only [Option.some.injEq, Prod.mk.injEq, decide_eq_true_eq] at h
    obtain ⟨⟨h1, h2⟩, rfl, rfl⟩ := h
    obtain ⟨m, rfl⟩ : ∃ q : Nat, s = q := ⟨s.toNat, by omega⟩
    have hl : gvs.ln.sv m ≤ 16 := gvs.ln_le m
    have u : IntKind.u64.wrap ((m : Nat) : Int) = ((m : Nat) : Int) := IntWalk.u64_in _ (by omega)
    obtain ⟨F, hF⟩ : ∃ F : Nat, F = 100 := ⟨100, rfl⟩
    refine ⟨F, ?_⟩
    have g := loop m (gvs.ln.sv m) F (by omega) hl (gvs.ln.sv m) 0 F (by omega) (by omega)
    rw [start, u]
    simp -implicitDefEqProofs (disch := omega) only [take_one, set_one, decide_eq_true, decide_eq_false, IntWalk.i64_in, beqT, beqF, bneT, bneF, nat_succ, ← Int.natCast_mul, ← Int.natCast_add, Int.toNat_natCast, Int.zero_mul, Int.zero_add, Int.add_zero, Nat.zero_add, Nat.add_zero, Nat.zero_mul, List.length_singleton, List.length_append, List.length_nil, List.length_cons, List.take_length, List.drop_zero, List.replicate_zero, List.take_nil, List.nil_append, Nat.reduceBEq, Nat.reduceMul, Nat.reduceLeDiff, eq_self, and_self, true_and, and_true, decide_true, decide_false, Bool.and_self, Bool.or_self, Bool.and_true, Bool.true_and, Bool.and_false, Bool.false_and, Bool.or_true, Bool.true_or, Bool.or_false, Bool.false_or, Bool.not_true, Bool.not_false, cond_true, cond_false]
    exact (congrArg (regc [0]) g).trans rfl
  · cases h
theorem ok : EntOk Try.prog ⟨41, R⟩ :=
  ent_okAG (ks := [0]) mixed (A := (orc [⟨60, bLen.R⟩])) (orc_ok (by simp only [List.mem_cons, List.not_mem_nil, or_false, forall_eq_or_imp, forall_eq]; exact bLen.ok)) Try.func41 (by kernel_rfl) (by kernel_rfl) (n := 23) (ts := [2]) (hd := hd) (dr := Dr.std) (cut := none) (by kernel_rfl) (by kernel_rfl) (by kernel_rfl) run
end members


-- numbers
namespace gvs
def la (b : Nat → Bool) (v : Nat → List Int) : Nat → Nat → List Int → List Int
  | 0, _, c => c
  | d + 1, k, c => la b v d (k + 1) (bif b k then v k else c)
def an (b : Nat → Bool) : Nat → Nat → Bool
  | 0, _ => false
  | d + 1, k => b k || an b d (k + 1)
/-- What the ring's own memory holds in the end. -/
def en.sv (W : List (List Int)) : Nat → List Int → List Int
  | 0, r => r
  | N + 1, r => la (fun k => can.sp r (gz (lr W r) k)) (fun k => en.sv W N (r ++ [gz (lr W r) k])) (lr W r).length 0 r
theorem la_take {b : Nat → Bool} {v : Nat → List Int} {q : Nat} {r : List Int} (hv : ∀ k, (v k).take q = r ∧ q ≤ (v k).length) : ∀ d k c, c.take q = r ∧ q ≤ c.length → (la b v d k c).take q = r ∧ q ≤ (la b v d k c).length := by
  intro d
  induction d with
  | zero => intro k c h; exact h
  | succ d ih =>
    intro k c h
    rw [la]
    refine ih (k + 1) _ ?_
    cases b k
    · exact h
    · exact hv k
theorem en_take (W : List (List Int)) : ∀ (N : Nat) (r : List Int), (en.sv W N r).take r.length = r ∧ r.length ≤ (en.sv W N r).length
  | 0, r => ⟨List.take_of_length_le (Nat.le_refl _), Nat.le_refl _⟩
  | N + 1, r => by
    rw [en.sv]
    refine la_take (fun k => ?_) _ _ _ ⟨List.take_of_length_le (Nat.le_refl _), Nat.le_refl _⟩
    obtain ⟨h1, h2⟩ := en_take W N (r ++ [gz (lr W r) k])
    rw [List.length_append, List.length_singleton] at h1 h2
    refine ⟨?_, by omega⟩
    have h3 := congrArg (List.take r.length) h1
    rw [List.take_take, Nat.min_eq_left (by omega)] at h3
    rw [h3, List.take_append_of_le_length (Nat.le_refl _), List.take_of_length_le (Nat.le_refl _)]
theorem la_none {b : Nat → Bool} {v : Nat → List Int} : ∀ d k c, an b d k = false → la b v d k c = c := by
  intro d
  induction d with
  | zero => intro k c h; rfl
  | succ d ih =>
    intro k c h
    rw [an, Bool.or_eq_false_iff] at h
    rw [la, h.1, cond_false]
    exact ih (k + 1) c h.2
theorem cat_none {α : Type} {b : Nat → Bool} {v : Nat → List α} : ∀ d k, an b d k = false → cat (fun k => bif b k then v k else []) d k = [] := by
  intro d
  induction d with
  | zero => intro k h; rfl
  | succ d ih =>
    intro k h
    rw [an, Bool.or_eq_false_iff] at h
    rw [cat, h.1, cond_false, ih (k + 1) h.2]
    rfl
theorem gz_take {c r : List Int} (h : c.take r.length = r) {k : Nat} (hk : k < r.length) : gz c k = gz r k := by
  have e := congrArg (fun l => gz l k) h
  have hl : r.length ≤ c.length := by
    have := congrArg List.length h
    rw [List.length_take] at this
    omega
  have : gz (c.take r.length) k = gz c k := by
    rw [gz_eq (by rw [List.length_take]; omega), gz_eq (show k < c.length by omega), List.getElem_take]
  rw [← this]
  exact e
/-- Whether somebody can be added to a ring begun. -/
def nx.sp (W : List (List Int)) (r : List Int) : Bool := an (fun k => can.sp r (gz (lr W r) k)) (lr W r).length 0
end gvs

namespace slCloneR
def R : List AVal → Option (Bool × AVal × List Blk)
  | [.ro (.ints .i64 xs) m 1] => some (decide (0 < m ∧ m ≤ xs.length ∧ m ≤ 1048576), .own 0 0 m 0 1, [⟨.typ (.ints .i64 (xs.take m)), 0⟩])
  | _ => none
theorem go (xs : List Int) (m : Nat) :
  runFn Try.prog (orc []) hd0 Dr.std none 0 (bodyOf Try.f59) 8 [2] [.ro (.ints .i64 xs) (m + 1) 1] []
  = (bif (1 : Nat) == (1 : Nat) && (1 : Nat) == (1 : Nat) && (true && (true && true) && (true && (decide ((0 : Nat) + (List.take (m + (1 : Nat)) xs).length ≤ (4611686018427387904 : Nat)) && decide (((0 : Nat) + (List.take (m + (1 : Nat)) xs).length) * (8 : Nat) ≤ (140737488355328 : Nat))))) then some (AVal.own (0 : Nat) (0 : Nat) ((0 : Nat) + (List.take (m + (1 : Nat)) xs).length) (0 : Nat) (1 : Nat), [{ c := BC.typ (Cont.ints IntKind.i64 (List.take (0 : Nat) (List.replicate (0 : Nat) (0 : Int)) ++ List.take (m + (1 : Nat)) xs)), ver := (0 : Nat) }]) else none) := by kernel_rfl
theorem run : ∀ args v new, R args = some (true, v, new) → ∃ fuel, runFn Try.prog (orc []) hd0 Dr.std none fuel (bodyOf Try.f59) 8 [2] args [] = some (v, new) := by
  intro args v new h
  unfold R at h
  split at h
  · rename_i xs m
    simp only [Option.some.injEq, Prod.mk.injEq, decide_eq_true_eq] at h
    obtain ⟨⟨h1, h2, h3⟩, rfl, rfl⟩ := h
    obtain ⟨m, rfl⟩ : ∃ k, m = k + 1 := ⟨m - 1, by omega⟩
    refine ⟨0, ?_⟩
    have hl : (xs.take (m + 1)).length = m + 1 := by simp; omega
    rw [go]
    simp -implicitDefEqProofs (disch := omega) only [hl, take_one, set_one, decide_eq_true, decide_eq_false, IntWalk.i64_in, beqT, beqF, bneT, bneF, nat_succ, ← Int.natCast_mul, ← Int.natCast_add, Int.toNat_natCast, Int.zero_mul, Int.zero_add, Int.add_zero, Nat.zero_add, Nat.add_zero, Nat.zero_mul, List.length_singleton, List.length_append, List.length_nil, List.length_cons, List.take_length, List.drop_zero, List.replicate_zero, List.take_nil, List.nil_append, Nat.reduceBEq, Nat.reduceMul, Nat.reduceLeDiff, eq_self, and_self, true_and, and_true, decide_true, decide_false, Bool.and_self, Bool.or_self, Bool.and_true, Bool.true_and, Bool.and_false, Bool.false_and, Bool.or_true, Bool.true_or, Bool.or_false, Bool.false_or, Bool.not_true, Bool.not_false, cond_true, cond_false]
  · cases h
theorem ok : EntOk Try.prog ⟨59, R⟩ :=
  ent_okA mixed (A := (orc [])) (orc_ok (by simp)) Try.func59 (by kernel_rfl) (by kernel_rfl) (n := 8) (ts := [2]) (hd := hd0) (dr := Dr.std) (cut := none) (by kernel_rfl) (by kernel_rfl) (by kernel_rfl) run
end slCloneR

namespace gvs
/-- Rings of at most 8, each of at most 8. -/
structure QOk (Q : List (List Int)) : Prop where
  len : ∀ i, i < Q.length → (gr Q i).length ≤ 8
  ran : ∀ i, i < Q.length → ∀ x ∈ gr Q i, 0 ≤ x ∧ x < 8
theorem us_lt {q : List Int} (h : ∀ x ∈ q, 0 ≤ x ∧ x < 8) {u : Nat} (hu : u < 256) : ∀ k, k ≤ q.length → us.sv q u k < 256
  | 0, _ => hu
  | k + 1, hk => by
    have hg := h _ (gz_mem (show k < q.length by omega))
    exact up_lt _ (us_lt h hu k (by omega)) _ (by omega)
theorem su_lt {Q : List (List Int)} (g : QOk Q) {l : List Int} (hl : ∀ x ∈ l, 0 ≤ x ∧ x < (Q.length : Int)) : ∀ k, k ≤ l.length → su.sv Q l k < 256
  | 0, _ => by rw [su.sv]; decide
  | k + 1, hk => by
    have hg := hl _ (gz_mem (show k < l.length by omega))
    exact us_lt (g.ran _ (by omega)) (su_lt g hl k (by omega)) _ (Nat.le_refl _)
theorem sc_le {Q : List (List Int)} (g : QOk Q) {l : List Int} (hl : ∀ x ∈ l, 0 ≤ x ∧ x < (Q.length : Int)) : ∀ k, k ≤ l.length → sc.sv Q l k ≤ k * 8
  | 0, _ => Nat.le_refl _
  | k + 1, hk => by
    have hg := hl _ (gz_mem (show k < l.length by omega))
    have h1 := sc_le g hl k (by omega)
    have h2 := g.len (gz l k).toNat (by omega)
    rw [sc.sv]
    omega
theorem mb_ran {m n : Nat} : ∀ x ∈ mb.sv m n, 0 ≤ x ∧ x < (n : Int) := fun x hx => by
  obtain ⟨i, a, b, _⟩ := mb_mem n x hx
  omega
theorem pk_length (Q : List (List Int)) (l : List Int) : ∀ k, (pk.sv Q l k).length = k
  | 0 => rfl
  | k + 1 => by rw [pk.sv, List.length_append, pk_length Q l k]; rfl
theorem rs_qok {W : List (List Int)} (g : GV W) {L : Nat} (hL : L ≤ 4) : QOk (rs.sv W L) := by
  have h : ∀ i, i < (rs.sv W L).length → Rg W.length (gr (rs.sv W L) i) ∧ (gr (rs.sv W L) i).length ≤ L := fun i hi => by
    rw [gr_eq hi]
    exact rs_in g _ (List.getElem_mem hi)
  have h8 := g.h8
  exact ⟨fun i hi => by have := (h i hi).2; omega, fun i hi x hx => by have := (h i hi).1.ran x hx; omega⟩
def mo.sp (W : List (List Int)) (L : Nat) : Bool := decide ((rs.sv W L).length ≤ 16)
def best (W : List (List Int)) (L : Nat) : Nat × Nat := bs (rs.sv W L) (rs.sv W L).length (2 ^ (rs.sv W L).length)
def mc.sv (W : List (List Int)) (L : Nat) : Nat := bif mo.sp W L then (best W L).2 else 0
def mr.sv (W : List (List Int)) (L : Nat) : List (List Int) := bif mo.sp W L then Pk (rs.sv W L) (mb.sv (best W L).1 (rs.sv W L).length) else []
theorem pow_16 {n : Nat} (h : n ≤ 16) : 1 ≤ 2 ^ n ∧ 2 ^ n ≤ 65536 := ⟨Nat.one_le_two_pow, Nat.le_trans (Nat.pow_le_pow_right (by omega) h) (by decide)⟩
end gvs

namespace l05Gives
def R : List AVal → Option (Bool × AVal × List Blk)
  | [.ro (.rows .i64 W) m 1, .int .i64 l] => some (decide (m = W.length ∧ m ≤ 4611686018427387904) && short.sp 4611686018427387904 W, .bool (gvs.gv.sp W l), [])
  | _ => none
def hd : Nat → Head := fun i => bif eqN i 0 then ⟨[0, 4, 28, 29], none⟩ else ⟨[0, 4, 6, 28, 29, 36, 37], none⟩
noncomputable def L0 (f n : Nat) (s : State) := loopAt Try.prog (orc [⟨54, l05Lists.R⟩, ⟨29, l00In.R⟩]) hd Dr.std 0 f (bodyOf Try.f37) 0 [true, true, true, false, true] (retK Try.prog [4] 0 none) n s
noncomputable def L2 (f n n2 : Nat) (s : State) := loopAt Try.prog (orc [⟨54, l05Lists.R⟩, ⟨29, l00In.R⟩]) hd Dr.std 0 f (bodyAt (bodyOf Try.f37) [true, true, true, false, true]) (curAt (bodyOf Try.f37) 0 [true, true, true, false, true]) [true, true, false, true, true] (iterK (normE 0 (hd (curAt (bodyOf Try.f37) 0 [true, true, true, false, true]))) (L0 f n) (contAt Try.prog (orc [⟨54, l05Lists.R⟩, ⟨29, l00In.R⟩]) hd Dr.std 0 f (bodyOf Try.f37) 0 [true, true, true, false, true] (retK Try.prog [4] 0 none))) n2 s
theorem start (W : List (List Int)) (l : Int) (f : Nat) :
  runFn Try.prog (orc [⟨54, l05Lists.R⟩, ⟨29, l00In.R⟩]) hd Dr.std none f (bodyOf Try.f37) 73 [4] [.ro (.rows .i64 W) W.length 1, .int .i64 l] []
  = (bif decide ((↑W.length : Int) < (1 : Int)) then some (AVal.bool false, []) else bif decide ((8 : Int) < (↑W.length : Int)) then some (AVal.bool false, []) else bif decide (W.length = W.length ∧ W.length ≤ (4611686018427387904 : Nat) ∧ (0 : Int) ≤ (↑W.length : Int) ∧ (↑W.length : Int) ≤ (4611686018427387904 : Int)) && short.sp (4611686018427387904 : Nat) W && (true && (true && true) || true && true) then bif !(lo.sp (↑W.length : Int) W && decide ((↑W.length : Int) = (↑W.length : Int))) then some (AVal.bool false, []) else bif true && (true && true || true && true) then bif !(decide ((2 : Int) ≤ l) && decide (l ≤ (4 : Int))) then some (AVal.bool false, []) else L0 f f (mkS (73 : Nat) [((0 : Nat), AVal.ro (Cont.rows IntKind.i64 W) W.length (1 : Nat)), ((4 : Nat), AVal.bool false), ((28 : Nat), AVal.int IntKind.i64 (↑W.length : Int)), ((29 : Nat), AVal.int IntKind.i64 (0 : Int))] []) else none else none) := by kernel_rfl
theorem round0 (W : List (List Int)) (i f n : Nat) :
  L0 f (n + 1) (mkS 73 [(0, .ro (.rows .i64 W) W.length 1), (4, .bool false), (28, .int .i64 ((W.length : Nat) : Int)), (29, .int .i64 ((i : Nat) : Int))] [])
  = (bif decide ((↑i : Int) < (↑W.length : Int)) then bif true && (decide ((0 : Int) ≤ (↑i : Int)) && decide ((↑i : Int) < (↑W.length : Int))) then bif decide ((↑i : Int).toNat < W.length) then L2 f n f (mkS (73 : Nat) [((0 : Nat), AVal.ro (Cont.rows IntKind.i64 W) W.length (1 : Nat)), ((4 : Nat), AVal.bool false), ((6 : Nat), AVal.int IntKind.i64 (↑i : Int)), ((28 : Nat), AVal.int IntKind.i64 (↑W.length : Int)), ((29 : Nat), AVal.int IntKind.i64 (↑i : Int)), ((36 : Nat), AVal.int IntKind.i64 (↑(gr W (↑i : Int).toNat).length : Int)), ((37 : Nat), AVal.int IntKind.i64 (0 : Int))] []) else none else none else some (AVal.bool true, [])) := by kernel_rfl
theorem round2 (W : List (List Int)) (i l k f n n2 : Nat) :
  L2 f n (n2 + 1) (mkS 73 [(0, .ro (.rows .i64 W) W.length 1), (4, .bool false), (6, .int .i64 ((i : Nat) : Int)), (28, .int .i64 ((W.length : Nat) : Int)), (29, .int .i64 ((i : Nat) : Int)), (36, .int .i64 ((l : Nat) : Int)), (37, .int .i64 ((k : Nat) : Int))] [])
  = (bif decide ((↑k : Int) < (↑l : Int)) then bif true && (decide ((0 : Int) ≤ (↑i : Int)) && decide ((↑i : Int) < (↑W.length : Int))) then bif decide ((↑i : Int).toNat < W.length) then bif true && (decide ((0 : Int) ≤ (↑k : Int)) && decide ((↑k : Int) < (↑(gr W (↑i : Int).toNat).length : Int))) then bif decide ((↑k : Int).toNat < (gr W (↑i : Int).toNat).length) then bif gz (gr W (↑i : Int).toNat) (↑k : Int).toNat == (↑i : Int) then some (AVal.bool false, []) else bif decide ((0 : Int) < (↑k : Int)) then bif true && (decide ((0 : Int) ≤ (↑i : Int)) && decide ((↑i : Int) < (↑W.length : Int))) then bif decide ((↑i : Int).toNat < W.length) then bif true && (decide ((0 : Int) ≤ (↑k : Int)) && decide ((↑k : Int) < (↑(gr W (↑i : Int).toNat).length : Int))) then bif decide ((↑k : Int).toNat < (gr W (↑i : Int).toNat).length) then bif true && (decide ((0 : Int) ≤ (↑i : Int)) && decide ((↑i : Int) < (↑W.length : Int))) then bif decide ((↑i : Int).toNat < W.length) then bif true && (decide ((0 : Int) ≤ IntKind.i64.wrap ((↑k : Int) - (1 : Int))) && decide (IntKind.i64.wrap ((↑k : Int) - (1 : Int)) < (↑(gr W (↑i : Int).toNat).length : Int))) then bif decide ((IntKind.i64.wrap ((↑k : Int) - (1 : Int))).toNat < (gr W (↑i : Int).toNat).length) then bif decide (gz (gr W (↑i : Int).toNat) (↑k : Int).toNat ≤ gz (gr W (↑i : Int).toNat) (IntKind.i64.wrap ((↑k : Int) - (1 : Int))).toNat) then some (AVal.bool false, []) else L2 f n n2 (mkS (73 : Nat) [((0 : Nat), AVal.ro (Cont.rows IntKind.i64 W) W.length (1 : Nat)), ((4 : Nat), AVal.bool false), ((6 : Nat), AVal.int IntKind.i64 (↑i : Int)), ((28 : Nat), AVal.int IntKind.i64 (↑W.length : Int)), ((29 : Nat), AVal.int IntKind.i64 (↑i : Int)), ((36 : Nat), AVal.int IntKind.i64 (↑l : Int)), ((37 : Nat), AVal.int IntKind.i64 (IntKind.i64.wrap ((↑k : Int) + (1 : Int))))] []) else none else none else none else none else none else none else none else none else L2 f n n2 (mkS (73 : Nat) [((0 : Nat), AVal.ro (Cont.rows IntKind.i64 W) W.length (1 : Nat)), ((4 : Nat), AVal.bool false), ((6 : Nat), AVal.int IntKind.i64 (↑i : Int)), ((28 : Nat), AVal.int IntKind.i64 (↑W.length : Int)), ((29 : Nat), AVal.int IntKind.i64 (↑i : Int)), ((36 : Nat), AVal.int IntKind.i64 (↑l : Int)), ((37 : Nat), AVal.int IntKind.i64 (IntKind.i64.wrap ((↑k : Int) + (1 : Int))))] []) else none else none else none else none else L0 f n (mkS (73 : Nat) [((0 : Nat), AVal.ro (Cont.rows IntKind.i64 W) W.length (1 : Nat)), ((4 : Nat), AVal.bool false), ((28 : Nat), AVal.int IntKind.i64 (↑W.length : Int)), ((29 : Nat), AVal.int IntKind.i64 (IntKind.i64.wrap ((↑i : Int) + (1 : Int))))] [])) := by kernel_rfl
theorem loop2 (W : List (List Int)) (i f n : Nat) (hi : i < W.length) (hW : W.length ≤ 8) (hl : (gr W i).length ≤ 4611686018427387904) : ∀ (d k n2 : Nat), k + d = (gr W i).length → d < n2 →
    L2 f n n2 (mkS 73 [(0, .ro (.rows .i64 W) W.length 1), (4, .bool false), (6, .int .i64 ((i : Nat) : Int)), (28, .int .i64 ((W.length : Nat) : Int)), (29, .int .i64 ((i : Nat) : Int)), (36, .int .i64 (((gr W i).length : Nat) : Int)), (37, .int .i64 ((k : Nat) : Int))] []) = bif gvs.alf (fun k => !((gz (gr W i) k == ((i : Nat) : Int)) || (decide (0 < k) && decide (gz (gr W i) k ≤ gz (gr W i) (k - 1))))) d k then L0 f n (mkS 73 [(0, .ro (.rows .i64 W) W.length 1), (4, .bool false), (28, .int .i64 ((W.length : Nat) : Int)), (29, .int .i64 (((i + 1) : Nat) : Int))] []) else some (.bool false, []) := by
  intro d
  induction d with
  | zero =>
    intro k n2 hk hn
    obtain ⟨n2, rfl⟩ : ∃ q, n2 = q + 1 := ⟨n2 - 1, by omega⟩
    obtain rfl : k = (gr W i).length := by omega
    rw [round2, gvs.alf]
    simp -implicitDefEqProofs (disch := omega) only [take_one, set_one, decide_eq_true, decide_eq_false, IntWalk.i64_in, beqT, beqF, bneT, bneF, nat_succ, ← Int.natCast_mul, ← Int.natCast_add, Int.toNat_natCast, Int.zero_mul, Int.zero_add, Int.add_zero, Nat.zero_add, Nat.add_zero, Nat.zero_mul, List.length_singleton, List.length_append, List.length_nil, List.length_cons, List.take_length, List.drop_zero, List.replicate_zero, List.take_nil, List.nil_append, Nat.reduceBEq, Nat.reduceMul, Nat.reduceLeDiff, eq_self, and_self, true_and, and_true, decide_true, decide_false, Bool.and_self, Bool.or_self, Bool.and_true, Bool.true_and, Bool.and_false, Bool.false_and, Bool.or_true, Bool.true_or, Bool.or_false, Bool.false_or, Bool.not_true, Bool.not_false, cond_true, cond_false]
  | succ d ih =>
    intro k n2 hk hn
    obtain ⟨n2, rfl⟩ : ∃ q, n2 = q + 1 := ⟨n2 - 1, by omega⟩
    have g := ih (k + 1) n2 (by omega) (by omega)
    rw [round2, gvs.alf]
    cases c1 : gz (gr W i) k == ((i : Nat) : Int)
    · rcases Nat.eq_zero_or_pos k with c0 | c0
      · subst c0
        simp -implicitDefEqProofs (disch := omega) only [c1, take_one, set_one, decide_eq_true, decide_eq_false, IntWalk.i64_in, beqT, beqF, bneT, bneF, nat_succ, ← Int.natCast_mul, ← Int.natCast_add, Int.toNat_natCast, Int.zero_mul, Int.zero_add, Int.add_zero, Nat.zero_add, Nat.add_zero, Nat.zero_mul, List.length_singleton, List.length_append, List.length_nil, List.length_cons, List.take_length, List.drop_zero, List.replicate_zero, List.take_nil, List.nil_append, Nat.reduceBEq, Nat.reduceMul, Nat.reduceLeDiff, eq_self, and_self, true_and, and_true, decide_true, decide_false, Bool.and_self, Bool.or_self, Bool.and_true, Bool.true_and, Bool.and_false, Bool.false_and, Bool.or_true, Bool.true_or, Bool.or_false, Bool.false_or, Bool.not_true, Bool.not_false, cond_true, cond_false]
        exact g
      · have wk : IntKind.i64.wrap (((k : Nat) : Int) - 1) = ((k - 1 : Nat) : Int) := by
          rw [IntWalk.i64_in _ (by omega)]; omega
        by_cases c2 : gz (gr W i) k ≤ gz (gr W i) (k - 1)
        · simp -implicitDefEqProofs (disch := omega) only [c1, wk, take_one, set_one, decide_eq_true, decide_eq_false, IntWalk.i64_in, beqT, beqF, bneT, bneF, nat_succ, ← Int.natCast_mul, ← Int.natCast_add, Int.toNat_natCast, Int.zero_mul, Int.zero_add, Int.add_zero, Nat.zero_add, Nat.add_zero, Nat.zero_mul, List.length_singleton, List.length_append, List.length_nil, List.length_cons, List.take_length, List.drop_zero, List.replicate_zero, List.take_nil, List.nil_append, Nat.reduceBEq, Nat.reduceMul, Nat.reduceLeDiff, eq_self, and_self, true_and, and_true, decide_true, decide_false, Bool.and_self, Bool.or_self, Bool.and_true, Bool.true_and, Bool.and_false, Bool.false_and, Bool.or_true, Bool.true_or, Bool.or_false, Bool.false_or, Bool.not_true, Bool.not_false, cond_true, cond_false]
        · simp -implicitDefEqProofs (disch := omega) only [c1, wk, take_one, set_one, decide_eq_true, decide_eq_false, IntWalk.i64_in, beqT, beqF, bneT, bneF, nat_succ, ← Int.natCast_mul, ← Int.natCast_add, Int.toNat_natCast, Int.zero_mul, Int.zero_add, Int.add_zero, Nat.zero_add, Nat.add_zero, Nat.zero_mul, List.length_singleton, List.length_append, List.length_nil, List.length_cons, List.take_length, List.drop_zero, List.replicate_zero, List.take_nil, List.nil_append, Nat.reduceBEq, Nat.reduceMul, Nat.reduceLeDiff, eq_self, and_self, true_and, and_true, decide_true, decide_false, Bool.and_self, Bool.or_self, Bool.and_true, Bool.true_and, Bool.and_false, Bool.false_and, Bool.or_true, Bool.true_or, Bool.or_false, Bool.false_or, Bool.not_true, Bool.not_false, cond_true, cond_false]
          exact g
    · simp -implicitDefEqProofs (disch := omega) only [c1, take_one, set_one, decide_eq_true, decide_eq_false, IntWalk.i64_in, beqT, beqF, bneT, bneF, nat_succ, ← Int.natCast_mul, ← Int.natCast_add, Int.toNat_natCast, Int.zero_mul, Int.zero_add, Int.add_zero, Nat.zero_add, Nat.add_zero, Nat.zero_mul, List.length_singleton, List.length_append, List.length_nil, List.length_cons, List.take_length, List.drop_zero, List.replicate_zero, List.take_nil, List.nil_append, Nat.reduceBEq, Nat.reduceMul, Nat.reduceLeDiff, eq_self, and_self, true_and, and_true, decide_true, decide_false, Bool.and_self, Bool.or_self, Bool.and_true, Bool.true_and, Bool.and_false, Bool.false_and, Bool.or_true, Bool.true_or, Bool.or_false, Bool.false_or, Bool.not_true, Bool.not_false, cond_true, cond_false]
theorem loop0 (W : List (List Int)) (f : Nat) (hW : W.length ≤ 8) (hl : ∀ i, i < W.length → (gr W i).length ≤ 4611686018427387904) (hf : ∀ i, i < W.length → (gr W i).length < f) : ∀ (d i n : Nat), i + d = W.length → d < n →
    L0 f n (mkS 73 [(0, .ro (.rows .i64 W) W.length 1), (4, .bool false), (28, .int .i64 ((W.length : Nat) : Int)), (29, .int .i64 ((i : Nat) : Int))] []) = some (.bool (gvs.alf (fun i => gvs.rr.sp i (gr W i)) d i), []) := by
  intro d
  induction d with
  | zero =>
    intro i n hk hn
    obtain ⟨n, rfl⟩ : ∃ q, n = q + 1 := ⟨n - 1, by omega⟩
    obtain rfl : i = W.length := by omega
    rw [round0, gvs.alf]
    simp -implicitDefEqProofs (disch := omega) only [take_one, set_one, decide_eq_true, decide_eq_false, IntWalk.i64_in, beqT, beqF, bneT, bneF, nat_succ, ← Int.natCast_mul, ← Int.natCast_add, Int.toNat_natCast, Int.zero_mul, Int.zero_add, Int.add_zero, Nat.zero_add, Nat.add_zero, Nat.zero_mul, List.length_singleton, List.length_append, List.length_nil, List.length_cons, List.take_length, List.drop_zero, List.replicate_zero, List.take_nil, List.nil_append, Nat.reduceBEq, Nat.reduceMul, Nat.reduceLeDiff, eq_self, and_self, true_and, and_true, decide_true, decide_false, Bool.and_self, Bool.or_self, Bool.and_true, Bool.true_and, Bool.and_false, Bool.false_and, Bool.or_true, Bool.true_or, Bool.or_false, Bool.false_or, Bool.not_true, Bool.not_false, cond_true, cond_false]
  | succ d ih =>
    intro i n hk hn
    obtain ⟨n, rfl⟩ : ∃ q, n = q + 1 := ⟨n - 1, by omega⟩
    have g := ih (i + 1) n (by omega) (by omega)
    have hf2 := hf i (by omega)
    have g2 := loop2 W i f n (by omega) hW (hl i (by omega)) (gr W i).length 0 f (by omega) (by omega)
    rw [round0, gvs.alf]
    simp -implicitDefEqProofs (disch := omega) only [take_one, set_one, decide_eq_true, decide_eq_false, IntWalk.i64_in, beqT, beqF, bneT, bneF, nat_succ, ← Int.natCast_mul, ← Int.natCast_add, Int.toNat_natCast, Int.zero_mul, Int.zero_add, Int.add_zero, Nat.zero_add, Nat.add_zero, Nat.zero_mul, List.length_singleton, List.length_append, List.length_nil, List.length_cons, List.take_length, List.drop_zero, List.replicate_zero, List.take_nil, List.nil_append, Nat.reduceBEq, Nat.reduceMul, Nat.reduceLeDiff, eq_self, and_self, true_and, and_true, decide_true, decide_false, Bool.and_self, Bool.or_self, Bool.and_true, Bool.true_and, Bool.and_false, Bool.false_and, Bool.or_true, Bool.true_or, Bool.or_false, Bool.false_or, Bool.not_true, Bool.not_false, cond_true, cond_false]
    refine g2.trans ?_
    have e : gvs.rr.sp i (gr W i) = gvs.alf (fun k => !((gz (gr W i) k == ((i : Nat) : Int)) || (decide (0 < k) && decide (gz (gr W i) k ≤ gz (gr W i) (k - 1))))) (gr W i).length 0 := rfl
    rw [e]
    cases gvs.alf (fun k => !((gz (gr W i) k == ((i : Nat) : Int)) || (decide (0 < k) && decide (gz (gr W i) k ≤ gz (gr W i) (k - 1))))) (gr W i).length 0
    · rfl
    · exact g
theorem run : ∀ args v new, R args = some (true, v, new) → ∃ fuel, runFn Try.prog (orc [⟨54, l05Lists.R⟩, ⟨29, l00In.R⟩]) hd Dr.std none fuel (bodyOf Try.f37) 73 [4] args [] = some (v, new) := by
  intro args v new h
  unfold R at h
  split at h
  · rename_i W m l
    simp only [Option.some.injEq, Prod.mk.injEq, Bool.and_eq_true, decide_eq_true_eq] at h
    obtain ⟨⟨⟨rfl, h1⟩, hs⟩, rfl, rfl⟩ := h
    have hl : ∀ i, i < W.length → (gr W i).length ≤ 4611686018427387904 := fun i hi => by
      have := List.all_eq_true.1 hs (gr W i) (by rw [gr_eq hi]; exact List.getElem_mem hi)
      simpa using this
    obtain ⟨B, hB⟩ := len_bound W
    refine ⟨B + 9, ?_⟩
    unfold gvs.gv.sp
    rw [start]
    by_cases c1 : (W.length : Int) < 1
    · simp -implicitDefEqProofs (disch := omega) only [hs, take_one, set_one, decide_eq_true, decide_eq_false, IntWalk.i64_in, beqT, beqF, bneT, bneF, nat_succ, ← Int.natCast_mul, ← Int.natCast_add, Int.toNat_natCast, Int.zero_mul, Int.zero_add, Int.add_zero, Nat.zero_add, Nat.add_zero, Nat.zero_mul, List.length_singleton, List.length_append, List.length_nil, List.length_cons, List.take_length, List.drop_zero, List.replicate_zero, List.take_nil, List.nil_append, Nat.reduceBEq, Nat.reduceMul, Nat.reduceLeDiff, eq_self, and_self, true_and, and_true, decide_true, decide_false, Bool.and_self, Bool.or_self, Bool.and_true, Bool.true_and, Bool.and_false, Bool.false_and, Bool.or_true, Bool.true_or, Bool.or_false, Bool.false_or, Bool.not_true, Bool.not_false, cond_true, cond_false]
    by_cases c2 : 8 < (W.length : Int)
    · simp -implicitDefEqProofs (disch := omega) only [hs, take_one, set_one, decide_eq_true, decide_eq_false, IntWalk.i64_in, beqT, beqF, bneT, bneF, nat_succ, ← Int.natCast_mul, ← Int.natCast_add, Int.toNat_natCast, Int.zero_mul, Int.zero_add, Int.add_zero, Nat.zero_add, Nat.add_zero, Nat.zero_mul, List.length_singleton, List.length_append, List.length_nil, List.length_cons, List.take_length, List.drop_zero, List.replicate_zero, List.take_nil, List.nil_append, Nat.reduceBEq, Nat.reduceMul, Nat.reduceLeDiff, eq_self, and_self, true_and, and_true, decide_true, decide_false, Bool.and_self, Bool.or_self, Bool.and_true, Bool.true_and, Bool.and_false, Bool.false_and, Bool.or_true, Bool.true_or, Bool.or_false, Bool.false_or, Bool.not_true, Bool.not_false, cond_true, cond_false]
    have g := loop0 W (B + 9) (by omega) hl (fun i hi => by
      have := hB (gr W i) (by rw [gr_eq hi]; exact List.getElem_mem hi)
      omega) W.length 0 (B + 9) (by omega) (by omega)
    cases c3 : lo.sp W.length W
    · simp -implicitDefEqProofs (disch := omega) only [hs, c3, take_one, set_one, decide_eq_true, decide_eq_false, IntWalk.i64_in, beqT, beqF, bneT, bneF, nat_succ, ← Int.natCast_mul, ← Int.natCast_add, Int.toNat_natCast, Int.zero_mul, Int.zero_add, Int.add_zero, Nat.zero_add, Nat.add_zero, Nat.zero_mul, List.length_singleton, List.length_append, List.length_nil, List.length_cons, List.take_length, List.drop_zero, List.replicate_zero, List.take_nil, List.nil_append, Nat.reduceBEq, Nat.reduceMul, Nat.reduceLeDiff, eq_self, and_self, true_and, and_true, decide_true, decide_false, Bool.and_self, Bool.or_self, Bool.and_true, Bool.true_and, Bool.and_false, Bool.false_and, Bool.or_true, Bool.true_or, Bool.or_false, Bool.false_or, Bool.not_true, Bool.not_false, cond_true, cond_false]
    by_cases c4 : 2 ≤ l
    · by_cases c5 : l ≤ 4
      · simp -implicitDefEqProofs (disch := omega) only [hs, c3, take_one, set_one, decide_eq_true, decide_eq_false, IntWalk.i64_in, beqT, beqF, bneT, bneF, nat_succ, ← Int.natCast_mul, ← Int.natCast_add, Int.toNat_natCast, Int.zero_mul, Int.zero_add, Int.add_zero, Nat.zero_add, Nat.add_zero, Nat.zero_mul, List.length_singleton, List.length_append, List.length_nil, List.length_cons, List.take_length, List.drop_zero, List.replicate_zero, List.take_nil, List.nil_append, Nat.reduceBEq, Nat.reduceMul, Nat.reduceLeDiff, eq_self, and_self, true_and, and_true, decide_true, decide_false, Bool.and_self, Bool.or_self, Bool.and_true, Bool.true_and, Bool.and_false, Bool.false_and, Bool.or_true, Bool.true_or, Bool.or_false, Bool.false_or, Bool.not_true, Bool.not_false, cond_true, cond_false]
        exact g
      · simp -implicitDefEqProofs (disch := omega) only [hs, c3, take_one, set_one, decide_eq_true, decide_eq_false, IntWalk.i64_in, beqT, beqF, bneT, bneF, nat_succ, ← Int.natCast_mul, ← Int.natCast_add, Int.toNat_natCast, Int.zero_mul, Int.zero_add, Int.add_zero, Nat.zero_add, Nat.add_zero, Nat.zero_mul, List.length_singleton, List.length_append, List.length_nil, List.length_cons, List.take_length, List.drop_zero, List.replicate_zero, List.take_nil, List.nil_append, Nat.reduceBEq, Nat.reduceMul, Nat.reduceLeDiff, eq_self, and_self, true_and, and_true, decide_true, decide_false, Bool.and_self, Bool.or_self, Bool.and_true, Bool.true_and, Bool.and_false, Bool.false_and, Bool.or_true, Bool.true_or, Bool.or_false, Bool.false_or, Bool.not_true, Bool.not_false, cond_true, cond_false]
    · simp -implicitDefEqProofs (disch := omega) only [hs, c3, take_one, set_one, decide_eq_true, decide_eq_false, IntWalk.i64_in, beqT, beqF, bneT, bneF, nat_succ, ← Int.natCast_mul, ← Int.natCast_add, Int.toNat_natCast, Int.zero_mul, Int.zero_add, Int.add_zero, Nat.zero_add, Nat.add_zero, Nat.zero_mul, List.length_singleton, List.length_append, List.length_nil, List.length_cons, List.take_length, List.drop_zero, List.replicate_zero, List.take_nil, List.nil_append, Nat.reduceBEq, Nat.reduceMul, Nat.reduceLeDiff, eq_self, and_self, true_and, and_true, decide_true, decide_false, Bool.and_self, Bool.or_self, Bool.and_true, Bool.true_and, Bool.and_false, Bool.false_and, Bool.or_true, Bool.true_or, Bool.or_false, Bool.false_or, Bool.not_true, Bool.not_false, cond_true, cond_false]
  · cases h
theorem ok : EntOk Try.prog ⟨37, R⟩ :=
  ent_okA mixed (A := (orc [⟨54, l05Lists.R⟩, ⟨29, l00In.R⟩])) (orc_ok (by simp only [List.mem_cons, List.not_mem_nil, or_false, forall_eq_or_imp, forall_eq]; exact ⟨l05Lists.ok, l00In.ok⟩)) Try.func37 (by kernel_rfl) (by kernel_rfl) (n := 73) (ts := [4]) (hd := hd) (dr := Dr.std) (cut := none) (by kernel_rfl) (by kernel_rfl) (by kernel_rfl) run
end l05Gives


-- numbers
namespace gvs
def rg.sp (n : Nat) (r : List Int) : Bool := decide (1 ≤ r.length) && ((r.all fun x => decide (0 ≤ x) && decide (x < (n : Int))) && decide r.Nodup)
theorem rg_iff {n : Nat} {r : List Int} : rg.sp n r = true ↔ Rg n r := by
  simp only [rg.sp, Bool.and_eq_true, decide_eq_true_eq, List.all_eq_true]
  exact ⟨fun ⟨a, b, c⟩ => ⟨a, b, c⟩, fun h => ⟨h.pos, h.ran, h.nd⟩⟩
end gvs
namespace l05Grow
def dr : Nat → Dr := fun i => bif eqN i 12 then ⟨some [997, 8, 2], false⟩ else bif eqN i 4 then ⟨some [997, 3], false⟩ else ⟨none, false⟩
def R (N : Nat) : List AVal → Option (Bool × AVal × List Blk)
  | [.ro (.rows .i64 W) m 1, .ro (.ints .i64 r) q 1, .int .i64 l] => some (decide (m = W.length ∧ q = r.length ∧ (q : Int) ≤ l ∧ l - (q : Int) < (N : Int)) && (gvs.gv.sp W l && gvs.rg.sp W.length r), .ro (.rows .i64 (gvs.gw.sv W (l.toNat - q) r)) (gvs.gw.sv W (l.toNat - q) r).length 1, [])
  | _ => none
def hd : Nat → Head := fun _ => ⟨[998, 0, 1, 2, 7, 8, 39, 40], none⟩
noncomputable def L (N f n : Nat) (s : State) := loopAt Try.prog (orc [⟨73, l05Takes.R⟩, ⟨72, l00Has.R⟩, ⟨55, (R N)⟩]) hd dr 0 f (bodyOf Try.f55) 0 [true, true, true, true, false, true] (retK Try.prog [6] 0 (some 0)) n s
theorem start (W : List (List Int)) (r : List Int) (l : Int) (N f : Nat) :
  runFn Try.prog (orc [⟨73, l05Takes.R⟩, ⟨72, l00Has.R⟩, ⟨55, (R N)⟩]) hd dr (some 0) f (bodyOf Try.f55) 74 [6] [.ro (.rows .i64 W) W.length 1, .ro (.ints .i64 r) r.length 1, .int .i64 l] []
  = (bif true && (decide ((0 : Int) ≤ IntKind.i64.wrap ((↑r.length : Int) - (1 : Int))) && decide (IntKind.i64.wrap ((↑r.length : Int) - (1 : Int)) < (↑r.length : Int))) then bif decide ((IntKind.i64.wrap ((↑r.length : Int) - (1 : Int))).toNat < r.length) then bif (↑r.length : Int) == l then bif true && (decide ((0 : Int) ≤ gz r (IntKind.i64.wrap ((↑r.length : Int) - (1 : Int))).toNat) && decide (gz r (IntKind.i64.wrap ((↑r.length : Int) - (1 : Int))).toNat < (↑W.length : Int))) then bif decide ((gz r (IntKind.i64.wrap ((↑r.length : Int) - (1 : Int))).toNat).toNat < W.length) then bif decide ((0 : Int) < (↑r.length : Int)) then bif decide ((0 : Nat) < r.length) then bif decide ((gr W (gz r (IntKind.i64.wrap ((↑r.length : Int) - (1 : Int))).toNat).toNat).length = (gr W (gz r (IntKind.i64.wrap ((↑r.length : Int) - (1 : Int))).toNat).toNat).length ∧ (gr W (gz r (IntKind.i64.wrap ((↑r.length : Int) - (1 : Int))).toNat).toNat).length ≤ (4611686018427387904 : Nat)) && (true && (true && true) || true && true) then bif (gr W (gz r (IntKind.i64.wrap ((↑r.length : Int) - (1 : Int))).toNat).toNat).any (has.sp (gz r (0 : Nat))) then bif (1 : Nat) == (1 : Nat) && (1 : Nat) == (1 : Nat) && (true && (true && true) && (true && (decide ((0 : Nat) + (List.take r.length r).length ≤ (4611686018427387904 : Nat)) && decide (((0 : Nat) + (List.take r.length r).length) * (8 : Nat) ≤ (140737488355328 : Nat))))) then some (AVal.ro (Cont.rows IntKind.i64 ((List.replicate (1 : Nat) []).set (0 : Nat) (List.take ((0 : Nat) + (List.take r.length r).length) (List.take (0 : Nat) (List.replicate (0 : Nat) (0 : Int)) ++ List.take r.length r)))) (1 : Nat) (1 : Nat), []) else none else some (AVal.ro (Cont.rows IntKind.i64 (List.replicate (0 : Nat) [])) (0 : Nat) (1 : Nat), []) else none else none else none else none else none else bif true && (decide ((0 : Int) ≤ gz r (IntKind.i64.wrap ((↑r.length : Int) - (1 : Int))).toNat) && decide (gz r (IntKind.i64.wrap ((↑r.length : Int) - (1 : Int))).toNat < (↑W.length : Int))) then bif decide ((gz r (IntKind.i64.wrap ((↑r.length : Int) - (1 : Int))).toNat).toNat < W.length) then L N f f (mkS (74 : Nat) [((0 : Nat), AVal.ro (Cont.rows IntKind.i64 W) W.length (1 : Nat)), ((1 : Nat), AVal.ro (Cont.ints IntKind.i64 r) r.length (1 : Nat)), ((2 : Nat), AVal.int IntKind.i64 l), ((7 : Nat), AVal.int IntKind.i64 (gz r (IntKind.i64.wrap ((↑r.length : Int) - (1 : Int))).toNat)), ((8 : Nat), AVal.own (0 : Nat) (0 : Nat) (0 : Nat) (0 : Nat) (1 : Nat)), ((39 : Nat), AVal.int IntKind.i64 (↑(gr W (gz r (IntKind.i64.wrap ((↑r.length : Int) - (1 : Int))).toNat).toNat).length : Int)), ((40 : Nat), AVal.int IntKind.i64 (0 : Int))] [{ c := BC.typ (Cont.rows IntKind.i64 (List.replicate (0 : Nat) [])), ver := (0 : Nat) }]) else none else none else none else none) := by kernel_rfl
theorem round (W o : List (List Int)) (r : List Int) (l x : Int) (q le k N f c : Nat) :
  L N f (c + 1) (mkS 74 [(0, .ro (.rows .i64 W) W.length 1), (1, .ro (.ints .i64 r) r.length 1), (2, .int .i64 l), (7, .int .i64 x), (8, .own 0 0 q 0 1), (39, .int .i64 ((le : Nat) : Int)), (40, .int .i64 ((k : Nat) : Int))] [⟨.typ (.rows .i64 o), 0⟩])
  = (bif decide ((↑k : Int) < (↑le : Int)) then bif true && (decide ((0 : Int) ≤ x) && decide (x < (↑W.length : Int))) then bif decide (x.toNat < W.length) then bif true && (decide ((0 : Int) ≤ (↑k : Int)) && decide ((↑k : Int) < (↑(gr W x.toNat).length : Int))) then bif decide ((↑k : Int).toNat < (gr W x.toNat).length) then bif decide ((0 : Int) < (↑r.length : Int)) then bif decide ((0 : Nat) < r.length) then bif decide (gz r (0 : Nat) < gz (gr W x.toNat) (↑k : Int).toNat) then bif decide (r.length ≤ r.length ∧ r.length ≤ (4611686018427387904 : Nat)) && (true && (true && true) || true && true) then bif !(List.take r.length r).any (has.sp (gz (gr W x.toNat) (↑k : Int).toNat)) then bif (1 : Nat) == (1 : Nat) && (1 : Nat) == (1 : Nat) && (true && (true && true) && (true && (decide ((0 : Nat) + (List.take r.length r).length ≤ (4611686018427387904 : Nat)) && decide (((0 : Nat) + (List.take r.length r).length) * (8 : Nat) ≤ (140737488355328 : Nat))))) then bif (1 : Nat) == (1 : Nat) && (1 : Nat) == (1 : Nat) && (true && (true && true) && (true && true && (decide ((0 : Nat) + (List.take r.length r).length + (List.take (1 : Nat) (List.drop (0 : Nat) ((List.replicate (1 : Nat) (0 : Int)).set (0 : Nat) (gz (gr W x.toNat) (↑k : Int).toNat)))).length ≤ (4611686018427387904 : Nat)) && decide (((0 : Nat) + (List.take r.length r).length + (List.take (1 : Nat) (List.drop (0 : Nat) ((List.replicate (1 : Nat) (0 : Int)).set (0 : Nat) (gz (gr W x.toNat) (↑k : Int).toNat)))).length) * (8 : Nat) ≤ (140737488355328 : Nat))))) then bif decide (W.length = W.length ∧ (0 : Nat) + (Cont.ints IntKind.i64 (List.take r.length r)).len + (Cont.ints IntKind.i64 (List.take (1 : Nat) (List.drop (0 : Nat) ((List.replicate (1 : Nat) (0 : Int)).set (0 : Nat) (gz (gr W x.toNat) (↑k : Int).toNat))))).len = (List.take ((0 : Nat) + (Cont.ints IntKind.i64 (List.take r.length r)).len) (List.take (0 : Nat) (List.replicate (0 : Nat) (0 : Int)) ++ List.take r.length r) ++ List.take (1 : Nat) (List.drop (0 : Nat) ((List.replicate (1 : Nat) (0 : Int)).set (0 : Nat) (gz (gr W x.toNat) (↑k : Int).toNat)))).length ∧ (↑((0 : Nat) + (Cont.ints IntKind.i64 (List.take r.length r)).len + (Cont.ints IntKind.i64 (List.take (1 : Nat) (List.drop (0 : Nat) ((List.replicate (1 : Nat) (0 : Int)).set (0 : Nat) (gz (gr W x.toNat) (↑k : Int).toNat))))).len) : Int) ≤ l ∧ l - (↑((0 : Nat) + (Cont.ints IntKind.i64 (List.take r.length r)).len + (Cont.ints IntKind.i64 (List.take (1 : Nat) (List.drop (0 : Nat) ((List.replicate (1 : Nat) (0 : Int)).set (0 : Nat) (gz (gr W x.toNat) (↑k : Int).toNat))))).len) : Int) < (↑N : Int)) && (gvs.gv.sp W l && gvs.rg.sp W.length (List.take ((0 : Nat) + (List.take r.length r).length) (List.take (0 : Nat) (List.replicate (0 : Nat) (0 : Int)) ++ List.take r.length r) ++ List.take (1 : Nat) (List.drop (0 : Nat) ((List.replicate (1 : Nat) (0 : Int)).set (0 : Nat) (gz (gr W x.toNat) (↑k : Int).toNat))))) && (true && (true && (true && true)) || false && true) then bif (1 : Nat) == (1 : Nat) && (1 : Nat) == (1 : Nat) && (true && (true && true) && (true && (decide (q + (List.take (gvs.gw.sv W (l.toNat - ((0 : Nat) + (List.take r.length r).length + (List.take (1 : Nat) (List.drop (0 : Nat) ((List.replicate (1 : Nat) (0 : Int)).set (0 : Nat) (gz (gr W x.toNat) (↑k : Int).toNat)))).length)) (List.take ((0 : Nat) + (List.take r.length r).length) (List.take (0 : Nat) (List.replicate (0 : Nat) (0 : Int)) ++ List.take r.length r) ++ List.take (1 : Nat) (List.drop (0 : Nat) ((List.replicate (1 : Nat) (0 : Int)).set (0 : Nat) (gz (gr W x.toNat) (↑k : Int).toNat))))).length (gvs.gw.sv W (l.toNat - ((0 : Nat) + (List.take r.length r).length + (List.take (1 : Nat) (List.drop (0 : Nat) ((List.replicate (1 : Nat) (0 : Int)).set (0 : Nat) (gz (gr W x.toNat) (↑k : Int).toNat)))).length)) (List.take ((0 : Nat) + (List.take r.length r).length) (List.take (0 : Nat) (List.replicate (0 : Nat) (0 : Int)) ++ List.take r.length r) ++ List.take (1 : Nat) (List.drop (0 : Nat) ((List.replicate (1 : Nat) (0 : Int)).set (0 : Nat) (gz (gr W x.toNat) (↑k : Int).toNat)))))).length ≤ (4611686018427387904 : Nat)) && decide ((q + (List.take (gvs.gw.sv W (l.toNat - ((0 : Nat) + (List.take r.length r).length + (List.take (1 : Nat) (List.drop (0 : Nat) ((List.replicate (1 : Nat) (0 : Int)).set (0 : Nat) (gz (gr W x.toNat) (↑k : Int).toNat)))).length)) (List.take ((0 : Nat) + (List.take r.length r).length) (List.take (0 : Nat) (List.replicate (0 : Nat) (0 : Int)) ++ List.take r.length r) ++ List.take (1 : Nat) (List.drop (0 : Nat) ((List.replicate (1 : Nat) (0 : Int)).set (0 : Nat) (gz (gr W x.toNat) (↑k : Int).toNat))))).length (gvs.gw.sv W (l.toNat - ((0 : Nat) + (List.take r.length r).length + (List.take (1 : Nat) (List.drop (0 : Nat) ((List.replicate (1 : Nat) (0 : Int)).set (0 : Nat) (gz (gr W x.toNat) (↑k : Int).toNat)))).length)) (List.take ((0 : Nat) + (List.take r.length r).length) (List.take (0 : Nat) (List.replicate (0 : Nat) (0 : Int)) ++ List.take r.length r) ++ List.take (1 : Nat) (List.drop (0 : Nat) ((List.replicate (1 : Nat) (0 : Int)).set (0 : Nat) (gz (gr W x.toNat) (↑k : Int).toNat)))))).length) * (24 : Nat) ≤ (140737488355328 : Nat))))) then L N f c (mkS (74 : Nat) [((0 : Nat), AVal.ro (Cont.rows IntKind.i64 W) W.length (1 : Nat)), ((1 : Nat), AVal.ro (Cont.ints IntKind.i64 r) r.length (1 : Nat)), ((2 : Nat), AVal.int IntKind.i64 l), ((7 : Nat), AVal.int IntKind.i64 x), ((8 : Nat), AVal.own (0 : Nat) (0 : Nat) (q + (List.take (gvs.gw.sv W (l.toNat - ((0 : Nat) + (List.take r.length r).length + (List.take (1 : Nat) (List.drop (0 : Nat) ((List.replicate (1 : Nat) (0 : Int)).set (0 : Nat) (gz (gr W x.toNat) (↑k : Int).toNat)))).length)) (List.take ((0 : Nat) + (List.take r.length r).length) (List.take (0 : Nat) (List.replicate (0 : Nat) (0 : Int)) ++ List.take r.length r) ++ List.take (1 : Nat) (List.drop (0 : Nat) ((List.replicate (1 : Nat) (0 : Int)).set (0 : Nat) (gz (gr W x.toNat) (↑k : Int).toNat))))).length (gvs.gw.sv W (l.toNat - ((0 : Nat) + (List.take r.length r).length + (List.take (1 : Nat) (List.drop (0 : Nat) ((List.replicate (1 : Nat) (0 : Int)).set (0 : Nat) (gz (gr W x.toNat) (↑k : Int).toNat)))).length)) (List.take ((0 : Nat) + (List.take r.length r).length) (List.take (0 : Nat) (List.replicate (0 : Nat) (0 : Int)) ++ List.take r.length r) ++ List.take (1 : Nat) (List.drop (0 : Nat) ((List.replicate (1 : Nat) (0 : Int)).set (0 : Nat) (gz (gr W x.toNat) (↑k : Int).toNat)))))).length) (0 : Nat) (1 : Nat)), ((39 : Nat), AVal.int IntKind.i64 (↑le : Int)), ((40 : Nat), AVal.int IntKind.i64 (IntKind.i64.wrap ((↑k : Int) + (1 : Int))))] [{ c := BC.typ (Cont.rows IntKind.i64 (List.take q o ++ List.take (gvs.gw.sv W (l.toNat - ((0 : Nat) + (List.take r.length r).length + (List.take (1 : Nat) (List.drop (0 : Nat) ((List.replicate (1 : Nat) (0 : Int)).set (0 : Nat) (gz (gr W x.toNat) (↑k : Int).toNat)))).length)) (List.take ((0 : Nat) + (List.take r.length r).length) (List.take (0 : Nat) (List.replicate (0 : Nat) (0 : Int)) ++ List.take r.length r) ++ List.take (1 : Nat) (List.drop (0 : Nat) ((List.replicate (1 : Nat) (0 : Int)).set (0 : Nat) (gz (gr W x.toNat) (↑k : Int).toNat))))).length (gvs.gw.sv W (l.toNat - ((0 : Nat) + (List.take r.length r).length + (List.take (1 : Nat) (List.drop (0 : Nat) ((List.replicate (1 : Nat) (0 : Int)).set (0 : Nat) (gz (gr W x.toNat) (↑k : Int).toNat)))).length)) (List.take ((0 : Nat) + (List.take r.length r).length) (List.take (0 : Nat) (List.replicate (0 : Nat) (0 : Int)) ++ List.take r.length r) ++ List.take (1 : Nat) (List.drop (0 : Nat) ((List.replicate (1 : Nat) (0 : Int)).set (0 : Nat) (gz (gr W x.toNat) (↑k : Int).toNat))))))), ver := (0 : Nat) }]) else none else none else none else none else L N f c (mkS (74 : Nat) [((0 : Nat), AVal.ro (Cont.rows IntKind.i64 W) W.length (1 : Nat)), ((1 : Nat), AVal.ro (Cont.ints IntKind.i64 r) r.length (1 : Nat)), ((2 : Nat), AVal.int IntKind.i64 l), ((7 : Nat), AVal.int IntKind.i64 x), ((8 : Nat), AVal.own (0 : Nat) (0 : Nat) q (0 : Nat) (1 : Nat)), ((39 : Nat), AVal.int IntKind.i64 (↑le : Int)), ((40 : Nat), AVal.int IntKind.i64 (IntKind.i64.wrap ((↑k : Int) + (1 : Int))))] [{ c := BC.typ (Cont.rows IntKind.i64 o), ver := (0 : Nat) }]) else none else L N f c (mkS (74 : Nat) [((0 : Nat), AVal.ro (Cont.rows IntKind.i64 W) W.length (1 : Nat)), ((1 : Nat), AVal.ro (Cont.ints IntKind.i64 r) r.length (1 : Nat)), ((2 : Nat), AVal.int IntKind.i64 l), ((7 : Nat), AVal.int IntKind.i64 x), ((8 : Nat), AVal.own (0 : Nat) (0 : Nat) q (0 : Nat) (1 : Nat)), ((39 : Nat), AVal.int IntKind.i64 (↑le : Int)), ((40 : Nat), AVal.int IntKind.i64 (IntKind.i64.wrap ((↑k : Int) + (1 : Int))))] [{ c := BC.typ (Cont.rows IntKind.i64 o), ver := (0 : Nat) }]) else none else none else none else none else none else none else some (AVal.ro (Cont.rows IntKind.i64 o) q (1 : Nat), [])) := by kernel_rfl
theorem loop (W : List (List Int)) (r : List Int) (M N D f : Nat) (hv : gvs.gv.sp W ((M : Nat) : Int) = true) (hr : gvs.Rg W.length r) (hL : r.length + (D + 1) = M) (hN : D < N) : ∀ (d k c : Nat) (o Z : List (List Int)), k + d = (gvs.lr W r).length → d < c → o.length ≤ k * 4096 → o ++ gvs.cat (fun k => bif gvs.can.sp r (gz (gvs.lr W r) k) then gvs.gw.sv W D (r ++ [gz (gvs.lr W r) k]) else []) d k = Z →
    L N f c (mkS 74 [(0, .ro (.rows .i64 W) W.length 1), (1, .ro (.ints .i64 r) r.length 1), (2, .int .i64 ((M : Nat) : Int)), (7, .int .i64 (gz r (r.length - 1))), (8, .own 0 0 o.length 0 1), (39, .int .i64 (((gvs.lr W r).length : Nat) : Int)), (40, .int .i64 ((k : Nat) : Int))] [⟨.typ (.rows .i64 o), 0⟩]) = some (.ro (.rows .i64 Z) Z.length 1, []) := by
  obtain ⟨g, hL2, hL4⟩ := gvs.valid hv
  obtain ⟨l8, lin⟩ := gvs.lr_in g hr
  obtain ⟨x0, x1⟩ := hr.last
  have hp := hr.pos
  have el : gr W (gz r (r.length - 1)).toNat = gvs.lr W r := rfl
  intro d
  induction d with
  | zero =>
    intro k c o Z hk hc ho hZ
    obtain ⟨c, rfl⟩ : ∃ x, c = x + 1 := ⟨c - 1, by omega⟩
    rw [gvs.cat, List.append_nil] at hZ
    subst hZ
    rw [round]
    simp -implicitDefEqProofs (disch := omega) only [el, take_one, set_one, decide_eq_true, decide_eq_false, IntWalk.i64_in, beqT, beqF, bneT, bneF, nat_succ, ← Int.natCast_mul, ← Int.natCast_add, Int.toNat_natCast, Int.zero_mul, Int.zero_add, Int.add_zero, Nat.zero_add, Nat.add_zero, Nat.zero_mul, List.length_singleton, List.length_append, List.length_nil, List.length_cons, List.take_length, List.drop_zero, List.replicate_zero, List.take_nil, List.nil_append, Nat.reduceBEq, Nat.reduceMul, Nat.reduceLeDiff, eq_self, and_self, true_and, and_true, decide_true, decide_false, Bool.and_self, Bool.or_self, Bool.and_true, Bool.true_and, Bool.and_false, Bool.false_and, Bool.or_true, Bool.true_or, Bool.or_false, Bool.false_or, Bool.not_true, Bool.not_false, cond_true, cond_false]
  | succ d ih =>
    intro k c o Z hk hc ho hZ
    obtain ⟨c, rfl⟩ : ∃ x, c = x + 1 := ⟨c - 1, by omega⟩
    rw [gvs.cat] at hZ
    rw [round]
    have to : o.take o.length = o := List.take_of_length_le (Nat.le_refl _)
    cases hx : gvs.can.sp r (gz (gvs.lr W r) k)
    · rw [hx, cond_false, List.nil_append] at hZ
      have g2 := ih (k + 1) c o Z (by omega) (by omega) (by omega) hZ
      unfold gvs.can.sp at hx
      by_cases c1 : gz r 0 < gz (gvs.lr W r) k
      · rw [decide_eq_true c1, Bool.true_and] at hx
        simp -implicitDefEqProofs (disch := omega) only [el, hx, take_one, set_one, decide_eq_true, decide_eq_false, IntWalk.i64_in, beqT, beqF, bneT, bneF, nat_succ, ← Int.natCast_mul, ← Int.natCast_add, Int.toNat_natCast, Int.zero_mul, Int.zero_add, Int.add_zero, Nat.zero_add, Nat.add_zero, Nat.zero_mul, List.length_singleton, List.length_append, List.length_nil, List.length_cons, List.take_length, List.drop_zero, List.replicate_zero, List.take_nil, List.nil_append, Nat.reduceBEq, Nat.reduceMul, Nat.reduceLeDiff, eq_self, and_self, true_and, and_true, decide_true, decide_false, Bool.and_self, Bool.or_self, Bool.and_true, Bool.true_and, Bool.and_false, Bool.false_and, Bool.or_true, Bool.true_or, Bool.or_false, Bool.false_or, Bool.not_true, Bool.not_false, cond_true, cond_false]
        exact g2
      · simp -implicitDefEqProofs (disch := omega) only [el, take_one, set_one, decide_eq_true, decide_eq_false, IntWalk.i64_in, beqT, beqF, bneT, bneF, nat_succ, ← Int.natCast_mul, ← Int.natCast_add, Int.toNat_natCast, Int.zero_mul, Int.zero_add, Int.add_zero, Nat.zero_add, Nat.add_zero, Nat.zero_mul, List.length_singleton, List.length_append, List.length_nil, List.length_cons, List.take_length, List.drop_zero, List.replicate_zero, List.take_nil, List.nil_append, Nat.reduceBEq, Nat.reduceMul, Nat.reduceLeDiff, eq_self, and_self, true_and, and_true, decide_true, decide_false, Bool.and_self, Bool.or_self, Bool.and_true, Bool.true_and, Bool.and_false, Bool.false_and, Bool.or_true, Bool.true_or, Bool.or_false, Bool.false_or, Bool.not_true, Bool.not_false, cond_true, cond_false]
        exact g2
    · have hq := hr.add (lin k (by omega)) hx
      have hq2 := gvs.rg_iff.2 hq
      have hb := gvs.gw_le g D _ hq
      have hb2 : 8 ^ D ≤ 512 := by
        have := Nat.pow_le_pow_right (n := 8) (by omega) (show D ≤ 3 by omega)
        exact this
      rw [hx, cond_true, ← List.append_assoc] at hZ
      have g2 := ih (k + 1) c (o ++ gvs.gw.sv W D (r ++ [gz (gvs.lr W r) k])) Z (by omega) (by omega) (by rw [List.length_append]; omega) hZ
      unfold gvs.can.sp at hx
      rw [Bool.and_eq_true, decide_eq_true_eq] at hx
      obtain ⟨c1, c2⟩ := hx
      have eD : M - (r.length + 1) = D := by omega
      rw [List.length_append] at g2
      simp -implicitDefEqProofs (disch := omega) only [el, c2, hv, hq2, to, eD, Cont.len, take_one, set_one, decide_eq_true, decide_eq_false, IntWalk.i64_in, beqT, beqF, bneT, bneF, nat_succ, ← Int.natCast_mul, ← Int.natCast_add, Int.toNat_natCast, Int.zero_mul, Int.zero_add, Int.add_zero, Nat.zero_add, Nat.add_zero, Nat.zero_mul, List.length_singleton, List.length_append, List.length_nil, List.length_cons, List.take_length, List.drop_zero, List.replicate_zero, List.take_nil, List.nil_append, Nat.reduceBEq, Nat.reduceMul, Nat.reduceLeDiff, eq_self, and_self, true_and, and_true, decide_true, decide_false, Bool.and_self, Bool.or_self, Bool.and_true, Bool.true_and, Bool.and_false, Bool.false_and, Bool.or_true, Bool.true_or, Bool.or_false, Bool.false_or, Bool.not_true, Bool.not_false, cond_true, cond_false]
      exact g2
theorem run (N : Nat) : ∀ args v new, R (N + 1) args = some (true, v, new) → ∃ fuel, runFn Try.prog (orc [⟨73, l05Takes.R⟩, ⟨72, l00Has.R⟩, ⟨55, (R N)⟩]) hd dr (some 0) fuel (bodyOf Try.f55) 74 [6] args [] = some (v, new) := by
  intro args v new h
  unfold R at h
  split at h
  · rename_i W m r q l
    simp only [Option.some.injEq, Prod.mk.injEq, Bool.and_eq_true, decide_eq_true_eq] at h
    obtain ⟨⟨⟨rfl, rfl, h1, h2⟩, hv, hr2⟩, rfl, rfl⟩ := h
    obtain ⟨M, rfl⟩ : ∃ x : Nat, l = x := ⟨l.toNat, by omega⟩
    obtain ⟨g, hL2, hL4⟩ := gvs.valid hv
    have hr := gvs.rg_iff.1 hr2
    obtain ⟨l8, lin⟩ := gvs.lr_in g hr
    obtain ⟨x0, x1⟩ := hr.last
    have hp := hr.pos
    have el : gr W (gz r (r.length - 1)).toNat = gvs.lr W r := rfl
    have wl : IntKind.i64.wrap ((r.length : Int) - 1) = ((r.length - 1 : Nat) : Int) := by
      rw [IntWalk.i64_in _ (by omega)]; omega
    obtain ⟨F, hF⟩ : ∃ F : Nat, F = 100 := ⟨100, rfl⟩
    refine ⟨F, ?_⟩
    rw [start, Int.toNat_natCast]
    have tr : r.take r.length = r := List.take_of_length_le (Nat.le_refl _)
    have s1 : (List.replicate 1 ([] : List Int)).set 0 r = [r] := rfl
    by_cases c : r.length = M
    · have e : M - r.length = 0 := by omega
      rw [e, gvs.gw.sv]
      cases hc : (gvs.lr W r).any (has.sp (gz r 0))
      · simp -implicitDefEqProofs (disch := omega) only [el, wl, hc, tr, s1, take_one, set_one, decide_eq_true, decide_eq_false, IntWalk.i64_in, beqT, beqF, bneT, bneF, nat_succ, ← Int.natCast_mul, ← Int.natCast_add, Int.toNat_natCast, Int.zero_mul, Int.zero_add, Int.add_zero, Nat.zero_add, Nat.add_zero, Nat.zero_mul, List.length_singleton, List.length_append, List.length_nil, List.length_cons, List.take_length, List.drop_zero, List.replicate_zero, List.take_nil, List.nil_append, Nat.reduceBEq, Nat.reduceMul, Nat.reduceLeDiff, eq_self, and_self, true_and, and_true, decide_true, decide_false, Bool.and_self, Bool.or_self, Bool.and_true, Bool.true_and, Bool.and_false, Bool.false_and, Bool.or_true, Bool.true_or, Bool.or_false, Bool.false_or, Bool.not_true, Bool.not_false, cond_true, cond_false]
        try rfl
      · simp -implicitDefEqProofs (disch := omega) only [el, wl, hc, tr, s1, take_one, set_one, decide_eq_true, decide_eq_false, IntWalk.i64_in, beqT, beqF, bneT, bneF, nat_succ, ← Int.natCast_mul, ← Int.natCast_add, Int.toNat_natCast, Int.zero_mul, Int.zero_add, Int.add_zero, Nat.zero_add, Nat.add_zero, Nat.zero_mul, List.length_singleton, List.length_append, List.length_nil, List.length_cons, List.take_length, List.drop_zero, List.replicate_zero, List.take_nil, List.nil_append, Nat.reduceBEq, Nat.reduceMul, Nat.reduceLeDiff, eq_self, and_self, true_and, and_true, decide_true, decide_false, Bool.and_self, Bool.or_self, Bool.and_true, Bool.true_and, Bool.and_false, Bool.false_and, Bool.or_true, Bool.true_or, Bool.or_false, Bool.false_or, Bool.not_true, Bool.not_false, cond_true, cond_false]
        try rfl
    · obtain ⟨D, hD⟩ : ∃ D, M - r.length = D + 1 := ⟨M - r.length - 1, by omega⟩
      have g2 := loop W r M N D F hv hr (by omega) (by omega) (gvs.lr W r).length 0 F [] (gvs.gw.sv W (D + 1) r) (by omega) (by omega) (Nat.zero_le _) (by rw [List.nil_append, gvs.gw.sv])
      rw [hD]
      simp -implicitDefEqProofs (disch := omega) only [el, wl, take_one, set_one, decide_eq_true, decide_eq_false, IntWalk.i64_in, beqT, beqF, bneT, bneF, nat_succ, ← Int.natCast_mul, ← Int.natCast_add, Int.toNat_natCast, Int.zero_mul, Int.zero_add, Int.add_zero, Nat.zero_add, Nat.add_zero, Nat.zero_mul, List.length_singleton, List.length_append, List.length_nil, List.length_cons, List.take_length, List.drop_zero, List.replicate_zero, List.take_nil, List.nil_append, Nat.reduceBEq, Nat.reduceMul, Nat.reduceLeDiff, eq_self, and_self, true_and, and_true, decide_true, decide_false, Bool.and_self, Bool.or_self, Bool.and_true, Bool.true_and, Bool.and_false, Bool.false_and, Bool.or_true, Bool.true_or, Bool.or_false, Bool.false_or, Bool.not_true, Bool.not_false, cond_true, cond_false]
      exact g2
  · cases h
theorem run0 : ∀ args v new, R 0 args = some (true, v, new) → ∃ fuel, runFn Try.prog (orc [⟨73, l05Takes.R⟩, ⟨72, l00Has.R⟩]) hd dr (some 0) fuel (bodyOf Try.f55) 74 [6] args [] = some (v, new) := by
  intro args v new h
  unfold R at h
  split at h
  · simp only [Option.some.injEq, Prod.mk.injEq, Bool.and_eq_true, decide_eq_true_eq] at h
    obtain ⟨⟨⟨h1, h2, h3, h4⟩, _⟩, _⟩ := h
    exact absurd h4 (by omega)
  · cases h
theorem ok : ∀ N, EntOk Try.prog ⟨55, R N⟩ := by
  intro N
  induction N with
  | zero => exact ent_okA mixed (A := (orc [⟨73, l05Takes.R⟩, ⟨72, l00Has.R⟩])) (orc_ok (by simp only [List.mem_cons, List.not_mem_nil, or_false, forall_eq_or_imp, forall_eq]; exact ⟨l05Takes.ok, l00Has.ok⟩)) Try.func55 (by kernel_rfl) (by kernel_rfl) (n := 74) (ts := [6]) (hd := hd) (dr := dr) (cut := (some 0)) (by kernel_rfl) (by kernel_rfl) (by kernel_rfl) run0
  | succ N ih => exact ent_okA mixed (A := (orc [⟨73, l05Takes.R⟩, ⟨72, l00Has.R⟩, ⟨55, (R N)⟩])) (orc_ok (by simp only [List.mem_cons, List.not_mem_nil, or_false, forall_eq_or_imp, forall_eq]; exact ⟨l05Takes.ok, l00Has.ok, ih⟩)) Try.func55 (by kernel_rfl) (by kernel_rfl) (n := 74) (ts := [6]) (hd := hd) (dr := dr) (cut := (some 0)) (by kernel_rfl) (by kernel_rfl) (by kernel_rfl) (run N)
end l05Grow


-- numbers
namespace gvs
theorem gv_sub {W : List (List Int)} {l : Int} (h : gv.sp W l = true) {s : Int} (h2 : 2 ≤ s) (h4 : s ≤ 4) : gv.sp W s = true := by
  simp only [gv.sp, Bool.and_eq_true] at h ⊢
  exact ⟨⟨h.1.1, h.1.2.1, decide_eq_true h2, decide_eq_true h4⟩, h.2⟩
end gvs

namespace l05Rings
def dr : Nat → Dr := fun i => bif eqN i 8 then ⟨some [997, 4], false⟩ else ⟨none, false⟩
def R : List AVal → Option (Bool × AVal × List Blk)
  | [.ro (.rows .i64 W) m 1, .int .i64 l] => some (decide (m = W.length) && gvs.gv.sp W l, .ro (.rows .i64 (gvs.rs.sv W l.toNat)) (gvs.rs.sv W l.toNat).length 1, [])
  | _ => none
def hd : Nat → Head := fun i => bif eqN i 0 then ⟨[998, 0, 1, 5, 6], none⟩ else ⟨[998, 0, 1, 5, 6, 15, 16], none⟩
noncomputable def L0 (f n : Nat) (s : State) := loopAt Try.prog (orc [⟨55, (l05Grow.R 10)⟩]) hd dr 0 f (bodyOf Try.f38) 0 [true, true, false, true] (retK Try.prog [4] 0 (some 0)) n s
noncomputable def L2 (f n n2 : Nat) (s : State) := loopAt Try.prog (orc [⟨55, (l05Grow.R 10)⟩]) hd dr 0 f (bodyAt (bodyOf Try.f38) [true, true, false, true]) (curAt (bodyOf Try.f38) 0 [true, true, false, true]) [true, false, true] (iterK (normE 0 (hd (curAt (bodyOf Try.f38) 0 [true, true, false, true]))) (L0 f n) (contAt Try.prog (orc [⟨55, (l05Grow.R 10)⟩]) hd dr 0 f (bodyOf Try.f38) 0 [true, true, false, true] (retK Try.prog [4] 0 (some 0)))) n2 s
theorem start (W : List (List Int)) (l : Int) (f : Nat) :
  runFn Try.prog (orc [⟨55, (l05Grow.R 10)⟩]) hd dr (some 0) f (bodyOf Try.f38) 28 [4] [.ro (.rows .i64 W) W.length 1, .int .i64 l] []
  = (L0 f f (mkS (28 : Nat) [((0 : Nat), AVal.ro (Cont.rows IntKind.i64 W) W.length (1 : Nat)), ((1 : Nat), AVal.int IntKind.i64 l), ((5 : Nat), AVal.own (0 : Nat) (0 : Nat) (0 : Nat) (0 : Nat) (1 : Nat)), ((6 : Nat), AVal.int IntKind.i64 (2 : Int))] [{ c := BC.typ (Cont.rows IntKind.i64 (List.replicate (0 : Nat) [])), ver := (0 : Nat) }])) := by kernel_rfl
theorem round0 (W o : List (List Int)) (M s q f n : Nat) :
  L0 f (n + 1) (mkS 28 [(0, .ro (.rows .i64 W) W.length 1), (1, .int .i64 ((M : Nat) : Int)), (5, .own 0 0 q 0 1), (6, .int .i64 ((s : Nat) : Int))] [⟨.typ (.rows .i64 o), 0⟩])
  = (bif decide ((↑s : Int) ≤ (↑M : Int)) then L2 f n f (mkS (28 : Nat) [((0 : Nat), AVal.ro (Cont.rows IntKind.i64 W) W.length (1 : Nat)), ((1 : Nat), AVal.int IntKind.i64 (↑M : Int)), ((5 : Nat), AVal.own (0 : Nat) (0 : Nat) q (0 : Nat) (1 : Nat)), ((6 : Nat), AVal.int IntKind.i64 (↑s : Int)), ((15 : Nat), AVal.int IntKind.i64 (↑W.length : Int)), ((16 : Nat), AVal.int IntKind.i64 (0 : Int))] [{ c := BC.typ (Cont.rows IntKind.i64 o), ver := (0 : Nat) }]) else some (AVal.ro (Cont.rows IntKind.i64 o) q (1 : Nat), [])) := by kernel_rfl
theorem round2 (W o : List (List Int)) (M s i q f n n2 : Nat) :
  L2 f n (n2 + 1) (mkS 28 [(0, .ro (.rows .i64 W) W.length 1), (1, .int .i64 ((M : Nat) : Int)), (5, .own 0 0 q 0 1), (6, .int .i64 ((s : Nat) : Int)), (15, .int .i64 ((W.length : Nat) : Int)), (16, .int .i64 ((i : Nat) : Int))] [⟨.typ (.rows .i64 o), 0⟩])
  = (bif decide ((↑i : Int) < (↑W.length : Int)) then bif decide (W.length = W.length ∧ (1 : Nat) = ((List.replicate (1 : Nat) (0 : Int)).set (0 : Nat) (↑i : Int)).length ∧ (↑(1 : Nat) : Int) ≤ (↑s : Int) ∧ (↑s : Int) - (↑(1 : Nat) : Int) < (↑(10 : Nat) : Int)) && (gvs.gv.sp W (↑s : Int) && gvs.rg.sp W.length ((List.replicate (1 : Nat) (0 : Int)).set (0 : Nat) (↑i : Int))) && (true && (true && (true && true)) || false && true) then bif (1 : Nat) == (1 : Nat) && (1 : Nat) == (1 : Nat) && (true && (true && true) && (true && (decide (q + (List.take (gvs.gw.sv W ((↑s : Int).toNat - (1 : Nat)) ((List.replicate (1 : Nat) (0 : Int)).set (0 : Nat) (↑i : Int))).length (gvs.gw.sv W ((↑s : Int).toNat - (1 : Nat)) ((List.replicate (1 : Nat) (0 : Int)).set (0 : Nat) (↑i : Int)))).length ≤ (4611686018427387904 : Nat)) && decide ((q + (List.take (gvs.gw.sv W ((↑s : Int).toNat - (1 : Nat)) ((List.replicate (1 : Nat) (0 : Int)).set (0 : Nat) (↑i : Int))).length (gvs.gw.sv W ((↑s : Int).toNat - (1 : Nat)) ((List.replicate (1 : Nat) (0 : Int)).set (0 : Nat) (↑i : Int)))).length) * (24 : Nat) ≤ (140737488355328 : Nat))))) then L2 f n n2 (mkS (28 : Nat) [((0 : Nat), AVal.ro (Cont.rows IntKind.i64 W) W.length (1 : Nat)), ((1 : Nat), AVal.int IntKind.i64 (↑M : Int)), ((5 : Nat), AVal.own (0 : Nat) (0 : Nat) (q + (List.take (gvs.gw.sv W ((↑s : Int).toNat - (1 : Nat)) ((List.replicate (1 : Nat) (0 : Int)).set (0 : Nat) (↑i : Int))).length (gvs.gw.sv W ((↑s : Int).toNat - (1 : Nat)) ((List.replicate (1 : Nat) (0 : Int)).set (0 : Nat) (↑i : Int)))).length) (0 : Nat) (1 : Nat)), ((6 : Nat), AVal.int IntKind.i64 (↑s : Int)), ((15 : Nat), AVal.int IntKind.i64 (↑W.length : Int)), ((16 : Nat), AVal.int IntKind.i64 (IntKind.i64.wrap ((↑i : Int) + (1 : Int))))] [{ c := BC.typ (Cont.rows IntKind.i64 (List.take q o ++ List.take (gvs.gw.sv W ((↑s : Int).toNat - (1 : Nat)) ((List.replicate (1 : Nat) (0 : Int)).set (0 : Nat) (↑i : Int))).length (gvs.gw.sv W ((↑s : Int).toNat - (1 : Nat)) ((List.replicate (1 : Nat) (0 : Int)).set (0 : Nat) (↑i : Int))))), ver := (0 : Nat) }]) else none else none else L0 f n (mkS (28 : Nat) [((0 : Nat), AVal.ro (Cont.rows IntKind.i64 W) W.length (1 : Nat)), ((1 : Nat), AVal.int IntKind.i64 (↑M : Int)), ((5 : Nat), AVal.own (0 : Nat) (0 : Nat) q (0 : Nat) (1 : Nat)), ((6 : Nat), AVal.int IntKind.i64 (IntKind.i64.wrap ((↑s : Int) + (1 : Int))))] [{ c := BC.typ (Cont.rows IntKind.i64 o), ver := (0 : Nat) }])) := by kernel_rfl
theorem loop2 (W : List (List Int)) (M s f n : Nat) (hv : gvs.gv.sp W ((M : Nat) : Int) = true) (h2 : 2 ≤ s) (hs : s ≤ M) : ∀ (d i n2 : Nat) (o Z : List (List Int)), i + d = W.length → d < n2 → o.length ≤ s * 8192 + i * 512 → o ++ gvs.cat (fun i => gvs.gw.sv W (s - 1) [((i : Nat) : Int)]) d i = Z →
    L2 f n n2 (mkS 28 [(0, .ro (.rows .i64 W) W.length 1), (1, .int .i64 ((M : Nat) : Int)), (5, .own 0 0 o.length 0 1), (6, .int .i64 ((s : Nat) : Int)), (15, .int .i64 ((W.length : Nat) : Int)), (16, .int .i64 ((i : Nat) : Int))] [⟨.typ (.rows .i64 o), 0⟩]) = L0 f n (mkS 28 [(0, .ro (.rows .i64 W) W.length 1), (1, .int .i64 ((M : Nat) : Int)), (5, .own 0 0 Z.length 0 1), (6, .int .i64 (((s + 1) : Nat) : Int))] [⟨.typ (.rows .i64 Z), 0⟩]) := by
  obtain ⟨g, hM2, hM4⟩ := gvs.valid hv
  have h8 := g.h8
  have hvs := gvs.gv_sub hv (s := ((s : Nat) : Int)) (by omega) (by omega)
  intro d
  induction d with
  | zero =>
    intro i n2 o Z hk hn ho hZ
    obtain ⟨n2, rfl⟩ : ∃ q, n2 = q + 1 := ⟨n2 - 1, by omega⟩
    obtain rfl : i = W.length := by omega
    rw [gvs.cat, List.append_nil] at hZ
    subst hZ
    rw [round2]
    simp -implicitDefEqProofs (disch := omega) only [take_one, set_one, decide_eq_true, decide_eq_false, IntWalk.i64_in, beqT, beqF, bneT, bneF, nat_succ, ← Int.natCast_mul, ← Int.natCast_add, Int.toNat_natCast, Int.zero_mul, Int.zero_add, Int.add_zero, Nat.zero_add, Nat.add_zero, Nat.zero_mul, List.length_singleton, List.length_append, List.length_nil, List.length_cons, List.take_length, List.drop_zero, List.replicate_zero, List.take_nil, List.nil_append, Nat.reduceBEq, Nat.reduceMul, Nat.reduceLeDiff, eq_self, and_self, true_and, and_true, decide_true, decide_false, Bool.and_self, Bool.or_self, Bool.and_true, Bool.true_and, Bool.and_false, Bool.false_and, Bool.or_true, Bool.true_or, Bool.or_false, Bool.false_or, Bool.not_true, Bool.not_false, cond_true, cond_false]
  | succ d ih =>
    intro i n2 o Z hk hn ho hZ
    obtain ⟨n2, rfl⟩ : ∃ q, n2 = q + 1 := ⟨n2 - 1, by omega⟩
    rw [gvs.cat, ← List.append_assoc] at hZ
    have hq := gvs.Rg.one (n := W.length) (i := i) (by omega)
    have hq2 := gvs.rg_iff.2 hq
    have hb := gvs.gw_le g (s - 1) _ hq
    have hb2 : 8 ^ (s - 1) ≤ 512 := Nat.pow_le_pow_right (n := 8) (by omega) (show s - 1 ≤ 3 by omega)
    have g2 := ih (i + 1) n2 (o ++ gvs.gw.sv W (s - 1) [((i : Nat) : Int)]) Z (by omega) (by omega) (by rw [List.length_append]; omega) hZ
    have to : o.take o.length = o := List.take_of_length_le (Nat.le_refl _)
    rw [List.length_append] at g2
    rw [round2]
    simp -implicitDefEqProofs (disch := omega) only [hvs, hq2, to, take_one, set_one, decide_eq_true, decide_eq_false, IntWalk.i64_in, beqT, beqF, bneT, bneF, nat_succ, ← Int.natCast_mul, ← Int.natCast_add, Int.toNat_natCast, Int.zero_mul, Int.zero_add, Int.add_zero, Nat.zero_add, Nat.add_zero, Nat.zero_mul, List.length_singleton, List.length_append, List.length_nil, List.length_cons, List.take_length, List.drop_zero, List.replicate_zero, List.take_nil, List.nil_append, Nat.reduceBEq, Nat.reduceMul, Nat.reduceLeDiff, eq_self, and_self, true_and, and_true, decide_true, decide_false, Bool.and_self, Bool.or_self, Bool.and_true, Bool.true_and, Bool.and_false, Bool.false_and, Bool.or_true, Bool.true_or, Bool.or_false, Bool.false_or, Bool.not_true, Bool.not_false, cond_true, cond_false]
    exact g2
theorem loop0 (W : List (List Int)) (M f : Nat) (hf : 10 < f) (hv : gvs.gv.sp W ((M : Nat) : Int) = true) : ∀ (d s n : Nat) (o Z : List (List Int)), s + d = M + 1 → d < n → 2 ≤ s → o.length ≤ s * 8192 → o ++ gvs.cat (fun s => gvs.r1.sv W s) d s = Z →
    L0 f n (mkS 28 [(0, .ro (.rows .i64 W) W.length 1), (1, .int .i64 ((M : Nat) : Int)), (5, .own 0 0 o.length 0 1), (6, .int .i64 ((s : Nat) : Int))] [⟨.typ (.rows .i64 o), 0⟩]) = some (.ro (.rows .i64 Z) Z.length 1, []) := by
  obtain ⟨g, hM2, hM4⟩ := gvs.valid hv
  have h8 := g.h8
  intro d
  induction d with
  | zero =>
    intro s n o Z hk hn h2 ho hZ
    obtain ⟨n, rfl⟩ : ∃ q, n = q + 1 := ⟨n - 1, by omega⟩
    rw [gvs.cat, List.append_nil] at hZ
    subst hZ
    rw [round0]
    simp -implicitDefEqProofs (disch := omega) only [take_one, set_one, decide_eq_true, decide_eq_false, IntWalk.i64_in, beqT, beqF, bneT, bneF, nat_succ, ← Int.natCast_mul, ← Int.natCast_add, Int.toNat_natCast, Int.zero_mul, Int.zero_add, Int.add_zero, Nat.zero_add, Nat.add_zero, Nat.zero_mul, List.length_singleton, List.length_append, List.length_nil, List.length_cons, List.take_length, List.drop_zero, List.replicate_zero, List.take_nil, List.nil_append, Nat.reduceBEq, Nat.reduceMul, Nat.reduceLeDiff, eq_self, and_self, true_and, and_true, decide_true, decide_false, Bool.and_self, Bool.or_self, Bool.and_true, Bool.true_and, Bool.and_false, Bool.false_and, Bool.or_true, Bool.true_or, Bool.or_false, Bool.false_or, Bool.not_true, Bool.not_false, cond_true, cond_false]
  | succ d ih =>
    intro s n o Z hk hn h2 ho hZ
    obtain ⟨n, rfl⟩ : ∃ q, n = q + 1 := ⟨n - 1, by omega⟩
    rw [gvs.cat, ← List.append_assoc] at hZ
    have hb : (gvs.r1.sv W s).length ≤ 8 * 512 := by
      unfold gvs.r1.sv
      have key : ∀ d k, k + d = W.length → (gvs.cat (fun i => gvs.gw.sv W (s - 1) [((i : Nat) : Int)]) d k).length ≤ d * 512 := by
        intro d
        induction d with
        | zero => intro k _; simp [gvs.cat]
        | succ d ih2 =>
          intro k hk
          have a := ih2 (k + 1) (by omega)
          have b := gvs.gw_le g (s - 1) _ (gvs.Rg.one (n := W.length) (i := k) (by omega))
          have c : 8 ^ (s - 1) ≤ 512 := Nat.pow_le_pow_right (n := 8) (by omega) (show s - 1 ≤ 3 by omega)
          rw [gvs.cat, List.length_append]
          omega
      have := key W.length 0 (by omega)
      omega
    have g1 := ih (s + 1) n (o ++ gvs.r1.sv W s) Z (by omega) (by omega) (by omega) (by rw [List.length_append]; omega) hZ
    have g2 := loop2 W M s f n hv h2 (by omega) W.length 0 f o (o ++ gvs.r1.sv W s) (by omega) (by omega) (by omega) rfl
    rw [round0]
    simp -implicitDefEqProofs (disch := omega) only [take_one, set_one, decide_eq_true, decide_eq_false, IntWalk.i64_in, beqT, beqF, bneT, bneF, nat_succ, ← Int.natCast_mul, ← Int.natCast_add, Int.toNat_natCast, Int.zero_mul, Int.zero_add, Int.add_zero, Nat.zero_add, Nat.add_zero, Nat.zero_mul, List.length_singleton, List.length_append, List.length_nil, List.length_cons, List.take_length, List.drop_zero, List.replicate_zero, List.take_nil, List.nil_append, Nat.reduceBEq, Nat.reduceMul, Nat.reduceLeDiff, eq_self, and_self, true_and, and_true, decide_true, decide_false, Bool.and_self, Bool.or_self, Bool.and_true, Bool.true_and, Bool.and_false, Bool.false_and, Bool.or_true, Bool.true_or, Bool.or_false, Bool.false_or, Bool.not_true, Bool.not_false, cond_true, cond_false]
    exact g2.trans g1
theorem run : ∀ args v new, R args = some (true, v, new) → ∃ fuel, runFn Try.prog (orc [⟨55, (l05Grow.R 10)⟩]) hd dr (some 0) fuel (bodyOf Try.f38) 28 [4] args [] = some (v, new) := by
  intro args v new h
  unfold R at h
  split at h
  · rename_i W m l
    simp only [Option.some.injEq, Prod.mk.injEq, Bool.and_eq_true, decide_eq_true_eq] at h
    obtain ⟨⟨rfl, hv⟩, rfl, rfl⟩ := h
    obtain ⟨g, hM2, hM4⟩ := gvs.valid hv
    have h8 := g.h8
    obtain ⟨M, rfl⟩ : ∃ x : Nat, l = x := ⟨l.toNat, by omega⟩
    obtain ⟨F, hF⟩ : ∃ F : Nat, F = 100 := ⟨100, rfl⟩
    refine ⟨F, ?_⟩
    have g2 := loop0 W M F (by omega) hv (M - 1) 2 F [] (gvs.rs.sv W M) (by omega) (by omega) (by omega) (by simp) (by rw [List.nil_append]; rfl)
    rw [start, Int.toNat_natCast]
    simp -implicitDefEqProofs (disch := omega) only [take_one, set_one, decide_eq_true, decide_eq_false, IntWalk.i64_in, beqT, beqF, bneT, bneF, nat_succ, ← Int.natCast_mul, ← Int.natCast_add, Int.toNat_natCast, Int.zero_mul, Int.zero_add, Int.add_zero, Nat.zero_add, Nat.add_zero, Nat.zero_mul, List.length_singleton, List.length_append, List.length_nil, List.length_cons, List.take_length, List.drop_zero, List.replicate_zero, List.take_nil, List.nil_append, Nat.reduceBEq, Nat.reduceMul, Nat.reduceLeDiff, eq_self, and_self, true_and, and_true, decide_true, decide_false, Bool.and_self, Bool.or_self, Bool.and_true, Bool.true_and, Bool.and_false, Bool.false_and, Bool.or_true, Bool.true_or, Bool.or_false, Bool.false_or, Bool.not_true, Bool.not_false, cond_true, cond_false]
    exact g2
  · cases h
theorem ok : EntOk Try.prog ⟨38, R⟩ :=
  ent_okA mixed (A := (orc [⟨55, (l05Grow.R 10)⟩])) (orc_ok (by simp only [List.mem_cons, List.not_mem_nil, or_false, forall_eq_or_imp, forall_eq]; exact (l05Grow.ok 10))) Try.func38 (by kernel_rfl) (by kernel_rfl) (n := 28) (ts := [4]) (hd := hd) (dr := dr) (cut := (some 0)) (by kernel_rfl) (by kernel_rfl) (by kernel_rfl) run
end l05Rings



-- numbers
namespace sMostGiven
def Rt : List AVal → Option (Bool × AVal × List Blk)
  | [.ro (.rows .i64 W) m 1, .int .i64 l] => some (decide (m = W.length) && (gvs.gv.sp W l && gvs.mo.sp W l.toNat), .tup [.int .i64 ((gvs.mc.sv W l.toNat : Nat) : Int), .ro (.rows .i64 (gvs.mr.sv W l.toNat)) (gvs.mr.sv W l.toNat).length 1, .bool true], [])
  | _ => none
def Rf : List AVal → Option (Bool × AVal × List Blk)
  | [.ro (.rows .i64 W) m 1, .int .i64 l] => some (decide (m = W.length) && (gvs.gv.sp W l && !gvs.mo.sp W l.toNat), .tup [.int .i64 0, .nils, .bool false], [])
  | _ => none
def hd : Nat → Head := fun i => bif eqN i 0 then ⟨[998, 7, 8, 9, 10], none⟩ else bif eqN i 2 then ⟨[998, 7, 8, 9, 10, 11, 12, 13, 38, 39], none⟩ else bif eqN i 4 then ⟨[998, 7, 8, 9, 10, 11, 12, 13, 14, 38, 39, 52, 53], none⟩ else ⟨[998, 7, 8, 9, 17, 94, 95], none⟩
noncomputable def L0 (f n : Nat) (s : State) := loopAt Try.prog (orc [⟨37, l05Gives.R⟩, ⟨38, l05Rings.R⟩]) hd Dr.std 0 f (bodyOf Try.f16) 0 [true, true, true, true, true, true, false, true] (retK Try.prog [4, 5, 6] 0 (some 0)) n s
noncomputable def L2 (f n n2 : Nat) (s : State) := loopAt Try.prog (orc [⟨37, l05Gives.R⟩, ⟨38, l05Rings.R⟩]) hd Dr.std 0 f (bodyAt (bodyOf Try.f16) [true, true, true, true, true, true, false, true]) (curAt (bodyOf Try.f16) 0 [true, true, true, true, true, true, false, true]) [true, false, true, true, true, false, true] (iterK (normE 0 (hd (curAt (bodyOf Try.f16) 0 [true, true, true, true, true, true, false, true]))) (L0 f n) (contAt Try.prog (orc [⟨37, l05Gives.R⟩, ⟨38, l05Rings.R⟩]) hd Dr.std 0 f (bodyOf Try.f16) 0 [true, true, true, true, true, true, false, true] (retK Try.prog [4, 5, 6] 0 (some 0)))) n2 s
noncomputable def L4 (f n n2 n3 : Nat) (s : State) := loopAt Try.prog (orc [⟨37, l05Gives.R⟩, ⟨38, l05Rings.R⟩]) hd Dr.std 0 f (bodyAt (bodyAt (bodyOf Try.f16) [true, true, true, true, true, true, false, true]) [true, false, true, true, true, false, true]) (curAt (bodyAt (bodyOf Try.f16) [true, true, true, true, true, true, false, true]) (curAt (bodyOf Try.f16) 0 [true, true, true, true, true, true, false, true]) [true, false, true, true, true, false, true]) [true, true, false, true, true, false, true] (iterK (normE 0 (hd (curAt (bodyAt (bodyOf Try.f16) [true, true, true, true, true, true, false, true]) (curAt (bodyOf Try.f16) 0 [true, true, true, true, true, true, false, true]) [true, false, true, true, true, false, true]))) (L2 f n n2) (contAt Try.prog (orc [⟨37, l05Gives.R⟩, ⟨38, l05Rings.R⟩]) hd Dr.std 0 f (bodyAt (bodyOf Try.f16) [true, true, true, true, true, true, false, true]) (curAt (bodyOf Try.f16) 0 [true, true, true, true, true, true, false, true]) [true, false, true, true, true, false, true] (iterK (normE 0 (hd (curAt (bodyOf Try.f16) 0 [true, true, true, true, true, true, false, true]))) (L0 f n) (contAt Try.prog (orc [⟨37, l05Gives.R⟩, ⟨38, l05Rings.R⟩]) hd Dr.std 0 f (bodyOf Try.f16) 0 [true, true, true, true, true, true, false, true] (retK Try.prog [4, 5, 6] 0 (some 0)))))) n3 s
noncomputable def L6 (f n : Nat) (s : State) := loopAt Try.prog (orc [⟨37, l05Gives.R⟩, ⟨38, l05Rings.R⟩]) hd Dr.std 0 f (bodyOf Try.f16) 0 [true, true, true, true, true, true, true, true, false, true] (retK Try.prog [4, 5, 6] 0 (some 0)) n s
theorem start (W : List (List Int)) (l : Int) (f : Nat) :
  runFn Try.prog (orc [⟨37, l05Gives.R⟩, ⟨38, l05Rings.R⟩]) hd Dr.std (some 0) f (bodyOf Try.f16) 114 [4, 5, 6] [.ro (.rows .i64 W) W.length 1, .int .i64 l] []
  = (bif decide (W.length = W.length ∧ W.length ≤ (4611686018427387904 : Nat)) && short.sp (4611686018427387904 : Nat) W && (true && (true && true) || true && true) then bif !gvs.gv.sp W l then some (AVal.tup [AVal.int IntKind.i64 (0 : Int), AVal.nils, AVal.bool false], []) else bif decide (W.length = W.length) && gvs.gv.sp W l && (true && (true && true) || false && true) then bif decide ((16 : Int) < (↑(gvs.rs.sv W l.toNat).length : Int)) then some (AVal.tup [AVal.int IntKind.i64 (0 : Int), AVal.nils, AVal.bool false], []) else L0 f f (mkS (114 : Nat) [((7 : Nat), AVal.ro (Cont.rows IntKind.i64 (gvs.rs.sv W l.toNat)) (gvs.rs.sv W l.toNat).length (1 : Nat)), ((8 : Nat), AVal.int IntKind.i64 (0 : Int)), ((9 : Nat), AVal.int IntKind.i64 (0 : Int)), ((10 : Nat), AVal.int IntKind.i64 (0 : Int))] []) else none else none) := by kernel_rfl
theorem round0 (Q : List (List Int)) (b c m : Int) (f n : Nat) :
  L0 f (n + 1) (mkS 114 [(7, .ro (.rows .i64 Q) Q.length 1), (8, .int .i64 b), (9, .int .i64 c), (10, .int .i64 m)] [])
  = (bif decide ((0 : Int) ≤ IntKind.u64.wrap (↑Q.length : Int)) then bif decide (m < ishl.sv IntKind.i64 (1 : Int) (IntKind.u64.wrap (↑Q.length : Int))) then L2 f n f (mkS (114 : Nat) [((7 : Nat), AVal.ro (Cont.rows IntKind.i64 Q) Q.length (1 : Nat)), ((8 : Nat), AVal.int IntKind.i64 b), ((9 : Nat), AVal.int IntKind.i64 c), ((10 : Nat), AVal.int IntKind.i64 m), ((11 : Nat), AVal.int IntKind.i64 (0 : Int)), ((12 : Nat), AVal.int IntKind.i64 (0 : Int)), ((13 : Nat), AVal.bool true), ((38 : Nat), AVal.int IntKind.i64 (↑Q.length : Int)), ((39 : Nat), AVal.int IntKind.i64 (0 : Int))] []) else L6 f f (mkS (114 : Nat) [((7 : Nat), AVal.ro (Cont.rows IntKind.i64 Q) Q.length (1 : Nat)), ((8 : Nat), AVal.int IntKind.i64 b), ((9 : Nat), AVal.int IntKind.i64 c), ((17 : Nat), AVal.own (0 : Nat) (0 : Nat) (0 : Nat) (0 : Nat) (1 : Nat)), ((94 : Nat), AVal.int IntKind.i64 (↑Q.length : Int)), ((95 : Nat), AVal.int IntKind.i64 (0 : Int))] [{ c := BC.typ (Cont.rows IntKind.i64 (List.replicate (0 : Nat) [])), ver := (0 : Nat) }]) else none) := by kernel_rfl
theorem round2 (Q : List (List Int)) (b c m : Int) (u n : Int) (ok : Bool) (i f n0 n2 : Nat) :
  L2 f n0 (n2 + 1) (mkS 114 [(7, .ro (.rows .i64 Q) Q.length 1), (8, .int .i64 b), (9, .int .i64 c), (10, .int .i64 m), (11, .int .i64 u), (12, .int .i64 n), (13, .bool ok), (38, .int .i64 ((Q.length : Nat) : Int)), (39, .int .i64 ((i : Nat) : Int))] [])
  = (bif decide ((↑i : Int) < (↑Q.length : Int)) then bif decide ((0 : Int) ≤ IntKind.u64.wrap (↑i : Int)) then bif iand.sv IntKind.i64 (ishr.sv IntKind.i64 m (IntKind.u64.wrap (↑i : Int))) (1 : Int) == (0 : Int) then L2 f n0 n2 (mkS (114 : Nat) [((7 : Nat), AVal.ro (Cont.rows IntKind.i64 Q) Q.length (1 : Nat)), ((8 : Nat), AVal.int IntKind.i64 b), ((9 : Nat), AVal.int IntKind.i64 c), ((10 : Nat), AVal.int IntKind.i64 m), ((11 : Nat), AVal.int IntKind.i64 u), ((12 : Nat), AVal.int IntKind.i64 n), ((13 : Nat), AVal.bool ok), ((38 : Nat), AVal.int IntKind.i64 (↑Q.length : Int)), ((39 : Nat), AVal.int IntKind.i64 (IntKind.i64.wrap ((↑i : Int) + (1 : Int))))] []) else bif true && (decide ((0 : Int) ≤ (↑i : Int)) && decide ((↑i : Int) < (↑Q.length : Int))) then bif decide ((↑i : Int).toNat < Q.length) then L4 f n0 n2 f (mkS (114 : Nat) [((7 : Nat), AVal.ro (Cont.rows IntKind.i64 Q) Q.length (1 : Nat)), ((8 : Nat), AVal.int IntKind.i64 b), ((9 : Nat), AVal.int IntKind.i64 c), ((10 : Nat), AVal.int IntKind.i64 m), ((11 : Nat), AVal.int IntKind.i64 u), ((12 : Nat), AVal.int IntKind.i64 n), ((13 : Nat), AVal.bool ok), ((14 : Nat), AVal.int IntKind.i64 (↑i : Int)), ((38 : Nat), AVal.int IntKind.i64 (↑Q.length : Int)), ((39 : Nat), AVal.int IntKind.i64 (↑i : Int)), ((52 : Nat), AVal.int IntKind.i64 (↑(gr Q (↑i : Int).toNat).length : Int)), ((53 : Nat), AVal.int IntKind.i64 (0 : Int))] []) else none else none else none else bif ok then bif decide (c < n) then L0 f n0 (mkS (114 : Nat) [((7 : Nat), AVal.ro (Cont.rows IntKind.i64 Q) Q.length (1 : Nat)), ((8 : Nat), AVal.int IntKind.i64 m), ((9 : Nat), AVal.int IntKind.i64 n), ((10 : Nat), AVal.int IntKind.i64 (IntKind.i64.wrap (m + (1 : Int))))] []) else L0 f n0 (mkS (114 : Nat) [((7 : Nat), AVal.ro (Cont.rows IntKind.i64 Q) Q.length (1 : Nat)), ((8 : Nat), AVal.int IntKind.i64 b), ((9 : Nat), AVal.int IntKind.i64 c), ((10 : Nat), AVal.int IntKind.i64 (IntKind.i64.wrap (m + (1 : Int))))] []) else L0 f n0 (mkS (114 : Nat) [((7 : Nat), AVal.ro (Cont.rows IntKind.i64 Q) Q.length (1 : Nat)), ((8 : Nat), AVal.int IntKind.i64 b), ((9 : Nat), AVal.int IntKind.i64 c), ((10 : Nat), AVal.int IntKind.i64 (IntKind.i64.wrap (m + (1 : Int))))] [])) := by kernel_rfl
theorem round4 (Q : List (List Int)) (b c m : Int) (u n : Int) (ok : Bool) (i j f n0 n2 n4 : Nat) :
  L4 f n0 n2 (n4 + 1) (mkS 114 [(7, .ro (.rows .i64 Q) Q.length 1), (8, .int .i64 b), (9, .int .i64 c), (10, .int .i64 m), (11, .int .i64 u), (12, .int .i64 n), (13, .bool ok), (14, .int .i64 ((i : Nat) : Int)), (38, .int .i64 ((Q.length : Nat) : Int)), (39, .int .i64 ((i : Nat) : Int)), (52, .int .i64 (((gr Q i).length : Nat) : Int)), (53, .int .i64 ((j : Nat) : Int))] [])
  = (bif decide ((↑j : Int) < (↑(gr Q i).length : Int)) then bif true && (decide ((0 : Int) ≤ (↑i : Int)) && decide ((↑i : Int) < (↑Q.length : Int))) then bif decide ((↑i : Int).toNat < Q.length) then bif true && (decide ((0 : Int) ≤ (↑j : Int)) && decide ((↑j : Int) < (↑(gr Q (↑i : Int).toNat).length : Int))) then bif decide ((↑j : Int).toNat < (gr Q (↑i : Int).toNat).length) then bif decide ((0 : Int) ≤ IntKind.u64.wrap (gz (gr Q (↑i : Int).toNat) (↑j : Int).toNat)) then bif ok then L4 f n0 n2 n4 (mkS (114 : Nat) [((7 : Nat), AVal.ro (Cont.rows IntKind.i64 Q) Q.length (1 : Nat)), ((8 : Nat), AVal.int IntKind.i64 b), ((9 : Nat), AVal.int IntKind.i64 c), ((10 : Nat), AVal.int IntKind.i64 m), ((11 : Nat), AVal.int IntKind.i64 (ior.sv IntKind.i64 u (ishl.sv IntKind.i64 (1 : Int) (IntKind.u64.wrap (gz (gr Q (↑i : Int).toNat) (↑j : Int).toNat))))), ((12 : Nat), AVal.int IntKind.i64 n), ((13 : Nat), AVal.bool (iand.sv IntKind.i64 u (ishl.sv IntKind.i64 (1 : Int) (IntKind.u64.wrap (gz (gr Q (↑i : Int).toNat) (↑j : Int).toNat))) == (0 : Int))), ((14 : Nat), AVal.int IntKind.i64 (↑i : Int)), ((38 : Nat), AVal.int IntKind.i64 (↑Q.length : Int)), ((39 : Nat), AVal.int IntKind.i64 (↑i : Int)), ((52 : Nat), AVal.int IntKind.i64 (↑(gr Q i).length : Int)), ((53 : Nat), AVal.int IntKind.i64 (IntKind.i64.wrap ((↑j : Int) + (1 : Int))))] []) else L4 f n0 n2 n4 (mkS (114 : Nat) [((7 : Nat), AVal.ro (Cont.rows IntKind.i64 Q) Q.length (1 : Nat)), ((8 : Nat), AVal.int IntKind.i64 b), ((9 : Nat), AVal.int IntKind.i64 c), ((10 : Nat), AVal.int IntKind.i64 m), ((11 : Nat), AVal.int IntKind.i64 (ior.sv IntKind.i64 u (ishl.sv IntKind.i64 (1 : Int) (IntKind.u64.wrap (gz (gr Q (↑i : Int).toNat) (↑j : Int).toNat))))), ((12 : Nat), AVal.int IntKind.i64 n), ((13 : Nat), AVal.bool false), ((14 : Nat), AVal.int IntKind.i64 (↑i : Int)), ((38 : Nat), AVal.int IntKind.i64 (↑Q.length : Int)), ((39 : Nat), AVal.int IntKind.i64 (↑i : Int)), ((52 : Nat), AVal.int IntKind.i64 (↑(gr Q i).length : Int)), ((53 : Nat), AVal.int IntKind.i64 (IntKind.i64.wrap ((↑j : Int) + (1 : Int))))] []) else none else none else none else none else none else bif true && (decide ((0 : Int) ≤ (↑i : Int)) && decide ((↑i : Int) < (↑Q.length : Int))) then bif decide ((↑i : Int).toNat < Q.length) then L2 f n0 n2 (mkS (114 : Nat) [((7 : Nat), AVal.ro (Cont.rows IntKind.i64 Q) Q.length (1 : Nat)), ((8 : Nat), AVal.int IntKind.i64 b), ((9 : Nat), AVal.int IntKind.i64 c), ((10 : Nat), AVal.int IntKind.i64 m), ((11 : Nat), AVal.int IntKind.i64 u), ((12 : Nat), AVal.int IntKind.i64 (IntKind.i64.wrap (n + (↑(gr Q (↑i : Int).toNat).length : Int)))), ((13 : Nat), AVal.bool ok), ((38 : Nat), AVal.int IntKind.i64 (↑Q.length : Int)), ((39 : Nat), AVal.int IntKind.i64 (IntKind.i64.wrap ((↑i : Int) + (1 : Int))))] []) else none else none) := by kernel_rfl
theorem round6 (Q o : List (List Int)) (b c : Int) (q k f n : Nat) :
  L6 f (n + 1) (mkS 114 [(7, .ro (.rows .i64 Q) Q.length 1), (8, .int .i64 b), (9, .int .i64 c), (17, .own 0 0 q 0 1), (94, .int .i64 ((Q.length : Nat) : Int)), (95, .int .i64 ((k : Nat) : Int))] [⟨.typ (.rows .i64 o), 0⟩])
  = (bif decide ((↑k : Int) < (↑Q.length : Int)) then bif decide ((0 : Int) ≤ IntKind.u64.wrap (↑k : Int)) then bif iand.sv IntKind.i64 (ishr.sv IntKind.i64 b (IntKind.u64.wrap (↑k : Int))) (1 : Int) == (1 : Int) then bif true && (decide ((0 : Int) ≤ (↑k : Int)) && decide ((↑k : Int) < (↑Q.length : Int))) then bif decide ((↑k : Int).toNat < Q.length) then bif (1 : Nat) == (1 : Nat) && (1 : Nat) == (1 : Nat) && (true && (true && true) && (true && true && (decide (q + (List.take (1 : Nat) (List.drop (0 : Nat) ((List.replicate (1 : Nat) []).set (0 : Nat) (List.take (gr Q (↑k : Int).toNat).length (gr Q (↑k : Int).toNat))))).length ≤ (4611686018427387904 : Nat)) && decide ((q + (List.take (1 : Nat) (List.drop (0 : Nat) ((List.replicate (1 : Nat) []).set (0 : Nat) (List.take (gr Q (↑k : Int).toNat).length (gr Q (↑k : Int).toNat))))).length) * (24 : Nat) ≤ (140737488355328 : Nat))))) then L6 f n (mkS (114 : Nat) [((7 : Nat), AVal.ro (Cont.rows IntKind.i64 Q) Q.length (1 : Nat)), ((8 : Nat), AVal.int IntKind.i64 b), ((9 : Nat), AVal.int IntKind.i64 c), ((17 : Nat), AVal.own (0 : Nat) (0 : Nat) (q + (List.take (1 : Nat) (List.drop (0 : Nat) ((List.replicate (1 : Nat) []).set (0 : Nat) (List.take (gr Q (↑k : Int).toNat).length (gr Q (↑k : Int).toNat))))).length) (0 : Nat) (1 : Nat)), ((94 : Nat), AVal.int IntKind.i64 (↑Q.length : Int)), ((95 : Nat), AVal.int IntKind.i64 (IntKind.i64.wrap ((↑k : Int) + (1 : Int))))] [{ c := BC.typ (Cont.rows IntKind.i64 (List.take q o ++ List.take (1 : Nat) (List.drop (0 : Nat) ((List.replicate (1 : Nat) []).set (0 : Nat) (List.take (gr Q (↑k : Int).toNat).length (gr Q (↑k : Int).toNat)))))), ver := (0 : Nat) }]) else none else none else none else L6 f n (mkS (114 : Nat) [((7 : Nat), AVal.ro (Cont.rows IntKind.i64 Q) Q.length (1 : Nat)), ((8 : Nat), AVal.int IntKind.i64 b), ((9 : Nat), AVal.int IntKind.i64 c), ((17 : Nat), AVal.own (0 : Nat) (0 : Nat) q (0 : Nat) (1 : Nat)), ((94 : Nat), AVal.int IntKind.i64 (↑Q.length : Int)), ((95 : Nat), AVal.int IntKind.i64 (IntKind.i64.wrap ((↑k : Int) + (1 : Int))))] [{ c := BC.typ (Cont.rows IntKind.i64 o), ver := (0 : Nat) }]) else none else some (AVal.tup [AVal.int IntKind.i64 c, AVal.ro (Cont.rows IntKind.i64 o) q (1 : Nat), AVal.bool true], [])) := by kernel_rfl
theorem mb_in {Q : List (List Int)} {m i : Nat} (h : i ≤ Q.length) : ∀ x ∈ gvs.mb.sv m i, 0 ≤ x ∧ x < (Q.length : Int) := fun x hx => by
  have := gvs.mb_ran x hx
  omega
theorem loop4 (Q : List (List Int)) (b c m u0 n i f n0 n2 : Nat) (okb : Bool) (hi : i < Q.length) (h16 : Q.length ≤ 16) (h8 : (gr Q i).length ≤ 8) (hin : ∀ y ∈ gr Q i, 0 ≤ y ∧ y < 8) (hu : u0 < 256) (hn : n ≤ 1000) : ∀ (d j n4 : Nat), j + d = (gr Q i).length → d < n4 →
    L4 f n0 n2 n4 (mkS 114 [(7, .ro (.rows .i64 Q) Q.length 1), (8, .int .i64 ((b : Nat) : Int)), (9, .int .i64 ((c : Nat) : Int)), (10, .int .i64 ((m : Nat) : Int)), (11, .int .i64 (((gvs.us.sv (gr Q i) u0 j) : Nat) : Int)), (12, .int .i64 ((n : Nat) : Int)), (13, .bool (okb && gvs.un.sp (gr Q i) u0 j)), (14, .int .i64 ((i : Nat) : Int)), (38, .int .i64 ((Q.length : Nat) : Int)), (39, .int .i64 ((i : Nat) : Int)), (52, .int .i64 (((gr Q i).length : Nat) : Int)), (53, .int .i64 ((j : Nat) : Int))] []) = L2 f n0 n2 (mkS 114 [(7, .ro (.rows .i64 Q) Q.length 1), (8, .int .i64 ((b : Nat) : Int)), (9, .int .i64 ((c : Nat) : Int)), (10, .int .i64 ((m : Nat) : Int)), (11, .int .i64 (((gvs.us.sv (gr Q i) u0 (gr Q i).length) : Nat) : Int)), (12, .int .i64 (((n + (gr Q i).length) : Nat) : Int)), (13, .bool (okb && gvs.un.sp (gr Q i) u0 (gr Q i).length)), (38, .int .i64 ((Q.length : Nat) : Int)), (39, .int .i64 (((i + 1) : Nat) : Int))] []) := by
  intro d
  induction d with
  | zero =>
    intro j n4 hj hn4
    obtain ⟨n4, rfl⟩ : ∃ q, n4 = q + 1 := ⟨n4 - 1, by omega⟩
    obtain rfl : j = (gr Q i).length := by omega
    rw [round4]
    simp -implicitDefEqProofs (disch := omega) only [take_one, set_one, decide_eq_true, decide_eq_false, IntWalk.i64_in, beqT, beqF, bneT, bneF, nat_succ, ← Int.natCast_mul, ← Int.natCast_add, Int.toNat_natCast, Int.zero_mul, Int.zero_add, Int.add_zero, Nat.zero_add, Nat.add_zero, Nat.zero_mul, List.length_singleton, List.length_append, List.length_nil, List.length_cons, List.take_length, List.drop_zero, List.replicate_zero, List.take_nil, List.nil_append, Nat.reduceBEq, Nat.reduceMul, Nat.reduceLeDiff, eq_self, and_self, true_and, and_true, decide_true, decide_false, Bool.and_self, Bool.or_self, Bool.and_true, Bool.true_and, Bool.and_false, Bool.false_and, Bool.or_true, Bool.true_or, Bool.or_false, Bool.false_or, Bool.not_true, Bool.not_false, cond_true, cond_false]
  | succ d ih =>
    intro j n4 hj hn4
    obtain ⟨n4, rfl⟩ : ∃ q, n4 = q + 1 := ⟨n4 - 1, by omega⟩
    have g := ih (j + 1) n4 (by omega) (by omega)
    have hy := hin _ (gz_mem (show j < (gr Q i).length by omega))
    obtain ⟨y, ey⟩ : ∃ y : Nat, gz (gr Q i) j = y := ⟨(gz (gr Q i) j).toNat, by omega⟩
    have hu2 := gvs.us_lt hin hu j (by omega)
    have u0' := gvs.u64_nat (i := y) (by omega)
    have u1 := gvs.and_shl _ hu2 y (by omega)
    have u2 := gvs.shl_one (i := y) (by omega)
    have u3 := gvs.or_shl _ hu2 y (by omega)
    have u4 : ((((2 ^ y : Nat) : Int)) == 0) = false := by
      rw [beq_eq_false_iff_ne]
      have := Nat.one_le_two_pow (n := y)
      omega
    rw [gvs.us.sv, gvs.un.sp, ey, Int.toNat_natCast, ← Bool.and_assoc] at g
    rw [round4]
    cases hok : okb && gvs.un.sp (gr Q i) u0 j
    · rw [hok, Bool.false_and] at g
      simp -implicitDefEqProofs (disch := omega) only [ey, hok, u0', u2, u3, take_one, set_one, decide_eq_true, decide_eq_false, IntWalk.i64_in, beqT, beqF, bneT, bneF, nat_succ, ← Int.natCast_mul, ← Int.natCast_add, Int.toNat_natCast, Int.zero_mul, Int.zero_add, Int.add_zero, Nat.zero_add, Nat.add_zero, Nat.zero_mul, List.length_singleton, List.length_append, List.length_nil, List.length_cons, List.take_length, List.drop_zero, List.replicate_zero, List.take_nil, List.nil_append, Nat.reduceBEq, Nat.reduceMul, Nat.reduceLeDiff, eq_self, and_self, true_and, and_true, decide_true, decide_false, Bool.and_self, Bool.or_self, Bool.and_true, Bool.true_and, Bool.and_false, Bool.false_and, Bool.or_true, Bool.true_or, Bool.or_false, Bool.false_or, Bool.not_true, Bool.not_false, cond_true, cond_false]
      exact g
    · rw [hok, Bool.true_and] at g
      cases ho : gvs.off.sp (gvs.us.sv (gr Q i) u0 j) y
      · rw [ho, cond_false] at u1
        rw [ho] at g
        simp -implicitDefEqProofs (disch := omega) only [ey, hok, u0', u1, u2, u3, u4, take_one, set_one, decide_eq_true, decide_eq_false, IntWalk.i64_in, beqT, beqF, bneT, bneF, nat_succ, ← Int.natCast_mul, ← Int.natCast_add, Int.toNat_natCast, Int.zero_mul, Int.zero_add, Int.add_zero, Nat.zero_add, Nat.add_zero, Nat.zero_mul, List.length_singleton, List.length_append, List.length_nil, List.length_cons, List.take_length, List.drop_zero, List.replicate_zero, List.take_nil, List.nil_append, Nat.reduceBEq, Nat.reduceMul, Nat.reduceLeDiff, eq_self, and_self, true_and, and_true, decide_true, decide_false, Bool.and_self, Bool.or_self, Bool.and_true, Bool.true_and, Bool.and_false, Bool.false_and, Bool.or_true, Bool.true_or, Bool.or_false, Bool.false_or, Bool.not_true, Bool.not_false, cond_true, cond_false]
        exact g
      · rw [ho, cond_true] at u1
        rw [ho] at g
        simp -implicitDefEqProofs (disch := omega) only [ey, hok, u0', u1, u2, u3, u4, take_one, set_one, decide_eq_true, decide_eq_false, IntWalk.i64_in, beqT, beqF, bneT, bneF, nat_succ, ← Int.natCast_mul, ← Int.natCast_add, Int.toNat_natCast, Int.zero_mul, Int.zero_add, Int.add_zero, Nat.zero_add, Nat.add_zero, Nat.zero_mul, List.length_singleton, List.length_append, List.length_nil, List.length_cons, List.take_length, List.drop_zero, List.replicate_zero, List.take_nil, List.nil_append, Nat.reduceBEq, Nat.reduceMul, Nat.reduceLeDiff, eq_self, and_self, true_and, and_true, decide_true, decide_false, Bool.and_self, Bool.or_self, Bool.and_true, Bool.true_and, Bool.and_false, Bool.false_and, Bool.or_true, Bool.true_or, Bool.or_false, Bool.false_or, Bool.not_true, Bool.not_false, cond_true, cond_false]
        exact g
theorem loop2 (Q : List (List Int)) (b c m f n0 : Nat) (hf : 100 < f) (g : gvs.QOk Q) (h16 : Q.length ≤ 16) (hm : m < 65536) (hc : c ≤ 1000) : ∀ (d i n2 : Nat), i + d = Q.length → d < n2 →
    L2 f n0 n2 (mkS 114 [(7, .ro (.rows .i64 Q) Q.length 1), (8, .int .i64 ((b : Nat) : Int)), (9, .int .i64 ((c : Nat) : Int)), (10, .int .i64 ((m : Nat) : Int)), (11, .int .i64 (((gvs.Su Q (gvs.mb.sv m i)) : Nat) : Int)), (12, .int .i64 (((gvs.Sc Q (gvs.mb.sv m i)) : Nat) : Int)), (13, .bool (gvs.Sk Q (gvs.mb.sv m i))), (38, .int .i64 ((Q.length : Nat) : Int)), (39, .int .i64 ((i : Nat) : Int))] []) = L0 f n0 (mkS 114 [(7, .ro (.rows .i64 Q) Q.length 1), (8, .int .i64 (((bif gvs.Sk Q (gvs.mb.sv m Q.length) && decide (c < gvs.Sc Q (gvs.mb.sv m Q.length)) then m else b) : Nat) : Int)), (9, .int .i64 (((bif gvs.Sk Q (gvs.mb.sv m Q.length) && decide (c < gvs.Sc Q (gvs.mb.sv m Q.length)) then gvs.Sc Q (gvs.mb.sv m Q.length) else c) : Nat) : Int)), (10, .int .i64 (((m + 1) : Nat) : Int))] []) := by
  intro d
  induction d with
  | zero =>
    intro i n2 hk hn2
    obtain ⟨n2, rfl⟩ : ∃ q, n2 = q + 1 := ⟨n2 - 1, by omega⟩
    obtain rfl : i = Q.length := by omega
    rw [round2]
    cases gvs.Sk Q (gvs.mb.sv m Q.length)
    · simp -implicitDefEqProofs (disch := omega) only [take_one, set_one, decide_eq_true, decide_eq_false, IntWalk.i64_in, beqT, beqF, bneT, bneF, nat_succ, ← Int.natCast_mul, ← Int.natCast_add, Int.toNat_natCast, Int.zero_mul, Int.zero_add, Int.add_zero, Nat.zero_add, Nat.add_zero, Nat.zero_mul, List.length_singleton, List.length_append, List.length_nil, List.length_cons, List.take_length, List.drop_zero, List.replicate_zero, List.take_nil, List.nil_append, Nat.reduceBEq, Nat.reduceMul, Nat.reduceLeDiff, eq_self, and_self, true_and, and_true, decide_true, decide_false, Bool.and_self, Bool.or_self, Bool.and_true, Bool.true_and, Bool.and_false, Bool.false_and, Bool.or_true, Bool.true_or, Bool.or_false, Bool.false_or, Bool.not_true, Bool.not_false, cond_true, cond_false]
    · by_cases cc : c < gvs.Sc Q (gvs.mb.sv m Q.length)
      · simp -implicitDefEqProofs (disch := omega) only [take_one, set_one, decide_eq_true, decide_eq_false, IntWalk.i64_in, beqT, beqF, bneT, bneF, nat_succ, ← Int.natCast_mul, ← Int.natCast_add, Int.toNat_natCast, Int.zero_mul, Int.zero_add, Int.add_zero, Nat.zero_add, Nat.add_zero, Nat.zero_mul, List.length_singleton, List.length_append, List.length_nil, List.length_cons, List.take_length, List.drop_zero, List.replicate_zero, List.take_nil, List.nil_append, Nat.reduceBEq, Nat.reduceMul, Nat.reduceLeDiff, eq_self, and_self, true_and, and_true, decide_true, decide_false, Bool.and_self, Bool.or_self, Bool.and_true, Bool.true_and, Bool.and_false, Bool.false_and, Bool.or_true, Bool.true_or, Bool.or_false, Bool.false_or, Bool.not_true, Bool.not_false, cond_true, cond_false]
      · simp -implicitDefEqProofs (disch := omega) only [take_one, set_one, decide_eq_true, decide_eq_false, IntWalk.i64_in, beqT, beqF, bneT, bneF, nat_succ, ← Int.natCast_mul, ← Int.natCast_add, Int.toNat_natCast, Int.zero_mul, Int.zero_add, Int.add_zero, Nat.zero_add, Nat.add_zero, Nat.zero_mul, List.length_singleton, List.length_append, List.length_nil, List.length_cons, List.take_length, List.drop_zero, List.replicate_zero, List.take_nil, List.nil_append, Nat.reduceBEq, Nat.reduceMul, Nat.reduceLeDiff, eq_self, and_self, true_and, and_true, decide_true, decide_false, Bool.and_self, Bool.or_self, Bool.and_true, Bool.true_and, Bool.and_false, Bool.false_and, Bool.or_true, Bool.true_or, Bool.or_false, Bool.false_or, Bool.not_true, Bool.not_false, cond_true, cond_false]
  | succ d ih =>
    intro i n2 hk hn2
    obtain ⟨n2, rfl⟩ : ∃ q, n2 = q + 1 := ⟨n2 - 1, by omega⟩
    have g3 := ih (i + 1) n2 (by omega) (by omega)
    have w0 := gvs.u64_nat (i := i) (by omega)
    have w1 := gvs.shr_and (k := m) (i := i) (by omega) (by omega)
    rw [gvs.mb.sv] at g3
    rw [round2]
    cases ho : gvs.off.sp m i
    · rw [ho, cond_false] at w1 g3
      obtain ⟨s1, s2, s3, _⟩ := gvs.S_app Q (gvs.mb.sv m i) i
      rw [s1, s2, s3] at g3
      have hr := mb_in (Q := Q) (m := m) (i := i) (by omega)
      have ml := gvs.mb_length m i
      have h1 := gvs.sc_le g hr _ (Nat.le_refl _)
      have h2 := gvs.su_lt g hr _ (Nat.le_refl _)
      have g2 := loop4 Q b c m (gvs.Su Q (gvs.mb.sv m i)) (gvs.Sc Q (gvs.mb.sv m i)) i f n0 n2 (gvs.Sk Q (gvs.mb.sv m i)) (by omega) h16 (g.len i (by omega)) (g.ran i (by omega)) h2 (by unfold gvs.Sc; omega) (gr Q i).length 0 f (by omega) (by have := g.len i (by omega); omega)
      rw [gvs.us.sv, gvs.un.sp, Bool.and_true] at g2
      simp -implicitDefEqProofs (disch := omega) only [w0, w1, take_one, set_one, decide_eq_true, decide_eq_false, IntWalk.i64_in, beqT, beqF, bneT, bneF, nat_succ, ← Int.natCast_mul, ← Int.natCast_add, Int.toNat_natCast, Int.zero_mul, Int.zero_add, Int.add_zero, Nat.zero_add, Nat.add_zero, Nat.zero_mul, List.length_singleton, List.length_append, List.length_nil, List.length_cons, List.take_length, List.drop_zero, List.replicate_zero, List.take_nil, List.nil_append, Nat.reduceBEq, Nat.reduceMul, Nat.reduceLeDiff, eq_self, and_self, true_and, and_true, decide_true, decide_false, Bool.and_self, Bool.or_self, Bool.and_true, Bool.true_and, Bool.and_false, Bool.false_and, Bool.or_true, Bool.true_or, Bool.or_false, Bool.false_or, Bool.not_true, Bool.not_false, cond_true, cond_false]
      exact g2.trans g3
    · rw [ho, cond_true] at w1 g3
      simp -implicitDefEqProofs (disch := omega) only [w0, w1, take_one, set_one, decide_eq_true, decide_eq_false, IntWalk.i64_in, beqT, beqF, bneT, bneF, nat_succ, ← Int.natCast_mul, ← Int.natCast_add, Int.toNat_natCast, Int.zero_mul, Int.zero_add, Int.add_zero, Nat.zero_add, Nat.add_zero, Nat.zero_mul, List.length_singleton, List.length_append, List.length_nil, List.length_cons, List.take_length, List.drop_zero, List.replicate_zero, List.take_nil, List.nil_append, Nat.reduceBEq, Nat.reduceMul, Nat.reduceLeDiff, eq_self, and_self, true_and, and_true, decide_true, decide_false, Bool.and_self, Bool.or_self, Bool.and_true, Bool.true_and, Bool.and_false, Bool.false_and, Bool.or_true, Bool.true_or, Bool.or_false, Bool.false_or, Bool.not_true, Bool.not_false, cond_true, cond_false]
      exact g3
theorem loop6 (Q : List (List Int)) (b c f : Nat) (h16 : Q.length ≤ 16) (hb : b < 65536) (Z : List (List Int)) (hZ : gvs.Pk Q (gvs.mb.sv b Q.length) = Z) : ∀ (d k n : Nat), k + d = Q.length → d < n →
    L6 f n (mkS 114 [(7, .ro (.rows .i64 Q) Q.length 1), (8, .int .i64 ((b : Nat) : Int)), (9, .int .i64 ((c : Nat) : Int)), (17, .own 0 0 (gvs.Pk Q (gvs.mb.sv b k)).length 0 1), (94, .int .i64 ((Q.length : Nat) : Int)), (95, .int .i64 ((k : Nat) : Int))] [⟨.typ (.rows .i64 (gvs.Pk Q (gvs.mb.sv b k))), 0⟩]) = some (.tup [.int .i64 ((c : Nat) : Int), .ro (.rows .i64 Z) Z.length 1, .bool true], []) := by
  intro d
  induction d with
  | zero =>
    intro k n hk hn
    obtain ⟨n, rfl⟩ : ∃ q, n = q + 1 := ⟨n - 1, by omega⟩
    obtain rfl : k = Q.length := by omega
    rw [round6, hZ]
    simp -implicitDefEqProofs (disch := omega) only [take_one, set_one, decide_eq_true, decide_eq_false, IntWalk.i64_in, beqT, beqF, bneT, bneF, nat_succ, ← Int.natCast_mul, ← Int.natCast_add, Int.toNat_natCast, Int.zero_mul, Int.zero_add, Int.add_zero, Nat.zero_add, Nat.add_zero, Nat.zero_mul, List.length_singleton, List.length_append, List.length_nil, List.length_cons, List.take_length, List.drop_zero, List.replicate_zero, List.take_nil, List.nil_append, Nat.reduceBEq, Nat.reduceMul, Nat.reduceLeDiff, eq_self, and_self, true_and, and_true, decide_true, decide_false, Bool.and_self, Bool.or_self, Bool.and_true, Bool.true_and, Bool.and_false, Bool.false_and, Bool.or_true, Bool.true_or, Bool.or_false, Bool.false_or, Bool.not_true, Bool.not_false, cond_true, cond_false]
  | succ d ih =>
    intro k n hk hn
    obtain ⟨n, rfl⟩ : ∃ q, n = q + 1 := ⟨n - 1, by omega⟩
    have g3 := ih (k + 1) n (by omega) (by omega)
    have w0 := gvs.u64_nat (i := k) (by omega)
    have w1 := gvs.shr_and (k := b) (i := k) (by omega) (by omega)
    rw [gvs.mb.sv] at g3
    rw [round6]
    cases ho : gvs.off.sp b k
    · rw [ho, cond_false] at w1 g3
      obtain ⟨_, _, _, s4⟩ := gvs.S_app Q (gvs.mb.sv b k) k
      rw [s4, List.length_append, List.length_singleton] at g3
      have pl : (gvs.Pk Q (gvs.mb.sv b k)).length ≤ 16 := by
        have := gvs.pk_length Q (gvs.mb.sv b k) (gvs.mb.sv b k).length
        have := gvs.mb_length b k
        unfold gvs.Pk
        omega
      have tp : (gvs.Pk Q (gvs.mb.sv b k)).take (gvs.Pk Q (gvs.mb.sv b k)).length = gvs.Pk Q (gvs.mb.sv b k) := List.take_of_length_le (Nat.le_refl _)
      have s1 : (List.replicate 1 ([] : List Int)).set 0 (gr Q k) = [gr Q k] := rfl
      have s2 : [gr Q k].take 1 = [gr Q k] := rfl
      simp -implicitDefEqProofs (disch := omega) only [w0, w1, tp, s1, s2, take_one, set_one, decide_eq_true, decide_eq_false, IntWalk.i64_in, beqT, beqF, bneT, bneF, nat_succ, ← Int.natCast_mul, ← Int.natCast_add, Int.toNat_natCast, Int.zero_mul, Int.zero_add, Int.add_zero, Nat.zero_add, Nat.add_zero, Nat.zero_mul, List.length_singleton, List.length_append, List.length_nil, List.length_cons, List.take_length, List.drop_zero, List.replicate_zero, List.take_nil, List.nil_append, Nat.reduceBEq, Nat.reduceMul, Nat.reduceLeDiff, eq_self, and_self, true_and, and_true, decide_true, decide_false, Bool.and_self, Bool.or_self, Bool.and_true, Bool.true_and, Bool.and_false, Bool.false_and, Bool.or_true, Bool.true_or, Bool.or_false, Bool.false_or, Bool.not_true, Bool.not_false, cond_true, cond_false]
      exact g3
    · rw [ho, cond_true] at w1 g3
      simp -implicitDefEqProofs (disch := omega) only [w0, w1, take_one, set_one, decide_eq_true, decide_eq_false, IntWalk.i64_in, beqT, beqF, bneT, bneF, nat_succ, ← Int.natCast_mul, ← Int.natCast_add, Int.toNat_natCast, Int.zero_mul, Int.zero_add, Int.add_zero, Nat.zero_add, Nat.add_zero, Nat.zero_mul, List.length_singleton, List.length_append, List.length_nil, List.length_cons, List.take_length, List.drop_zero, List.replicate_zero, List.take_nil, List.nil_append, Nat.reduceBEq, Nat.reduceMul, Nat.reduceLeDiff, eq_self, and_self, true_and, and_true, decide_true, decide_false, Bool.and_self, Bool.or_self, Bool.and_true, Bool.true_and, Bool.and_false, Bool.false_and, Bool.or_true, Bool.true_or, Bool.or_false, Bool.false_or, Bool.not_true, Bool.not_false, cond_true, cond_false]
      exact g3
theorem loop0 (Q : List (List Int)) (f : Nat) (hf : 100 < f) (g : gvs.QOk Q) (h16 : Q.length ≤ 16) (C : Nat) (Z : List (List Int)) (z : Nat) (hz : z = 2 ^ Q.length) (hC : (gvs.bs Q Q.length z).2 = C) (hZ : gvs.Pk Q (gvs.mb.sv (gvs.bs Q Q.length z).1 Q.length) = Z) : ∀ (d m n : Nat), m + d = z → d < n →
    L0 f n (mkS 114 [(7, .ro (.rows .i64 Q) Q.length 1), (8, .int .i64 (((gvs.bs Q Q.length m).1 : Nat) : Int)), (9, .int .i64 (((gvs.bs Q Q.length m).2 : Nat) : Int)), (10, .int .i64 ((m : Nat) : Int))] []) = some (.tup [.int .i64 ((C : Nat) : Int), .ro (.rows .i64 Z) Z.length 1, .bool true], []) := by
  have hp := gvs.pow_16 h16
  have w0 := gvs.u64_nat (i := Q.length) (by omega)
  have w1 := gvs.shl_one (i := Q.length) (by omega)
  rw [← hz] at w1 hp
  intro d
  induction d with
  | zero =>
    intro m n hm hn
    obtain ⟨n, rfl⟩ : ∃ q, n = q + 1 := ⟨n - 1, by omega⟩
    obtain rfl : m = z := by omega
    obtain ⟨b1, b2, b3⟩ := gvs.bs_good Q Q.length m (by omega)
    have g6 := loop6 Q (gvs.bs Q Q.length m).1 C f h16 (by omega) Z hZ Q.length 0 f (by omega) (by omega)
    have e0 : gvs.Pk Q (gvs.mb.sv (gvs.bs Q Q.length m).1 0) = [] := rfl
    rw [e0, List.length_nil] at g6
    rw [round0, hC]
    simp -implicitDefEqProofs (disch := omega) only [w0, w1, take_one, set_one, decide_eq_true, decide_eq_false, IntWalk.i64_in, beqT, beqF, bneT, bneF, nat_succ, ← Int.natCast_mul, ← Int.natCast_add, Int.toNat_natCast, Int.zero_mul, Int.zero_add, Int.add_zero, Nat.zero_add, Nat.add_zero, Nat.zero_mul, List.length_singleton, List.length_append, List.length_nil, List.length_cons, List.take_length, List.drop_zero, List.replicate_zero, List.take_nil, List.nil_append, Nat.reduceBEq, Nat.reduceMul, Nat.reduceLeDiff, eq_self, and_self, true_and, and_true, decide_true, decide_false, Bool.and_self, Bool.or_self, Bool.and_true, Bool.true_and, Bool.and_false, Bool.false_and, Bool.or_true, Bool.true_or, Bool.or_false, Bool.false_or, Bool.not_true, Bool.not_false, cond_true, cond_false]
    exact g6
  | succ d ih =>
    intro m n hm hn
    obtain ⟨n, rfl⟩ : ∃ q, n = q + 1 := ⟨n - 1, by omega⟩
    have g1 := ih (m + 1) n (by omega) (by omega)
    obtain ⟨b1, b2, b3⟩ := gvs.bs_good Q Q.length m (by omega)
    have ml2 := gvs.mb_length (gvs.bs Q Q.length m).1 Q.length
    have hs := gvs.sc_le g (l := gvs.mb.sv (gvs.bs Q Q.length m).1 Q.length) gvs.mb_ran _ (Nat.le_refl _)
    have e3 : gvs.Sc Q (gvs.mb.sv (gvs.bs Q Q.length m).1 Q.length) = gvs.sc.sv Q (gvs.mb.sv (gvs.bs Q Q.length m).1 Q.length) (gvs.mb.sv (gvs.bs Q Q.length m).1 Q.length).length := rfl
    have g2 := loop2 Q (gvs.bs Q Q.length m).1 (gvs.bs Q Q.length m).2 m f n hf g h16 (by omega) (by omega) Q.length 0 f (by omega) (by omega)
    have q1 : gvs.Su Q (gvs.mb.sv m 0) = 0 := rfl
    have q2 : gvs.Sc Q (gvs.mb.sv m 0) = 0 := rfl
    have q3 : gvs.Sk Q (gvs.mb.sv m 0) = true := rfl
    rw [q1, q2, q3] at g2
    have e4 : (gvs.bs Q Q.length (m + 1)).1 = bif gvs.Sk Q (gvs.mb.sv m Q.length) && decide ((gvs.bs Q Q.length m).2 < gvs.Sc Q (gvs.mb.sv m Q.length)) then m else (gvs.bs Q Q.length m).1 := by
      rw [gvs.bs]; cases gvs.Sk Q (gvs.mb.sv m Q.length) && decide ((gvs.bs Q Q.length m).2 < gvs.Sc Q (gvs.mb.sv m Q.length)) <;> rfl
    have e5 : (gvs.bs Q Q.length (m + 1)).2 = bif gvs.Sk Q (gvs.mb.sv m Q.length) && decide ((gvs.bs Q Q.length m).2 < gvs.Sc Q (gvs.mb.sv m Q.length)) then gvs.Sc Q (gvs.mb.sv m Q.length) else (gvs.bs Q Q.length m).2 := by
      rw [gvs.bs]; cases gvs.Sk Q (gvs.mb.sv m Q.length) && decide ((gvs.bs Q Q.length m).2 < gvs.Sc Q (gvs.mb.sv m Q.length)) <;> rfl
    rw [e4, e5] at g1
    rw [round0]
    simp -implicitDefEqProofs (disch := omega) only [w0, w1, take_one, set_one, decide_eq_true, decide_eq_false, IntWalk.i64_in, beqT, beqF, bneT, bneF, nat_succ, ← Int.natCast_mul, ← Int.natCast_add, Int.toNat_natCast, Int.zero_mul, Int.zero_add, Int.add_zero, Nat.zero_add, Nat.add_zero, Nat.zero_mul, List.length_singleton, List.length_append, List.length_nil, List.length_cons, List.take_length, List.drop_zero, List.replicate_zero, List.take_nil, List.nil_append, Nat.reduceBEq, Nat.reduceMul, Nat.reduceLeDiff, eq_self, and_self, true_and, and_true, decide_true, decide_false, Bool.and_self, Bool.or_self, Bool.and_true, Bool.true_and, Bool.and_false, Bool.false_and, Bool.or_true, Bool.true_or, Bool.or_false, Bool.false_or, Bool.not_true, Bool.not_false, cond_true, cond_false]
    exact g2.trans g1
theorem runt : ∀ args v new, Rt args = some (true, v, new) → ∃ fuel, runFn Try.prog (orc [⟨37, l05Gives.R⟩, ⟨38, l05Rings.R⟩]) hd Dr.std (some 0) fuel (bodyOf Try.f16) 114 [4, 5, 6] args [] = some (v, new) := by
  intro args v new h
  unfold Rt at h
  split at h
  · rename_i W m l
    simp only [Option.some.injEq, Prod.mk.injEq, Bool.and_eq_true, decide_eq_true_eq] at h
    obtain ⟨⟨rfl, hv, hmo⟩, rfl, rfl⟩ := h
    obtain ⟨g, hM2, hM4⟩ := gvs.valid hv
    have h8 := g.h8
    have hs : short.sp 4611686018427387904 W = true := by
      simp only [short.sp, List.all_eq_true, decide_eq_true_eq]
      intro r hr
      obtain ⟨k, hk, rfl⟩ := List.mem_iff_getElem.1 hr
      have := g.rl k hk
      rw [gr_eq hk] at this
      omega
    obtain ⟨M, rfl⟩ : ∃ x : Nat, l = x := ⟨l.toNat, by omega⟩
    rw [Int.toNat_natCast] at hmo
--N
    have h16 : (gvs.rs.sv W M).length ≤ 16 := of_decide_eq_true hmo
    have hp := gvs.pow_16 h16
    obtain ⟨F, hF⟩ : ∃ F : Nat, F = 70000 := ⟨70000, rfl⟩
    refine ⟨F, ?_⟩
    have ec : gvs.mc.sv W M = (gvs.best W M).2 := by unfold gvs.mc.sv; rw [hmo]; rfl
    have er : gvs.mr.sv W M = gvs.Pk (gvs.rs.sv W M) (gvs.mb.sv (gvs.best W M).1 (gvs.rs.sv W M).length) := by unfold gvs.mr.sv; rw [hmo]; rfl
    have g2 := loop0 (gvs.rs.sv W M) F (by omega) (gvs.rs_qok g (by omega)) h16 (gvs.mc.sv W M) (gvs.mr.sv W M) (2 ^ (gvs.rs.sv W M).length) rfl ec.symm er.symm (2 ^ (gvs.rs.sv W M).length) 0 F (by omega) (by omega)
    rw [gvs.bs] at g2
    rw [start, Int.toNat_natCast]
    simp -implicitDefEqProofs (disch := omega) only [hv, hs, take_one, set_one, decide_eq_true, decide_eq_false, IntWalk.i64_in, beqT, beqF, bneT, bneF, nat_succ, ← Int.natCast_mul, ← Int.natCast_add, Int.toNat_natCast, Int.zero_mul, Int.zero_add, Int.add_zero, Nat.zero_add, Nat.add_zero, Nat.zero_mul, List.length_singleton, List.length_append, List.length_nil, List.length_cons, List.take_length, List.drop_zero, List.replicate_zero, List.take_nil, List.nil_append, Nat.reduceBEq, Nat.reduceMul, Nat.reduceLeDiff, eq_self, and_self, true_and, and_true, decide_true, decide_false, Bool.and_self, Bool.or_self, Bool.and_true, Bool.true_and, Bool.and_false, Bool.false_and, Bool.or_true, Bool.true_or, Bool.or_false, Bool.false_or, Bool.not_true, Bool.not_false, cond_true, cond_false]
    exact g2
  · cases h
theorem okt : EntOk Try.prog ⟨16, Rt⟩ :=
  ent_okA mixed (A := (orc [⟨37, l05Gives.R⟩, ⟨38, l05Rings.R⟩])) (orc_ok (by simp only [List.mem_cons, List.not_mem_nil, or_false, forall_eq_or_imp, forall_eq]; exact ⟨l05Gives.ok, l05Rings.ok⟩)) Try.func16 (by kernel_rfl) (by kernel_rfl) (n := 114) (ts := [4, 5, 6]) (hd := hd) (dr := Dr.std) (cut := (some 0)) (by kernel_rfl) (by kernel_rfl) (by kernel_rfl) runt
theorem runf : ∀ args v new, Rf args = some (true, v, new) → ∃ fuel, runFn Try.prog (orc [⟨37, l05Gives.R⟩, ⟨38, l05Rings.R⟩]) hd Dr.std (some 0) fuel (bodyOf Try.f16) 114 [4, 5, 6] args [] = some (v, new) := by
  intro args v new h
  unfold Rf at h
  split at h
  · rename_i W m l
    simp only [Option.some.injEq, Prod.mk.injEq, Bool.and_eq_true, decide_eq_true_eq] at h
    obtain ⟨⟨rfl, hv, hmo⟩, rfl, rfl⟩ := h
    obtain ⟨g, hM2, hM4⟩ := gvs.valid hv
    have h8 := g.h8
    have hs : short.sp 4611686018427387904 W = true := by
      simp only [short.sp, List.all_eq_true, decide_eq_true_eq]
      intro r hr
      obtain ⟨k, hk, rfl⟩ := List.mem_iff_getElem.1 hr
      have := g.rl k hk
      rw [gr_eq hk] at this
      omega
    obtain ⟨M, rfl⟩ : ∃ x : Nat, l = x := ⟨l.toNat, by omega⟩
    rw [Int.toNat_natCast] at hmo
    rw [Bool.not_eq_true'] at hmo
    have h16 : ¬ (gvs.rs.sv W M).length ≤ 16 := of_decide_eq_false hmo
    refine ⟨0, ?_⟩
    rw [start, Int.toNat_natCast]
    simp -implicitDefEqProofs (disch := omega) only [hv, hs, take_one, set_one, decide_eq_true, decide_eq_false, IntWalk.i64_in, beqT, beqF, bneT, bneF, nat_succ, ← Int.natCast_mul, ← Int.natCast_add, Int.toNat_natCast, Int.zero_mul, Int.zero_add, Int.add_zero, Nat.zero_add, Nat.add_zero, Nat.zero_mul, List.length_singleton, List.length_append, List.length_nil, List.length_cons, List.take_length, List.drop_zero, List.replicate_zero, List.take_nil, List.nil_append, Nat.reduceBEq, Nat.reduceMul, Nat.reduceLeDiff, eq_self, and_self, true_and, and_true, decide_true, decide_false, Bool.and_self, Bool.or_self, Bool.and_true, Bool.true_and, Bool.and_false, Bool.false_and, Bool.or_true, Bool.true_or, Bool.or_false, Bool.false_or, Bool.not_true, Bool.not_false, cond_true, cond_false]
  · cases h
theorem okf : EntOk Try.prog ⟨16, Rf⟩ :=
  ent_okA mixed (A := (orc [⟨37, l05Gives.R⟩, ⟨38, l05Rings.R⟩])) (orc_ok (by simp only [List.mem_cons, List.not_mem_nil, or_false, forall_eq_or_imp, forall_eq]; exact ⟨l05Gives.ok, l05Rings.ok⟩)) Try.func16 (by kernel_rfl) (by kernel_rfl) (n := 114) (ts := [4, 5, 6]) (hd := hd) (dr := Dr.std) (cut := (some 0)) (by kernel_rfl) (by kernel_rfl) (by kernel_rfl) runf
end sMostGiven

namespace sMostGivenE
def R (args : List AVal) : Option (Bool × AVal × List Blk) := match args with
  | [.ro (.rows .i64 W) m 1, .int .i64 l] => some (decide (m = W.length) && gvs.gv.sp W l, .tup [.int .i64 ((gvs.mc.sv W l.toNat : Nat) : Int), .ro (.rows .i64 (gvs.mr.sv W l.toNat)) (gvs.mr.sv W l.toNat).length 1, .bool (gvs.mo.sp W l.toNat)], [])
  | _ => none
theorem ok : EntOk Try.prog ⟨16, R⟩ := by
  refine EntOk.cases sMostGiven.okt.wkR sMostGiven.okf.wkR fun args v new h => ?_
  unfold R at h
  split at h
  · rename_i W m l
    simp only [Option.some.injEq, Prod.mk.injEq, Bool.and_eq_true, decide_eq_true_eq] at h
    obtain ⟨⟨h1, h2⟩, rfl, rfl⟩ := h
    cases hb : gvs.mo.sp W l.toNat
    · right
      have e1 : gvs.mr.sv W l.toNat = [] := by unfold gvs.mr.sv; rw [hb]; rfl
      have e2 : gvs.mc.sv W l.toNat = 0 := by unfold gvs.mc.sv; rw [hb]; rfl
      have e : sMostGiven.Rf [.ro (.rows .i64 W) m 1, .int .i64 l] = some (true, .tup [.int .i64 0, .nils, .bool false], []) := by
        simp only [sMostGiven.Rf, h1, h2, hb, decide_true, Bool.and_self, Bool.not_false]
      unfold wkR
      rw [e, e1, e2]
      rfl
    · left
      have e : sMostGiven.Rt [.ro (.rows .i64 W) m 1, .int .i64 l] = some (true, .tup [.int .i64 ((gvs.mc.sv W l.toNat : Nat) : Int), .ro (.rows .i64 (gvs.mr.sv W l.toNat)) (gvs.mr.sv W l.toNat).length 1, .bool true], []) := by
        simp only [sMostGiven.Rt, h1, h2, hb, decide_true, Bool.and_self]
      unfold wkR
      rw [e]
      rfl
  · cases h
end sMostGivenE

end Go.Proofs.Ythecninmmojkgaa.Ab
