/-
  Functions: sums and comparisons of the law; sums of shares.
-/
import Derived.Test.YtekadpddilfolaaFnWT
namespace Go.Proofs.Ytekadpddilfolaa.Ab
open Go
set_option linter.unusedVariables false
set_option linter.unusedSimpArgs false
set_option maxRecDepth 100000

namespace wo
def ss.sv (xs : List Int) : Nat → Int
  | 0 => 0
  | k + 1 => ss.sv xs k + gz xs k
theorem ss_in {xs : List Int} (h : ∀ x ∈ xs, -1000000000000000 ≤ x ∧ x ≤ 1000000000000000) : ∀ k : Nat, -1000000000000000 * (k : Int) ≤ ss.sv xs k ∧ ss.sv xs k ≤ 1000000000000000 * (k : Int)
  | 0 => by simp only [ss.sv]; omega
  | k + 1 => by
    have := ss_in h k
    have hk : -1000000000000000 ≤ gz xs k ∧ gz xs k ≤ 1000000000000000 := by
      by_cases c : k < xs.length
      · exact h _ (gz_mem c)
      · rw [gz_out (by omega)]; omega
    simp only [ss.sv]; omega
theorem ss_set {xs : List Int} {i : Nat} {x : Int} (h : i < xs.length) : ∀ k, ss.sv (xs.set i x) k = ss.sv xs k + (if i < k then x - gz xs i else 0)
  | 0 => by rw [if_neg (by omega)]; simp only [ss.sv]; rfl
  | k + 1 => by
    simp only [ss.sv, ss_set h k, gz_set h]
    by_cases e : i = k
    · subst e
      rw [if_neg (by omega), if_pos rfl, if_pos (by omega)]; omega
    · rw [if_neg e]
      by_cases c : i < k
      · rw [if_pos c, if_pos (by omega)]; omega
      · rw [if_neg c, if_neg (by omega)]; omega
theorem ss_zero (n : Nat) : ∀ k, ss.sv (List.replicate n 0) k = 0
  | 0 => rfl
  | k + 1 => by
    rw [ss.sv, ss_zero n k]
    by_cases c : k < n
    · rw [gz_eq (by simpa using c), List.getElem_replicate]; rfl
    · rw [gz_out (by simpa using c)]; rfl
/-- All shares together. -/
theorem ss_shl (p : Nat) (ws : List Int) : ∀ i, i ≤ p → ss.sv (shl.sv p ws p) i = tot.sv p ws ws.length i
  | 0, _ => rfl
  | i + 1, h => by
    rw [ss.sv, ss_shl p ws i (by omega), shl_get p ws p i (by omega), if_pos (by omega), tot.sv]
-- bits
theorem up_bit (k i j : Nat) : (up.sv k i).testBit j = (k.testBit j || decide (i = j)) := by
  unfold up.sv
  rw [Nat.testBit_or, Nat.testBit_two_pow]
theorem st_bit (os : List Int) : ∀ k j, k ≤ os.length → (st.sv os k).testBit j = (os.take k).any fun x => decide (x.toNat = j)
  | 0, j, _ => by simp only [st.sv, Nat.zero_testBit, List.take_zero, List.any_nil]
  | k + 1, j, h => by
    have c : k < os.length := by omega
    rw [st.sv, up_bit, st_bit os k j (by omega), List.take_add_one, List.getElem?_eq_getElem c, List.any_append, gz_eq c]
    simp only [Option.toList_some, List.any_cons, List.any_nil, Bool.or_false]
theorem st_all {p : Nat} {os : List Int} (h : Ord p os) : st.sv os p = 2 ^ p - 1 := by
  apply Nat.eq_of_testBit_eq
  intro j
  rw [st_bit os p j (by rw [h.len]; omega), Nat.testBit_two_pow_sub_one, List.take_of_length_le (by rw [h.len]; omega)]
  by_cases hj : j < p
  · rw [decide_eq_true hj, List.any_eq_true]
    exact ⟨(j : Int), h.all j hj, by simp⟩
  · rw [decide_eq_false hj, List.any_eq_false]
    intro x hx e
    have := h.ran x hx
    simp only [decide_eq_true_eq] at e
    omega
theorem br_zero (p : Nat) (ws os : List Int) : ∀ k i, k ≤ os.length → (∀ x ∈ os.take k, x.toNat ≠ i) → gz (br.sv p ws os k) i = 0
  | 0, i, _, _ => by
    rw [br.sv]
    by_cases c : i < p
    · rw [gz_eq (by simpa using c), List.getElem_replicate]
    · rw [gz_out (by simpa using c)]
  | k + 1, i, h, hn => by
    have c : k < os.length := by omega
    rw [List.take_add_one, List.getElem?_eq_getElem c] at hn
    have h1 := br_zero p ws os k i (by omega) fun x hx => hn x (List.mem_append_left _ hx)
    have h2 := hn os[k] (List.mem_append_right _ (by simp))
    rw [br.sv, gz_eq c]
    by_cases hx : os[k].toNat < (br.sv p ws os k).length
    · rw [gz_set hx, if_neg h2, h1]
    · rw [List.set_eq_of_length_le (by omega), h1]
/-- What all bring in an order is what all together are worth. -/
theorem ss_br {p : Nat} {ws os : List Int} (h : Ord p os) : ∀ k, k ≤ p → ss.sv (br.sv p ws os k) p = gz ws (st.sv os k) - gz ws 0
  | 0, _ => by rw [br.sv, ss_zero, st.sv]; omega
  | k + 1, hk => by
    have c : k < os.length := by rw [h.len]; omega
    have hr := h.ran _ (List.getElem_mem c)
    have hz : gz (br.sv p ws os k) (gz os k).toNat = 0 := br_zero p ws os k _ (by omega) fun x hx e => by
      obtain ⟨i, hi, rfl⟩ := List.getElem_of_mem hx
      rw [List.length_take] at hi
      rw [List.getElem_take, gz_eq c] at e
      have hi2 := h.ran _ (List.getElem_mem (show i < os.length by omega))
      have := (List.getElem_inj (h₀ := by omega) (h₁ := c) h.nd).1 (show os[i]'(by omega) = os[k] by omega)
      omega
    rw [br.sv, ss_set (by rw [br_length, gz_eq c]; omega), hz, if_pos (by rw [gz_eq c]; omega), ss_br h k (by omega), st.sv, mo.sv]
    omega
end wo

namespace b10Sum
def R : List AVal → Option (Bool × AVal × List Blk)
  | [.ro (.ints .i64 xs) m 1] => some (decide (m = xs.length ∧ m ≤ 100) && (xs.all fun x => decide (-1000000000000000 ≤ x) && decide (x ≤ 1000000000000000)), .int .i64 (wo.ss.sv xs xs.length), [])
  | _ => none
def hd : Nat → Head := fun _ => ⟨[0, 3, 6, 7], none⟩
noncomputable def L (f n : Nat) (s : State) := loopAt Try.prog (orc []) hd Dr.std 0 f (bodyOf Try.f21) 0 [true, true, false, true] (retK Try.prog [2] 0 none) n s
theorem start (xs : List Int) (f : Nat) :
  runFn Try.prog (orc []) hd Dr.std none f (bodyOf Try.f21) 18 [2] [.ro (.ints .i64 xs) xs.length 1] []
  = (L f f (mkS (18 : Nat) [((0 : Nat), AVal.ro (Cont.ints IntKind.i64 xs) xs.length (1 : Nat)), ((3 : Nat), AVal.int IntKind.i64 (0 : Int)), ((6 : Nat), AVal.int IntKind.i64 (↑xs.length : Int)), ((7 : Nat), AVal.int IntKind.i64 (0 : Int))] [])) := by kernel_rfl
theorem round (xs : List Int) (s l k : Int) (f n : Nat) :
  L f (n + 1) (mkS 18 [(0, .ro (.ints .i64 xs) xs.length 1), (3, .int .i64 s), (6, .int .i64 l), (7, .int .i64 k)] [])
  = (bif decide (k < l) then bif true && (decide ((0 : Int) ≤ k) && decide (k < (↑xs.length : Int))) then bif decide (k.toNat < xs.length) then L f n (mkS (18 : Nat) [((0 : Nat), AVal.ro (Cont.ints IntKind.i64 xs) xs.length (1 : Nat)), ((3 : Nat), AVal.int IntKind.i64 (IntKind.i64.wrap (s + gz xs k.toNat))), ((6 : Nat), AVal.int IntKind.i64 l), ((7 : Nat), AVal.int IntKind.i64 (IntKind.i64.wrap (k + (1 : Int))))] []) else none else none else some (AVal.int IntKind.i64 s, [])) := by kernel_rfl
theorem loop (xs : List Int) (f : Nat) (hl : xs.length ≤ 100) (hx : ∀ x ∈ xs, -1000000000000000 ≤ x ∧ x ≤ 1000000000000000) : ∀ (d k n : Nat), k + d = xs.length → d < n →
    L f n (mkS 18 [(0, .ro (.ints .i64 xs) xs.length 1), (3, .int .i64 (wo.ss.sv xs k)), (6, .int .i64 ((xs.length : Nat) : Int)), (7, .int .i64 ((k : Nat) : Int))] []) = some (.int .i64 (wo.ss.sv xs xs.length), []) := by
  intro d
  induction d with
  | zero =>
    intro k n hk hn
    obtain ⟨n, rfl⟩ : ∃ k, n = k + 1 := ⟨n - 1, by omega⟩
    obtain rfl : k = xs.length := by omega
    rw [round]
    simp -implicitDefEqProofs (disch := omega) only [take_one, set_one, decide_eq_true, decide_eq_false, IntWalk.i64_in, beqT, beqF, bneT, bneF, nat_succ, ← Int.natCast_mul, ← Int.natCast_add, Int.toNat_natCast, Int.zero_mul, Int.zero_add, Int.add_zero, Nat.zero_add, Nat.add_zero, Nat.zero_mul, List.length_singleton, List.length_append, List.length_nil, List.length_cons, List.take_length, List.drop_zero, List.replicate_zero, List.take_nil, List.nil_append, Nat.reduceBEq, Nat.reduceMul, Nat.reduceLeDiff, eq_self, and_self, true_and, and_true, decide_true, decide_false, Bool.and_self, Bool.or_self, Bool.and_true, Bool.true_and, Bool.and_false, Bool.false_and, Bool.or_true, Bool.true_or, Bool.or_false, Bool.false_or, Bool.not_true, Bool.not_false, cond_true, cond_false]
  | succ d ih =>
    intro k n hk hn
    obtain ⟨n, rfl⟩ : ∃ k, n = k + 1 := ⟨n - 1, by omega⟩
    have g := ih (k + 1) n (by omega) (by omega)
    have b1 := wo.ss_in hx k
    have b2 := hx _ (gz_mem (show k < xs.length by omega))
    simp only [wo.ss.sv] at g
    rw [round]
    simp -implicitDefEqProofs (disch := omega) only [take_one, set_one, decide_eq_true, decide_eq_false, IntWalk.i64_in, beqT, beqF, bneT, bneF, nat_succ, ← Int.natCast_mul, ← Int.natCast_add, Int.toNat_natCast, Int.zero_mul, Int.zero_add, Int.add_zero, Nat.zero_add, Nat.add_zero, Nat.zero_mul, List.length_singleton, List.length_append, List.length_nil, List.length_cons, List.take_length, List.drop_zero, List.replicate_zero, List.take_nil, List.nil_append, Nat.reduceBEq, Nat.reduceMul, Nat.reduceLeDiff, eq_self, and_self, true_and, and_true, decide_true, decide_false, Bool.and_self, Bool.or_self, Bool.and_true, Bool.true_and, Bool.and_false, Bool.false_and, Bool.or_true, Bool.true_or, Bool.or_false, Bool.false_or, Bool.not_true, Bool.not_false, cond_true, cond_false]
    exact g
theorem run : ∀ args v new, R args = some (true, v, new) → ∃ fuel, runFn Try.prog (orc []) hd Dr.std none fuel (bodyOf Try.f21) 18 [2] args [] = some (v, new) := by
  intro args v new h
  unfold R at h
  split at h
  · rename_i xs m
    simp only [Option.some.injEq, Prod.mk.injEq, Bool.and_eq_true, decide_eq_true_eq, List.all_eq_true] at h
    obtain ⟨⟨⟨rfl, h1⟩, hx⟩, rfl, rfl⟩ := h
    obtain ⟨F, hF⟩ : ∃ F : Nat, F = 200 := ⟨200, rfl⟩
    refine ⟨F, ?_⟩
    rw [start]
    exact loop xs F h1 hx xs.length 0 F (by omega) (by omega)
  · cases h
theorem ok : EntOk Try.prog ⟨21, R⟩ :=
  ent_okA mixed (A := (orc [])) (orc_ok (by simp)) Try.func21 (by kernel_rfl) (by kernel_rfl) (n := 18) (ts := [2]) (hd := hd) (dr := Dr.std) (cut := none) (by kernel_rfl) (by kernel_rfl) (by kernel_rfl) run
end b10Sum

namespace b10Ints
def R : List AVal → Option (Bool × AVal × List Blk)
  | [.ro (.ints .i64 xs) m 1, .ro (.ints .i64 ys) k 1] => some (decide (m = xs.length ∧ k = m ∧ m ≤ 100 ∧ xs = ys), .bool true, [])
  | _ => none
def hd : Nat → Head := fun _ => ⟨[0, 1, 4, 12, 13], none⟩
noncomputable def L (f n : Nat) (s : State) := loopAt Try.prog (orc []) hd Dr.std 0 f (bodyOf Try.f25) 0 [true, true, false, true] (retK Try.prog [4] 0 none) n s
theorem start (xs : List Int) (f : Nat) :
  runFn Try.prog (orc []) hd Dr.std none f (bodyOf Try.f25) 26 [4] [.ro (.ints .i64 xs) xs.length 1, .ro (.ints .i64 xs) xs.length 1] []
  = (bif (↑xs.length : Int) != (↑xs.length : Int) then some (AVal.bool false, []) else L f f (mkS (26 : Nat) [((0 : Nat), AVal.ro (Cont.ints IntKind.i64 xs) xs.length (1 : Nat)), ((1 : Nat), AVal.ro (Cont.ints IntKind.i64 xs) xs.length (1 : Nat)), ((4 : Nat), AVal.bool false), ((12 : Nat), AVal.int IntKind.i64 (↑xs.length : Int)), ((13 : Nat), AVal.int IntKind.i64 (0 : Int))] [])) := by kernel_rfl
theorem round (xs : List Int) (l k : Int) (f n : Nat) :
  L f (n + 1) (mkS 26 [(0, .ro (.ints .i64 xs) xs.length 1), (1, .ro (.ints .i64 xs) xs.length 1), (4, .bool false), (12, .int .i64 l), (13, .int .i64 k)] [])
  = (bif decide (k < l) then bif true && (decide ((0 : Int) ≤ k) && decide (k < (↑xs.length : Int))) then bif decide (k.toNat < xs.length) then bif true && (decide ((0 : Int) ≤ k) && decide (k < (↑xs.length : Int))) then bif decide (k.toNat < xs.length) then bif gz xs k.toNat != gz xs k.toNat then some (AVal.bool false, []) else L f n (mkS (26 : Nat) [((0 : Nat), AVal.ro (Cont.ints IntKind.i64 xs) xs.length (1 : Nat)), ((1 : Nat), AVal.ro (Cont.ints IntKind.i64 xs) xs.length (1 : Nat)), ((4 : Nat), AVal.bool false), ((12 : Nat), AVal.int IntKind.i64 l), ((13 : Nat), AVal.int IntKind.i64 (IntKind.i64.wrap (k + (1 : Int))))] []) else none else none else none else none else some (AVal.bool true, [])) := by kernel_rfl
theorem loop (xs : List Int) (f : Nat) (hl : xs.length ≤ 100) : ∀ (d k n : Nat), k + d = xs.length → d < n →
    L f n (mkS 26 [(0, .ro (.ints .i64 xs) xs.length 1), (1, .ro (.ints .i64 xs) xs.length 1), (4, .bool false), (12, .int .i64 ((xs.length : Nat) : Int)), (13, .int .i64 ((k : Nat) : Int))] []) = some (.bool true, []) := by
  intro d
  induction d with
  | zero =>
    intro k n hk hn
    obtain ⟨n, rfl⟩ : ∃ k, n = k + 1 := ⟨n - 1, by omega⟩
    obtain rfl : k = xs.length := by omega
    rw [round]
    simp -implicitDefEqProofs (disch := omega) only [take_one, set_one, decide_eq_true, decide_eq_false, IntWalk.i64_in, beqT, beqF, bneT, bneF, nat_succ, ← Int.natCast_mul, ← Int.natCast_add, Int.toNat_natCast, Int.zero_mul, Int.zero_add, Int.add_zero, Nat.zero_add, Nat.add_zero, Nat.zero_mul, List.length_singleton, List.length_append, List.length_nil, List.length_cons, List.take_length, List.drop_zero, List.replicate_zero, List.take_nil, List.nil_append, Nat.reduceBEq, Nat.reduceMul, Nat.reduceLeDiff, eq_self, and_self, true_and, and_true, decide_true, decide_false, Bool.and_self, Bool.or_self, Bool.and_true, Bool.true_and, Bool.and_false, Bool.false_and, Bool.or_true, Bool.true_or, Bool.or_false, Bool.false_or, Bool.not_true, Bool.not_false, cond_true, cond_false]
  | succ d ih =>
    intro k n hk hn
    obtain ⟨n, rfl⟩ : ∃ k, n = k + 1 := ⟨n - 1, by omega⟩
    have g := ih (k + 1) n (by omega) (by omega)
    rw [round]
    simp -implicitDefEqProofs (disch := omega) only [take_one, set_one, decide_eq_true, decide_eq_false, IntWalk.i64_in, beqT, beqF, bneT, bneF, nat_succ, ← Int.natCast_mul, ← Int.natCast_add, Int.toNat_natCast, Int.zero_mul, Int.zero_add, Int.add_zero, Nat.zero_add, Nat.add_zero, Nat.zero_mul, List.length_singleton, List.length_append, List.length_nil, List.length_cons, List.take_length, List.drop_zero, List.replicate_zero, List.take_nil, List.nil_append, Nat.reduceBEq, Nat.reduceMul, Nat.reduceLeDiff, eq_self, and_self, true_and, and_true, decide_true, decide_false, Bool.and_self, Bool.or_self, Bool.and_true, Bool.true_and, Bool.and_false, Bool.false_and, Bool.or_true, Bool.true_or, Bool.or_false, Bool.false_or, Bool.not_true, Bool.not_false, cond_true, cond_false]
    exact g
theorem run : ∀ args v new, R args = some (true, v, new) → ∃ fuel, runFn Try.prog (orc []) hd Dr.std none fuel (bodyOf Try.f25) 26 [4] args [] = some (v, new) := by
  intro args v new h
  unfold R at h
  split at h
  · rename_i xs m ys k
    simp only [Option.some.injEq, Prod.mk.injEq, Bool.and_eq_true, decide_eq_true_eq] at h
    obtain ⟨⟨rfl, rfl, h1, rfl⟩, rfl, rfl⟩ := h
    obtain ⟨F, hF⟩ : ∃ F : Nat, F = 200 := ⟨200, rfl⟩
    refine ⟨F, ?_⟩
    rw [start]
    simp -implicitDefEqProofs (disch := omega) only [take_one, set_one, decide_eq_true, decide_eq_false, IntWalk.i64_in, beqT, beqF, bneT, bneF, nat_succ, ← Int.natCast_mul, ← Int.natCast_add, Int.toNat_natCast, Int.zero_mul, Int.zero_add, Int.add_zero, Nat.zero_add, Nat.add_zero, Nat.zero_mul, List.length_singleton, List.length_append, List.length_nil, List.length_cons, List.take_length, List.drop_zero, List.replicate_zero, List.take_nil, List.nil_append, Nat.reduceBEq, Nat.reduceMul, Nat.reduceLeDiff, eq_self, and_self, true_and, and_true, decide_true, decide_false, Bool.and_self, Bool.or_self, Bool.and_true, Bool.true_and, Bool.and_false, Bool.false_and, Bool.or_true, Bool.true_or, Bool.or_false, Bool.false_or, Bool.not_true, Bool.not_false, cond_true, cond_false]
    exact loop xs F h1 xs.length 0 F (by omega) (by omega)
  · cases h
theorem ok : EntOk Try.prog ⟨25, R⟩ :=
  ent_okA mixed (A := (orc [])) (orc_ok (by simp)) Try.func25 (by kernel_rfl) (by kernel_rfl) (n := 26) (ts := [4]) (hd := hd) (dr := Dr.std) (cut := none) (by kernel_rfl) (by kernel_rfl) (by kernel_rfl) run
end b10Ints

end Go.Proofs.Ytekadpddilfolaa.Ab
