/-
  Functions: lists of lists: held marks, and nil.
-/
import Derived.Test.YthecninmmojkgaaFnIK
import Derived.Test.YthecninmmojkgaaFnP
import Derived.Test.YthecninmmojkgaaFnAU
import Derived.Test.YthecninmmojkgaaAbWk
namespace Go.Proofs.Ythecninmmojkgaa.Ab
open Go
set_option linter.unusedVariables false
set_option linter.unusedSimpArgs false
set_option maxRecDepth 100000

-- numbers
namespace heldSS
def R : List AVal → Option (Bool × AVal × List Blk)
  | [.ro (.rows .i64 xs) m 1, .int .i64 k] => some (decide (m = xs.length ∧ m ≤ 1048576 ∧ 0 ≤ k ∧ k + (tot.sv xs : Int) ≤ 1000000000 ∧ xs = mkr.sv k xs), .int .i64 (k + (tot.sv xs : Int)), [])
  | _ => none
def hd : Nat → Head := fun _ => ⟨[0, 1, 4, 5], none⟩
noncomputable def L (f n : Nat) (s : State) := loopAt Try.prog (orc [⟨14, heldInt64S.R⟩]) hd Dr.std 0 f (bodyOf Try.f21) 0 [true, false, true] (retK Try.prog [4] 0 none) n s
theorem start (xs : List (List Int)) (m : Nat) (k : Int) (f : Nat) :
  runFn Try.prog (orc [⟨14, heldInt64S.R⟩]) hd Dr.std none f (bodyOf Try.f21) 21 [4] [.ro (.rows .i64 xs) m 1, .int .i64 k] []
  = (L f f (mkS (21 : Nat) [((0 : Nat), AVal.ro (Cont.rows IntKind.i64 xs) m (1 : Nat)), ((1 : Nat), AVal.int IntKind.i64 k), ((4 : Nat), AVal.int IntKind.i64 (0 : Int)), ((5 : Nat), AVal.int IntKind.i64 (0 : Int))] [])) := by kernel_rfl
theorem round (xs : List (List Int)) (m i : Nat) (k : Int) (f n : Nat) :
  L f (n + 1) (mkS 21 [(0, .ro (.rows .i64 xs) m 1), (1, .int .i64 k), (4, .int .i64 0), (5, .int .i64 i)] [])
  = (bif decide ((↑i : Int) < (↑m : Int)) then bif true && (decide ((0 : Int) ≤ (↑i : Int)) && decide ((↑i : Int) < (↑m : Int))) then bif decide ((↑i : Int).toNat < xs.length) then bif decide ((gr xs (↑i : Int).toNat).length ≤ (gr xs (↑i : Int).toNat).length ∧ (gr xs (↑i : Int).toNat).length ≤ (4611686018427387904 : Nat) ∧ (0 : Int) ≤ k ∧ k ≤ (1000000000 : Int)) && (true && (true && true) || true && true) then bif decide ((bif decide (List.take (gr xs (↑i : Int).toNat).length (gr xs (↑i : Int).toNat) = marks.sv k (gr xs (↑i : Int).toNat).length) then k + (↑(gr xs (↑i : Int).toNat).length : Int) else (-1 : Int)) < (0 : Int)) then some (AVal.int IntKind.i64 (-1 : Int), []) else L f n (mkS (21 : Nat) [((0 : Nat), AVal.ro (Cont.rows IntKind.i64 xs) m (1 : Nat)), ((1 : Nat), AVal.int IntKind.i64 (bif decide (List.take (gr xs (↑i : Int).toNat).length (gr xs (↑i : Int).toNat) = marks.sv k (gr xs (↑i : Int).toNat).length) then k + (↑(gr xs (↑i : Int).toNat).length : Int) else (-1 : Int))), ((4 : Nat), AVal.int IntKind.i64 (0 : Int)), ((5 : Nat), AVal.int IntKind.i64 (IntKind.i64.wrap ((↑i : Int) + (1 : Int))))] []) else none else none else none else some (AVal.int IntKind.i64 k, [])) := by kernel_rfl
theorem loop (xs : List (List Int)) (f : Nat) (k0 : Int) (hx : xs.length ≤ 1048576) (hk0 : 0 ≤ k0) (he : xs = mkr.sv k0 xs) : ∀ (d i n : Nat) (k : Int), i + d = xs.length → d < n → k = k0 + (tot.sv (xs.take i) : Int) → k + (tot.sv (xs.drop i) : Int) ≤ 1000000000 →
    L f n (mkS 21 [(0, .ro (.rows .i64 xs) xs.length 1), (1, .int .i64 k), (4, .int .i64 0), (5, .int .i64 (i : Int))] []) = some (.int .i64 (k + (tot.sv (xs.drop i) : Int)), []) := by
  intro d
  induction d with
  | zero =>
    intro i n k hi hn hk ht
    obtain ⟨n, rfl⟩ : ∃ k, n = k + 1 := ⟨n - 1, by omega⟩
    obtain rfl : i = xs.length := by omega
    have e0 : k + ((tot.sv [] : Nat) : Int) = k := Int.add_zero k
    rw [round, List.drop_of_length_le (Nat.le_refl _), e0]
    simp -implicitDefEqProofs (disch := omega) only [take_one, set_one, decide_eq_true, decide_eq_false, IntWalk.i64_in, beqT, beqF, bneT, bneF, nat_succ, ← Int.natCast_mul, ← Int.natCast_add, Int.toNat_natCast, Int.zero_mul, Int.zero_add, Int.add_zero, Nat.zero_add, Nat.add_zero, Nat.zero_mul, List.length_singleton, List.length_append, List.length_nil, List.length_cons, List.take_length, List.drop_zero, List.replicate_zero, List.take_nil, List.nil_append, Nat.reduceBEq, Nat.reduceMul, Nat.reduceLeDiff, eq_self, and_self, true_and, and_true, decide_true, decide_false, Bool.and_self, Bool.or_self, Bool.and_true, Bool.true_and, Bool.and_false, Bool.false_and, Bool.or_true, Bool.true_or, Bool.or_false, Bool.false_or, Bool.not_true, Bool.not_false, cond_true, cond_false]
  | succ d ih =>
    intro i n k hi hn hk ht
    obtain ⟨n, rfl⟩ : ∃ k, n = k + 1 := ⟨n - 1, by omega⟩
    have hlt : i < xs.length := by omega
    have td := gInt64SS.tot_drop hlt
    have tk := gInt64SS.tot_take hlt
    have hr : gr xs i = marks.sv k (gr xs i).length := by
      have h1 := mkr_at k0 xs hlt
      rw [← he, List.getElem?_eq_getElem hlt, ← hk] at h1
      have h2 := Option.some.inj h1
      rw [← gr_eq hlt] at h2
      exact h2
    have tl : (gr xs i).take (gr xs i).length = gr xs i := List.take_length
    have hd : decide (gr xs i = marks.sv k (gr xs i).length) = true := by rw [decide_eq_true_eq]; exact hr
    have lb : (gr xs i).length ≤ 4611686018427387904 := by omega
    have k1 : 0 ≤ k := by omega
    have k2 : k ≤ 1000000000 := by omega
    have k3 : ¬ (k + ((gr xs i).length : Int) < 0) := by omega
    have g := ih (i + 1) n (k + ((gr xs i).length : Int)) (by omega) (by omega) (by rw [hk, tk]; omega) (by omega)
    have e : k + (tot.sv (xs.drop i) : Int) = k + ((gr xs i).length : Int) + (tot.sv (xs.drop (i + 1)) : Int) := by rw [td]; omega
    rw [e, round]
    simp -implicitDefEqProofs (disch := omega) only [tl, hd, lb, k1, k2, k3, beq_self_eq_true, Nat.le_refl, take_one, set_one, decide_eq_true, decide_eq_false, IntWalk.i64_in, beqT, beqF, bneT, bneF, nat_succ, ← Int.natCast_mul, ← Int.natCast_add, Int.toNat_natCast, Int.zero_mul, Int.zero_add, Int.add_zero, Nat.zero_add, Nat.add_zero, Nat.zero_mul, List.length_singleton, List.length_append, List.length_nil, List.length_cons, List.take_length, List.drop_zero, List.replicate_zero, List.take_nil, List.nil_append, Nat.reduceBEq, Nat.reduceMul, Nat.reduceLeDiff, eq_self, and_self, true_and, and_true, decide_true, decide_false, Bool.and_self, Bool.or_self, Bool.and_true, Bool.true_and, Bool.and_false, Bool.false_and, Bool.or_true, Bool.true_or, Bool.or_false, Bool.false_or, Bool.not_true, Bool.not_false, cond_true, cond_false]
    exact g
theorem run : ∀ args v new, R args = some (true, v, new) → ∃ fuel, runFn Try.prog (orc [⟨14, heldInt64S.R⟩]) hd Dr.std none fuel (bodyOf Try.f21) 21 [4] args [] = some (v, new) := by
  intro args v new h
  unfold R at h
  split at h
  · rename_i xs m k
    simp only [Option.some.injEq, Prod.mk.injEq, decide_eq_true_eq] at h
    obtain ⟨⟨rfl, h1, h2, h3, h4⟩, rfl, rfl⟩ := h
    obtain ⟨F, hF⟩ : ∃ F : Nat, F = xs.length + 1 := ⟨_, rfl⟩
    refine ⟨F, ?_⟩
    rw [start]
    have t0 : k = k + (tot.sv (xs.take 0) : Int) := by simp [tot.sv]
    have g := loop xs F k h1 h2 h4 xs.length 0 F k (by omega) (by omega) t0 (by simpa using h3)
    rw [List.drop_zero] at g
    exact g
  · cases h
theorem ok : EntOk Try.prog ⟨21, R⟩ :=
  ent_okA mixed (A := (orc [⟨14, heldInt64S.R⟩])) (orc_ok (by simp only [List.mem_cons, List.not_mem_nil, or_false, forall_eq_or_imp, forall_eq]; exact heldInt64S.ok)) Try.func21 (by kernel_rfl) (by kernel_rfl) (n := 21) (ts := [4]) (hd := hd) (dr := Dr.std) (cut := none) (by kernel_rfl) (by kernel_rfl) (by kernel_rfl) run
end heldSS

namespace eqSSn
def R : List AVal → Option (Bool × AVal × List Blk)
  | [.nils, .nils] => some (true, .bool true, [])
  | _ => none
def hd : Nat → Head := fun _ => ⟨[0, 1, 4, 5], none⟩
theorem nil :
  runFn Try.prog (orc []) hd Dr.std none 1 (bodyOf Try.f19) 27 [4] [.nils, .nils] []
  = (some (AVal.bool true, [])) := by kernel_rfl
theorem run : ∀ args v new, R args = some (true, v, new) → ∃ fuel, runFn Try.prog (orc []) hd Dr.std none fuel (bodyOf Try.f19) 27 [4] args [] = some (v, new) := by
  intro args v new h
  unfold R at h
  split at h
  · simp only [Option.some.injEq, Prod.mk.injEq] at h
    obtain ⟨_, rfl, rfl⟩ := h
    refine ⟨1, ?_⟩
    rw [nil]
  · cases h
theorem ok : EntOk Try.prog ⟨19, R⟩ :=
  ent_okA mixed (A := (orc [])) (orc_ok (by simp)) Try.func19 (by kernel_rfl) (by kernel_rfl) (n := 27) (ts := [4]) (hd := hd) (dr := Dr.std) (cut := none) (by kernel_rfl) (by kernel_rfl) (by kernel_rfl) run
end eqSSn
namespace markSSn
def R : List AVal → Option (Bool × AVal × List Blk)
  | [.nils, .int .i64 k] => some (true, .int .i64 k, [])
  | _ => none
def hd : Nat → Head := fun _ => ⟨[0, 1, 4, 5], none⟩
theorem nil (k : Int) :
  runFn Try.prog (orc []) hd Dr.std none 1 (bodyOf Try.f20) 19 [4] [.nils, .int .i64 k] []
  = (some (AVal.int IntKind.i64 k, [])) := by kernel_rfl
theorem run : ∀ args v new, R args = some (true, v, new) → ∃ fuel, runFn Try.prog (orc []) hd Dr.std none fuel (bodyOf Try.f20) 19 [4] args [] = some (v, new) := by
  intro args v new h
  unfold R at h
  split at h
  · rename_i k
    simp only [Option.some.injEq, Prod.mk.injEq] at h
    obtain ⟨_, rfl, rfl⟩ := h
    refine ⟨1, ?_⟩
    rw [nil]
  · cases h
theorem ok : EntOk Try.prog ⟨20, R⟩ :=
  ent_okA mixed (A := (orc [])) (orc_ok (by simp)) Try.func20 (by kernel_rfl) (by kernel_rfl) (n := 19) (ts := [4]) (hd := hd) (dr := Dr.std) (cut := none) (by kernel_rfl) (by kernel_rfl) (by kernel_rfl) run
end markSSn
namespace heldSSn
def R : List AVal → Option (Bool × AVal × List Blk)
  | [.nils, .int .i64 k] => some (true, .int .i64 k, [])
  | _ => none
def hd : Nat → Head := fun _ => ⟨[0, 1, 4, 5], none⟩
theorem nil (k : Int) :
  runFn Try.prog (orc []) hd Dr.std none 1 (bodyOf Try.f21) 21 [4] [.nils, .int .i64 k] []
  = (some (AVal.int IntKind.i64 k, [])) := by kernel_rfl
theorem run : ∀ args v new, R args = some (true, v, new) → ∃ fuel, runFn Try.prog (orc []) hd Dr.std none fuel (bodyOf Try.f21) 21 [4] args [] = some (v, new) := by
  intro args v new h
  unfold R at h
  split at h
  · rename_i k
    simp only [Option.some.injEq, Prod.mk.injEq] at h
    obtain ⟨_, rfl, rfl⟩ := h
    refine ⟨1, ?_⟩
    rw [nil]
  · cases h
theorem ok : EntOk Try.prog ⟨21, R⟩ :=
  ent_okA mixed (A := (orc [])) (orc_ok (by simp)) Try.func21 (by kernel_rfl) (by kernel_rfl) (n := 21) (ts := [4]) (hd := hd) (dr := Dr.std) (cut := none) (by kernel_rfl) (by kernel_rfl) (by kernel_rfl) run
end heldSSn
end Go.Proofs.Ythecninmmojkgaa.Ab
