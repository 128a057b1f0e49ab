/-
  Functions: common factors.
-/
import Derived.Test.YtgblgofmdhekiaaFnGI
namespace Go.Proofs.Ytgblgofmdhekiaa.Ab
open Go
set_option linter.unusedVariables false
set_option linter.unusedSimpArgs false
set_option maxRecDepth 100000

namespace rd
def by.sv (a b : Int) : Int := if b < 0 then -(Int.gcd a b : Int) else (Int.gcd a b : Int)
def p.sv (a b : Int) : Int := bif b == 0 then 0 else a.tdiv (rd.by.sv a b)
def q.sv (a b : Int) : Int := bif b == 0 then 0 else b.tdiv (rd.by.sv a b)
def g.sv (a b : Int) : Int := (Int.gcd a b : Int)
def abs.sv (a : Int) : Int := (a.natAbs : Int)
theorem gcd_pos {a b : Int} (h : b ≠ 0) : 0 < Int.gcd a b := by
  have : Int.gcd a b ≠ 0 := fun e => h (Int.gcd_eq_zero_iff.1 e).2
  omega
theorem tdiv_small {a b : Int} (h : -5000 ≤ a ∧ a ≤ 5000) : -5000 ≤ a.tdiv b ∧ a.tdiv b ≤ 5000 := by
  have h1 : (a.tdiv b).natAbs = a.natAbs / b.natAbs := Int.natAbs_tdiv a b
  have h2 := Nat.div_le_self a.natAbs b.natAbs
  omega
theorem gcd_small {a b : Int} (h : b ≠ 0) (hb : -5000 ≤ b ∧ b ≤ 5000) : Int.gcd a b ≤ 5000 := by
  have h1 : Int.gcd a b ∣ b.natAbs := Int.gcd_dvd_natAbs_right a b
  have h2 := Nat.le_of_dvd (by omega) h1
  omega
theorem gcd_step (a b : Int) : Int.gcd b (a.tmod b) = Int.gcd a b := by
  unfold Int.gcd
  rw [Int.natAbs_tmod, Nat.gcd_comm, ← Nat.gcd_rec, Nat.gcd_comm]
theorem tmod_abs {a b : Int} (h : b ≠ 0) : (a.tmod b).natAbs < b.natAbs := by
  rw [Int.natAbs_tmod]; exact Nat.mod_lt _ (by omega)
end rd

namespace common
def R : List AVal → Option (Bool × AVal × List Blk)
  | [.int .i64 a, .int .i64 b] => some (decide (0 ≤ a ∧ a ≤ 5000 ∧ 0 ≤ b ∧ b ≤ 5000), .int .i64 (rd.g.sv a b), [])
  | _ => none
def hd : Nat → Head := fun _ => ⟨[0, 1], none⟩
noncomputable def L (f n : Nat) (s : State) := loopAt Try.prog (orc []) hd Dr.std 0 f (bodyOf Try.f81) 0 [true, false] (retK Try.prog [4] 0 none) n s
theorem start (a b : Int) (f : Nat) :
  runFn Try.prog (orc []) hd Dr.std none f (bodyOf Try.f81) 12 [4] [.int .i64 a, .int .i64 b] []
  = (L f f (mkS (12 : Nat) [((0 : Nat), AVal.int IntKind.i64 a), ((1 : Nat), AVal.int IntKind.i64 b)] [])) := by kernel_rfl
theorem round (a b : Int) (f n : Nat) :
  L f (n + 1) (mkS 12 [(0, .int .i64 a), (1, .int .i64 b)] [])
  = (bif b != (0 : Int) then bif !b == (0 : Int) then L f n (mkS (12 : Nat) [((0 : Nat), AVal.int IntKind.i64 b), ((1 : Nat), AVal.int IntKind.i64 (a.tmod b))] []) else none else some (AVal.int IntKind.i64 a, [])) := by kernel_rfl
theorem loop (f : Nat) : ∀ (n : Nat) (a b : Int), b.natAbs < n → (-5000 ≤ a ∧ a ≤ 5000) → (-5000 ≤ b ∧ b ≤ 5000) → 0 ≤ a → 0 ≤ b →
    L f n (mkS 12 [(0, .int .i64 a), (1, .int .i64 b)] []) = some (.int .i64 (rd.g.sv a b), []) := by
  intro n
  induction n with
  | zero => intro a b h; omega
  | succ n ih =>
    intro a b h ha hb ha0 hb0
    rw [round]
    by_cases c : b = 0
    · subst c
      have e : rd.g.sv a 0 = a := by simp [rd.g.sv, Int.gcd]; try omega
      have c1 : ((0 : Int) != 0) = false := rfl
      simp -implicitDefEqProofs only [c1, e, decide_true, decide_false, Bool.and_self, Bool.or_self, Bool.and_true, Bool.true_and, Bool.and_false, Bool.false_and, Bool.or_true, Bool.true_or, Bool.or_false, Bool.false_or, Bool.not_true, Bool.not_false, cond_true, cond_false]
    · have c1 : (b != 0) = true := by simpa using c
      have c2 : (b == 0) = false := by simpa using c
      have hlt := rd.tmod_abs (a := a) c
      have hih := ih b (a.tmod b) (by omega) hb (by omega) hb0 (Int.tmod_nonneg _ ha0)
      have e : rd.g.sv b (a.tmod b) = rd.g.sv a b := by unfold rd.g.sv; rw [rd.gcd_step]
      rw [e] at hih
      simp -implicitDefEqProofs only [c1, c2, decide_true, decide_false, Bool.and_self, Bool.or_self, Bool.and_true, Bool.true_and, Bool.and_false, Bool.false_and, Bool.or_true, Bool.true_or, Bool.or_false, Bool.false_or, Bool.not_true, Bool.not_false, cond_true, cond_false]
      exact hih
theorem run : ∀ args v new, R args = some (true, v, new) → ∃ fuel, runFn Try.prog (orc []) hd Dr.std none fuel (bodyOf Try.f81) 12 [4] args [] = some (v, new) := by
  intro args v new h
  unfold R at h
  split at h
  · rename_i a b
    simp only [Option.some.injEq, Prod.mk.injEq, decide_eq_true_eq] at h
    obtain ⟨⟨h1, h2, h3, h4⟩, rfl, rfl⟩ := h
    obtain ⟨F, hF⟩ : ∃ F : Nat, F = 6000 := ⟨6000, rfl⟩
    refine ⟨F, ?_⟩
    rw [start]
    exact loop F F a b (by omega) ⟨by omega, h2⟩ ⟨by omega, h4⟩ h1 h3
  · cases h
theorem ok : EntOk Try.prog ⟨81, R⟩ :=
  ent_okA mixed (A := (orc [])) (orc_ok (by simp)) Try.func81 (by kernel_rfl) (by kernel_rfl) (n := 12) (ts := [4]) (hd := hd) (dr := Dr.std) (cut := none) (by kernel_rfl) (by kernel_rfl) (by kernel_rfl) run
end common


namespace absolute
def R : List AVal → Option (Bool × AVal × List Blk)
  | [.int .i64 a] => some (decide (-5000 ≤ a ∧ a ≤ 5000), .int .i64 (rd.abs.sv a), [])
  | _ => none
theorem go (a : Int) :
  runFn Try.prog (orc []) hd0 Dr.std none 0 (bodyOf Try.f82) 7 [2] [.int .i64 a] []
  = (some (AVal.int IntKind.i64 (if a < IntKind.i64.wrap ((0 : Int) - a) then IntKind.i64.wrap ((0 : Int) - a) else a), [])) := by kernel_rfl
theorem run : ∀ args v new, R args = some (true, v, new) → ∃ fuel, runFn Try.prog (orc []) hd0 Dr.std none fuel (bodyOf Try.f82) 7 [2] args [] = some (v, new) := by
  intro args v new h
  unfold R at h
  split at h
  · rename_i a
    simp only [Option.some.injEq, Prod.mk.injEq, decide_eq_true_eq] at h
    obtain ⟨⟨h1, h2⟩, rfl, rfl⟩ := h
    have w : IntKind.i64.wrap (0 - a) = -a := by rw [IntWalk.i64_in _ (by omega)]; omega
    have e : (if a < -a then -a else a) = rd.abs.sv a := by unfold rd.abs.sv; split <;> omega
    refine ⟨0, ?_⟩
    rw [go, w, e]
  · cases h
theorem ok : EntOk Try.prog ⟨82, R⟩ :=
  ent_okA mixed (A := (orc [])) (orc_ok (by simp)) Try.func82 (by kernel_rfl) (by kernel_rfl) (n := 7) (ts := [2]) (hd := hd0) (dr := Dr.std) (cut := none) (by kernel_rfl) (by kernel_rfl) (by kernel_rfl) run
end absolute

namespace reduced
def R : List AVal → Option (Bool × AVal × List Blk)
  | [.int .i64 a, .int .i64 b] => some (decide (-5000 ≤ a ∧ a ≤ 5000 ∧ -5000 ≤ b ∧ b ≤ 5000), .tup [.int .i64 (rd.p.sv a b), .int .i64 (rd.q.sv a b), .bool (b != 0)], [])
  | _ => none
theorem go (a b : Int) :
  runFn Try.prog (orc [⟨82, absolute.R⟩, ⟨81, common.R⟩]) hd0 Dr.std none 0 (bodyOf Try.f56) 25 [4, 5, 6] [.int .i64 a, .int .i64 b] []
  = (bif b == (0 : Int) then some (AVal.tup [AVal.int IntKind.i64 (0 : Int), AVal.int IntKind.i64 (0 : Int), AVal.bool false], []) else bif decide ((-5000 : Int) ≤ a ∧ a ≤ (5000 : Int)) && (true && true || true && true) then bif decide ((-5000 : Int) ≤ b ∧ b ≤ (5000 : Int)) && (true && true || true && true) then bif decide ((0 : Int) ≤ rd.abs.sv a ∧ rd.abs.sv a ≤ (5000 : Int) ∧ (0 : Int) ≤ rd.abs.sv b ∧ rd.abs.sv b ≤ (5000 : Int)) && (true && (true && true) || true && true) then bif decide (b < (0 : Int)) then bif !IntKind.i64.wrap ((0 : Int) - rd.g.sv (rd.abs.sv a) (rd.abs.sv b)) == (0 : Int) then bif !IntKind.i64.wrap ((0 : Int) - rd.g.sv (rd.abs.sv a) (rd.abs.sv b)) == (0 : Int) then some (AVal.tup [AVal.int IntKind.i64 (IntKind.i64.wrap (a.tdiv (IntKind.i64.wrap ((0 : Int) - rd.g.sv (rd.abs.sv a) (rd.abs.sv b))))), AVal.int IntKind.i64 (IntKind.i64.wrap (b.tdiv (IntKind.i64.wrap ((0 : Int) - rd.g.sv (rd.abs.sv a) (rd.abs.sv b))))), AVal.bool true], []) else none else none else bif !rd.g.sv (rd.abs.sv a) (rd.abs.sv b) == (0 : Int) then bif !rd.g.sv (rd.abs.sv a) (rd.abs.sv b) == (0 : Int) then some (AVal.tup [AVal.int IntKind.i64 (IntKind.i64.wrap (a.tdiv (rd.g.sv (rd.abs.sv a) (rd.abs.sv b)))), AVal.int IntKind.i64 (IntKind.i64.wrap (b.tdiv (rd.g.sv (rd.abs.sv a) (rd.abs.sv b)))), AVal.bool true], []) else none else none else none else none else none) := by kernel_rfl
theorem run : ∀ args v new, R args = some (true, v, new) → ∃ fuel, runFn Try.prog (orc [⟨82, absolute.R⟩, ⟨81, common.R⟩]) hd0 Dr.std none fuel (bodyOf Try.f56) 25 [4, 5, 6] args [] = some (v, new) := by
  intro args v new h
  unfold R at h
  split at h
  · rename_i a b
    simp only [Option.some.injEq, Prod.mk.injEq, decide_eq_true_eq] at h
    obtain ⟨⟨h1, h2, h3, h4⟩, rfl, rfl⟩ := h
    refine ⟨0, ?_⟩
    rw [go]
    by_cases hb0 : b = 0
    · subst hb0; rfl
    have hg0 := rd.gcd_pos (a := a) hb0
    have hg1 := rd.gcd_small (a := a) hb0 ⟨h3, h4⟩
    have t1 := rd.tdiv_small (a := a) (b := rd.by.sv a b) ⟨h1, h2⟩
    have t2 := rd.tdiv_small (a := b) (b := rd.by.sv a b) ⟨h3, h4⟩
    have w1 : IntKind.i64.wrap (a.tdiv (rd.by.sv a b)) = a.tdiv (rd.by.sv a b) := IntWalk.i64_in _ (by omega)
    have w2 : IntKind.i64.wrap (b.tdiv (rd.by.sv a b)) = b.tdiv (rd.by.sv a b) := IntWalk.i64_in _ (by omega)
    have hz : (b == 0) = false := by simpa using hb0
    have a1 : (0 : Int) ≤ rd.abs.sv a := Int.natCast_nonneg _
    have a2 : rd.abs.sv a ≤ 5000 := by unfold rd.abs.sv; omega
    have b1 : (0 : Int) ≤ rd.abs.sv b := Int.natCast_nonneg _
    have b2 : rd.abs.sv b ≤ 5000 := by unfold rd.abs.sv; omega
    have e : rd.g.sv (rd.abs.sv a) (rd.abs.sv b) = (Int.gcd a b : Int) := by simp [rd.g.sv, rd.abs.sv, Int.gcd]
    have hn : (b != 0) = true := by simpa using hb0
    by_cases hs : b < 0
    · have eb : rd.by.sv a b = -(Int.gcd a b : Int) := if_pos hs
      have w : IntKind.i64.wrap (0 - (Int.gcd a b : Int)) = rd.by.sv a b := by rw [eb, IntWalk.i64_in _ (by omega)]; omega
      have z : (rd.by.sv a b == 0) = false := by simp only [beq_eq_false_iff_ne, ne_eq, eb]; omega
      simp -implicitDefEqProofs only [hz, hn, hs, h1, h2, h3, h4, a1, a2, b1, b2, e, w, z, w1, w2, rd.p.sv, rd.q.sv, and_self, decide_true, decide_false, Bool.and_self, Bool.or_self, Bool.and_true, Bool.true_and, Bool.and_false, Bool.false_and, Bool.or_true, Bool.true_or, Bool.or_false, Bool.false_or, Bool.not_true, Bool.not_false, cond_true, cond_false]
    · have eb : rd.by.sv a b = (Int.gcd a b : Int) := if_neg hs
      have z : (rd.by.sv a b == 0) = false := by simp only [beq_eq_false_iff_ne, ne_eq, eb]; omega
      simp -implicitDefEqProofs only [hz, hn, hs, h1, h2, h3, h4, a1, a2, b1, b2, e, ← eb, z, w1, w2, rd.p.sv, rd.q.sv, and_self, decide_true, decide_false, Bool.and_self, Bool.or_self, Bool.and_true, Bool.true_and, Bool.and_false, Bool.false_and, Bool.or_true, Bool.true_or, Bool.or_false, Bool.false_or, Bool.not_true, Bool.not_false, cond_true, cond_false]
  · cases h
theorem ok : EntOk Try.prog ⟨56, R⟩ :=
  ent_okA mixed (A := (orc [⟨82, absolute.R⟩, ⟨81, common.R⟩])) (orc_ok (by simp only [List.mem_cons, List.not_mem_nil, or_false, forall_eq_or_imp, forall_eq]; exact ⟨absolute.ok, common.ok⟩)) Try.func56 (by kernel_rfl) (by kernel_rfl) (n := 25) (ts := [4, 5, 6]) (hd := hd0) (dr := Dr.std) (cut := none) (by kernel_rfl) (by kernel_rfl) (by kernel_rfl) run
end reduced


end Go.Proofs.Ytgblgofmdhekiaa.Ab
