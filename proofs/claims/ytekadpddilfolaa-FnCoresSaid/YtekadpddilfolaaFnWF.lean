/-
  Functions: the reference on worths.
-/
import Derived.Test.YtekadpddilfolaaFnWE
namespace Go.Proofs.Ytekadpddilfolaa.Ab
open Go
set_option linter.unusedVariables false
set_option linter.unusedSimpArgs false
set_option maxRecDepth 100000

namespace wo
theorem nu.sp_mono (ws : List Int) (i : Nat) : ∀ (n k : Nat), k ≤ n → nu.sp ws i k = false → nu.sp ws i n = false
  | 0, k, h, e => by obtain rfl : k = 0 := by omega
                     exact e
  | n + 1, k, h, e => by
    by_cases hk : k = n + 1
    · subst hk; exact e
    · have := nu.sp_mono ws i n k (by omega) e
      simp only [nu.sp, this, Bool.false_and]
      cases off.sp n i <;> rfl
theorem al.sp_mono (ws : List Int) (i j : Nat) : ∀ (n k : Nat), k ≤ n → al.sp ws i j k = false → al.sp ws i j n = false
  | 0, k, h, e => by obtain rfl : k = 0 := by omega
                     exact e
  | n + 1, k, h, e => by
    by_cases hk : k = n + 1
    · subst hk; exact e
    · have := al.sp_mono ws i j n k (by omega) e
      simp only [al.sp, this, Bool.false_and]
      cases off.sp n i <;> cases off.sp n j <;> rfl
end wo

namespace l03Is
def R : List AVal → Option (Bool × AVal × List Blk)
  | [.rom [.int .i64 p, .ro (.ints .i64 ws) m 1] 0] => some (decide (m = ws.length) && wo.sp p ws, .bool true, [])
  | _ => none
def hd : Nat → Head := fun _ => ⟨[0, 2, 36, 37], none⟩
noncomputable def L (f n : Nat) (s : State) := loopAt Try.prog (orc [⟨77, l00In.R⟩]) hd Dr.std 0 f (bodyOf Try.f59) 0 [true, true, false, true] (retK Try.prog [2] 0 none) n s
theorem start (p : Int) (ws : List Int) (f : Nat) :
  runFn Try.prog (orc [⟨77, l00In.R⟩]) hd Dr.std none f (bodyOf Try.f59) 50 [2] [.rom [.int .i64 p, .ro (.ints .i64 ws) ws.length 1] 0] []
  = (bif true && (true && true || true && true) then bif !(decide ((1 : Int) ≤ p) && decide (p ≤ (6 : Int))) then some (AVal.bool false, []) else bif decide ((0 : Int) ≤ p) then bif (↑ws.length : Int) != ishl.sv IntKind.i64 (1 : Int) p then some (AVal.bool false, []) else bif decide ((0 : Int) < (↑ws.length : Int)) then bif decide ((0 : Nat) < ws.length) then bif gz ws (0 : Nat) != (0 : Int) then some (AVal.bool false, []) else L f f (mkS (50 : Nat) [((0 : Nat), AVal.rom [AVal.int IntKind.i64 p, AVal.ro (Cont.ints IntKind.i64 ws) ws.length (1 : Nat)] (0 : Nat)), ((2 : Nat), AVal.bool false), ((36 : Nat), AVal.int IntKind.i64 (↑ws.length : Int)), ((37 : Nat), AVal.int IntKind.i64 (0 : Int))] []) else none else none else none else none) := by kernel_rfl
theorem round (p l k : Int) (ws : List Int) (f n : Nat) :
  L f (n + 1) (mkS 50 [(0, .rom [.int .i64 p, .ro (.ints .i64 ws) ws.length 1] 0), (2, .bool false), (36, .int .i64 l), (37, .int .i64 k)] [])
  = (bif decide (k < l) then bif true && (decide ((0 : Int) ≤ k) && decide (k < (↑ws.length : Int))) then bif decide (k.toNat < ws.length) then bif true && (true && true || true && true) then bif !(decide ((-10000 : Int) ≤ gz ws k.toNat) && decide (gz ws k.toNat ≤ (10000 : Int))) then some (AVal.bool false, []) else L f n (mkS (50 : Nat) [((0 : Nat), AVal.rom [AVal.int IntKind.i64 p, AVal.ro (Cont.ints IntKind.i64 ws) ws.length (1 : Nat)] (0 : Nat)), ((2 : Nat), AVal.bool false), ((36 : Nat), AVal.int IntKind.i64 l), ((37 : Nat), AVal.int IntKind.i64 (IntKind.i64.wrap (k + (1 : Int))))] []) else none else none else none else some (AVal.bool true, [])) := by kernel_rfl
theorem loop (p : Nat) (ws : List Int) (f : Nat) (hp : 1 ≤ p ∧ p ≤ 6) (hw : ws.length = 2 ^ p) (h0 : gz ws 0 = 0) (v : ∀ x ∈ ws, -10000 ≤ x ∧ x ≤ 10000) : ∀ (d k n : Nat), k + d = ws.length → d < n →
    L f n (mkS 50 [(0, .rom [.int .i64 ((p : Nat) : Int), .ro (.ints .i64 ws) ws.length 1] 0), (2, .bool false), (36, .int .i64 ((ws.length : Nat) : Int)), (37, .int .i64 ((k : Nat) : Int))] []) = some (.bool true, []) := by
  have h64 := wo.pow_le hp.2
  intro d
  induction d with
  | zero =>
    intro k n hk hn
    obtain ⟨n, rfl⟩ : ∃ k, n = k + 1 := ⟨n - 1, by omega⟩
    obtain rfl : k = ws.length := by omega
    rw [round]
    simp -implicitDefEqProofs (disch := omega) only [take_one, set_one, decide_eq_true, decide_eq_false, IntWalk.i64_in, beqT, beqF, bneT, bneF, nat_succ, ← Int.natCast_mul, ← Int.natCast_add, Int.toNat_natCast, Int.zero_mul, Int.zero_add, Int.add_zero, Nat.zero_add, Nat.add_zero, Nat.zero_mul, List.length_singleton, List.length_append, List.length_nil, List.length_cons, List.take_length, List.drop_zero, List.replicate_zero, List.take_nil, List.nil_append, Nat.reduceBEq, Nat.reduceMul, Nat.reduceLeDiff, eq_self, and_self, true_and, and_true, decide_true, decide_false, Bool.and_self, Bool.or_self, Bool.and_true, Bool.true_and, Bool.and_false, Bool.false_and, Bool.or_true, Bool.true_or, Bool.or_false, Bool.false_or, Bool.not_true, Bool.not_false, cond_true, cond_false]
  | succ d ih =>
    intro k n hk hn
    obtain ⟨n, rfl⟩ : ∃ k, n = k + 1 := ⟨n - 1, by omega⟩
    have g := ih (k + 1) n (by omega) (by omega)
    have b1 := wo.gz_in v k
    rw [round]
    simp -implicitDefEqProofs (disch := omega) only [take_one, set_one, decide_eq_true, decide_eq_false, IntWalk.i64_in, beqT, beqF, bneT, bneF, nat_succ, ← Int.natCast_mul, ← Int.natCast_add, Int.toNat_natCast, Int.zero_mul, Int.zero_add, Int.add_zero, Nat.zero_add, Nat.add_zero, Nat.zero_mul, List.length_singleton, List.length_append, List.length_nil, List.length_cons, List.take_length, List.drop_zero, List.replicate_zero, List.take_nil, List.nil_append, Nat.reduceBEq, Nat.reduceMul, Nat.reduceLeDiff, eq_self, and_self, true_and, and_true, decide_true, decide_false, Bool.and_self, Bool.or_self, Bool.and_true, Bool.true_and, Bool.and_false, Bool.false_and, Bool.or_true, Bool.true_or, Bool.or_false, Bool.false_or, Bool.not_true, Bool.not_false, cond_true, cond_false]
    exact g
theorem run : ∀ args v new, R args = some (true, v, new) → ∃ fuel, runFn Try.prog (orc [⟨77, l00In.R⟩]) hd Dr.std none fuel (bodyOf Try.f59) 50 [2] args [] = some (v, new) := by
  intro args v new h
  unfold R at h
  split at h
  · rename_i p ws m
    simp only [Option.some.injEq, Prod.mk.injEq, Bool.and_eq_true, decide_eq_true_eq] at h
    obtain ⟨⟨⟨rfl⟩, hs⟩, rfl, rfl⟩ := h
    have hs2 := hs
    obtain ⟨p, rfl, hp, hw, h0, v⟩ := wo.valid hs2
    have h64 := wo.pow_le hp.2
    have h1p := wo.pow_pos p
    have s1 := wo.shl_one p (by omega)
    have e : ((ws.length : Nat) : Int) = ((2 ^ p : Nat) : Int) := by rw [hw]
    obtain ⟨F, hF⟩ : ∃ F : Nat, F = 100 := ⟨100, rfl⟩
    refine ⟨F, ?_⟩
    have g := loop p ws F hp hw h0 v ws.length 0 F (by omega) (by omega)
    rw [start]
    simp -implicitDefEqProofs (disch := omega) only [s1, h0, take_one, set_one, decide_eq_true, decide_eq_false, IntWalk.i64_in, beqT, beqF, bneT, bneF, nat_succ, ← Int.natCast_mul, ← Int.natCast_add, Int.toNat_natCast, Int.zero_mul, Int.zero_add, Int.add_zero, Nat.zero_add, Nat.add_zero, Nat.zero_mul, List.length_singleton, List.length_append, List.length_nil, List.length_cons, List.take_length, List.drop_zero, List.replicate_zero, List.take_nil, List.nil_append, Nat.reduceBEq, Nat.reduceMul, Nat.reduceLeDiff, eq_self, and_self, true_and, and_true, decide_true, decide_false, Bool.and_self, Bool.or_self, Bool.and_true, Bool.true_and, Bool.and_false, Bool.false_and, Bool.or_true, Bool.true_or, Bool.or_false, Bool.false_or, Bool.not_true, Bool.not_false, cond_true, cond_false]
    exact g
  · cases h
theorem ok : EntOk Try.prog ⟨59, R⟩ :=
  ent_okA mixed (A := (orc [⟨77, l00In.R⟩])) (orc_ok (by simp only [List.mem_cons, List.not_mem_nil, or_false, forall_eq_or_imp, forall_eq]; exact l00In.ok)) Try.func59 (by kernel_rfl) (by kernel_rfl) (n := 50) (ts := [2]) (hd := hd) (dr := Dr.std) (cut := none) (by kernel_rfl) (by kernel_rfl) (by kernel_rfl) run
end l03Is





end Go.Proofs.Ytekadpddilfolaa.Ab
