/-
  Functions: all sets without a player, one by one.
-/
import Derived.Test.YtekadpddilfolaaFnWA
namespace Go.Proofs.Ytekadpddilfolaa.Ab
open Go
set_option linter.unusedVariables false
set_option linter.unusedSimpArgs false
set_option maxRecDepth 100000

namespace cloShares
def dr : Nat → Dr := fun i => bif eqN i 1 then ⟨some [0, 1, 2, 3, 4, 6, 7, 8, 9, 10, 13, 14, 15, 5, 11, 12, 16, 17, 18, 19, 20], false⟩ else ⟨none, false⟩
def R : List AVal → Heap → Option (Bool × AVal × Heap)
  | [.int .i64 k, .ptr 0 0 0, .ptr 2 0 0, .ptr 3 0 0], [⟨.cells [.own 1 0 q 0 1], 0⟩, ⟨.typ (.ints .i64 os), 0⟩, ⟨.cells [.int .i64 i], 0⟩, ⟨.cells [.int .i64 p, .ro (.ints .i64 ws) m 1], 0⟩] => some (decide (m = ws.length ∧ 0 ≤ k ∧ k < (ws.length : Int) ∧ 0 ≤ i ∧ i < p ∧ q = os.length ∧ q ≤ 10 ∧ i < (q : Int) ∧ -1000000000000000 ≤ gz os i.toNat ∧ gz os i.toNat ≤ 1000000000000000) && (wo.off.sp k.toNat i.toNat && wo.sp p ws), .tup [], [⟨.cells [.own 1 0 q 0 1], 0⟩, ⟨.typ (.ints .i64 (os.set i.toNat (gz os i.toNat + wo.fac.sv (wo.cnt.sv k.toNat) * wo.fac.sv (p.toNat - 1 - wo.cnt.sv k.toNat) * wo.mo.sv ws k.toNat i.toNat))), 0⟩, ⟨.cells [.int .i64 i], 0⟩, ⟨.cells [.int .i64 p, .ro (.ints .i64 ws) m 1], 0⟩])
  | _, _ => none
theorem go (p k i : Int) (ws : List Int) (m : Nat) (os : List Int) (q : Nat) :
  runFn Try.prog (orc [⟨69, ones.R⟩, ⟨70, factorial.R⟩, ⟨64, wMore.R⟩]) hd0 dr none 0 (bodyOf Try.f68) 29 [] [.int .i64 k, .ptr 0 0 0, .ptr 2 0 0, .ptr 3 0 0] [⟨.cells [.own 1 0 q 0 1], 0⟩, ⟨.typ (.ints .i64 os), 0⟩, ⟨.cells [.int .i64 i], 0⟩, ⟨.cells [.int .i64 p, .ro (.ints .i64 ws) m 1], 0⟩]
  = (bif true && (true && (true && (true && true))) then bif decide ((0 : Int) ≤ IntKind.u64.wrap k ∧ IntKind.u64.wrap k < (64 : Int)) && (true && true || true && true) then bif true && true then bif true && true then bif true && (decide ((0 : Int) ≤ i) && decide (i < (↑q : Int))) then bif true && decide (i.toNat < os.length) then bif true && true then bif true && true && (true && true && true) then bif true && true then bif decide ((0 : Int) ≤ (↑(wo.cnt.sv (IntKind.u64.wrap k).toNat) : Int) ∧ (↑(wo.cnt.sv (IntKind.u64.wrap k).toNat) : Int) ≤ (6 : Int)) && (true && true || true && true) then bif decide ((0 : Int) ≤ IntKind.i64.wrap (IntKind.i64.wrap (p - (1 : Int)) - (↑(wo.cnt.sv (IntKind.u64.wrap k).toNat) : Int)) ∧ IntKind.i64.wrap (IntKind.i64.wrap (p - (1 : Int)) - (↑(wo.cnt.sv (IntKind.u64.wrap k).toNat) : Int)) ≤ (6 : Int)) && (true && true || true && true) then bif decide (m = ws.length ∧ (0 : Int) ≤ k ∧ (0 : Int) ≤ i ∧ i < p ∧ k < (↑ws.length : Int)) && wo.sp p ws && (true && (true && true) && (true && (true && true)) || true && true) then bif true && (decide ((0 : Int) ≤ i) && decide (i < (↑q : Int))) then bif true && (true && (decide (i.toNat < os.length) && true)) then some (AVal.tup [], [{ c := BC.cells [AVal.own (1 : Nat) (0 : Nat) q (0 : Nat) (1 : Nat)], ver := (0 : Nat) }, { c := BC.typ (Cont.ints IntKind.i64 (os.set i.toNat (IntKind.i64.wrap (gz os i.toNat + IntKind.i64.wrap (IntKind.i64.wrap (wo.fac.sv (↑(wo.cnt.sv (IntKind.u64.wrap k).toNat) : Int).toNat * wo.fac.sv (IntKind.i64.wrap (IntKind.i64.wrap (p - (1 : Int)) - (↑(wo.cnt.sv (IntKind.u64.wrap k).toNat) : Int))).toNat) * wo.mo.sv ws k.toNat i.toNat))))), ver := (0 : Nat) }, { c := BC.cells [AVal.int IntKind.i64 i], ver := (0 : Nat) }, { c := BC.cells [AVal.int IntKind.i64 p, AVal.ro (Cont.ints IntKind.i64 ws) m (1 : Nat)], ver := (0 : Nat) }]) else none else none else none else none else none else none else none else none else none else none else none else none else none else none) := by kernel_rfl
theorem run : ∀ args H v new, R args H = some (true, v, new) → ∃ fuel, runFn Try.prog (orc [⟨69, ones.R⟩, ⟨70, factorial.R⟩, ⟨64, wMore.R⟩]) hd0 dr none fuel (bodyOf Try.f68) 29 [] args H = some (v, new) := by
  intro args H v new h
  unfold R at h
  split at h
  · rename_i k q os i p ws m
    simp only [Option.some.injEq, Prod.mk.injEq, Bool.and_eq_true, decide_eq_true_eq] at h
    obtain ⟨⟨⟨rfl, h2, h3, h4, h5, rfl, h7, h8, h9, h10⟩, ho, hs⟩, rfl, rfl⟩ := h
    have hs2 := hs
    obtain ⟨p, rfl, hp, hw, h0, v⟩ := wo.valid hs2
    have h64 := wo.pow_le hp.2
    obtain ⟨k, rfl⟩ : ∃ q : Nat, k = q := ⟨k.toNat, by omega⟩
    obtain ⟨i, rfl⟩ : ∃ q : Nat, i = q := ⟨i.toNat, by omega⟩
    rw [Int.toNat_natCast, Int.toNat_natCast] at ho
    have hb := wo.mo_in v k i
    rw [Int.toNat_natCast] at h9 h10
    have hc := wo.cnt_lt p (by omega) k (by omega) i (by omega) ho
    have ht := wo.term_in v (p := p) (k := k) (i := i) hp.2
    have hco := wo.coef_in (p := p) (k := k) hp.2
    have e1 : IntKind.u64.wrap ((k : Nat) : Int) = ((k : Nat) : Int) := wo.u64_nat k (by omega)
    have e2 : ((p : Nat) : Int) - 1 = ((p - 1 : Nat) : Int) := by omega
    have e3 : ((p - 1 : Nat) : Int) - ((wo.cnt.sv k : Nat) : Int) = ((p - 1 - wo.cnt.sv k : Nat) : Int) := by omega
    refine ⟨0, ?_⟩
    rw [go]
    simp -implicitDefEqProofs (disch := omega) only [hs, e1, e2, e3, take_one, set_one, decide_eq_true, decide_eq_false, IntWalk.i64_in, beqT, beqF, bneT, bneF, nat_succ, ← Int.natCast_mul, ← Int.natCast_add, Int.toNat_natCast, Int.zero_mul, Int.zero_add, Int.add_zero, Nat.zero_add, Nat.add_zero, Nat.zero_mul, List.length_singleton, List.length_append, List.length_nil, List.length_cons, List.take_length, List.drop_zero, List.replicate_zero, List.take_nil, List.nil_append, Nat.reduceBEq, Nat.reduceMul, Nat.reduceLeDiff, eq_self, and_self, true_and, and_true, decide_true, decide_false, Bool.and_self, Bool.or_self, Bool.and_true, Bool.true_and, Bool.and_false, Bool.false_and, Bool.or_true, Bool.true_or, Bool.or_false, Bool.false_or, Bool.not_true, Bool.not_false, cond_true, cond_false]
    try rfl
  · cases h
theorem ok : EntWOk Try.prog ⟨68, R⟩ :=
  entw_ok mixed (A := (orc [⟨69, ones.R⟩, ⟨70, factorial.R⟩, ⟨64, wMore.R⟩])) (orc_ok (by simp only [List.mem_cons, List.not_mem_nil, or_false, forall_eq_or_imp, forall_eq]; exact ⟨ones.ok, factorial.ok, wMore.ok⟩)) Try.func68 (by kernel_rfl) (by kernel_rfl) (n := 29) (ts := []) (hd := hd0) (dr := dr) (cut := none) (by kernel_rfl) (by kernel_rfl) (by kernel_rfl) run
end cloShares




end Go.Proofs.Ytekadpddilfolaa.Ab
