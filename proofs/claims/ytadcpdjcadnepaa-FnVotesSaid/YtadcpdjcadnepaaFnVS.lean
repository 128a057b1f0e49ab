/-
  Functions: votes, runways, least winners, vetoes.
-/
import Derived.Test.YtadcpdjcadnepaaFnVR
namespace Go.Proofs.Ytadcpdjcadnepaa.Ab
open Go
set_option linter.unusedVariables false
set_option linter.unusedSimpArgs false
set_option maxRecDepth 100000

theorem fs.cq_get {n i : Nat} (h : i < n) : gz (cq.sv n) i = (i : Int) := by rw [gz_eq (by rw [cq.sv_length]; exact h)]; simp [cq.sv]

namespace iVoteWorths
def R : List AVal → Option (Bool × AVal × List Blk)
  | [.int .i64 q, .ro (.ints .i64 xs) m 1] => some (decide (m = xs.length ∧ 1 ≤ m ∧ m ≤ 6 ∧ 1 ≤ q ∧ q ≤ vo.tot.sv xs xs.length) && (xs.all fun x => decide (0 ≤ x) && decide (x ≤ 1000)), .tup [.agg [.int .i64 (m : Nat), .own 0 0 (2 ^ m) 0 1], .bool true], [⟨.typ (.ints .i64 (fs.ls.sv (vo.w.sv q xs) (2 ^ m))), 0⟩])
  | _ => none
theorem go (xs : List Int) (q : Int) :
  runFn Try.prog (orc [⟨66, areMany.R⟩, ⟨59, sumS.R⟩, ⟨65, within.R⟩, ⟨99, madeVote.R⟩]) hd0 Dr.std none 0 (bodyOf Try.f43) 23 [.cell 4 41, 5] [.int .i64 q, .ro (.ints .i64 xs) xs.length 1] []
  = (bif true && true then bif decide (xs.length ≤ xs.length ∧ xs.length ≤ (4611686018427387904 : Nat)) && (true && true || true && true) then bif !(decide ((1 : Int) ≤ (↑xs.length : Int)) && decide ((↑xs.length : Int) ≤ (6 : Int)) && (List.take xs.length xs).all fun x => decide ((0 : Int) ≤ x) && decide (x ≤ (1000 : Int))) then some (AVal.tup [AVal.agg [AVal.int IntKind.i64 (0 : Int), AVal.nils], AVal.bool false], [{ c := BC.cells [AVal.int IntKind.i64 q], ver := (0 : Nat) }, { c := BC.cells [AVal.ro (Cont.ints IntKind.i64 xs) xs.length (1 : Nat)], ver := (0 : Nat) }, { c := BC.cells [AVal.int IntKind.i64 (0 : Int), AVal.nils], ver := (0 : Nat) }]) else bif true && true then bif true && true then bif (decide (xs.length = xs.length ∧ xs.length ≤ (100 : Nat)) && xs.all fun x => decide ((-1000000000000000 : Int) ≤ x) && decide (x ≤ (1000000000000000 : Int))) && (true && true || true && true) then bif true && (true && (true && (true && true)) || true && true) then bif !(decide ((1 : Int) ≤ q) && decide (q ≤ wo.ss.sv xs xs.length)) then some (AVal.tup [AVal.agg [AVal.int IntKind.i64 (0 : Int), AVal.nils], AVal.bool false], [{ c := BC.cells [AVal.int IntKind.i64 q], ver := (0 : Nat) }, { c := BC.cells [AVal.ro (Cont.ints IntKind.i64 xs) xs.length (1 : Nat)], ver := (0 : Nat) }, { c := BC.cells [AVal.int IntKind.i64 (0 : Int), AVal.nils], ver := (0 : Nat) }]) else bif true && true then bif decide ((1 : Int) ≤ (↑xs.length : Int) ∧ (↑xs.length : Int) ≤ (6 : Int) ∧ (100 : Nat) = (100 : FuncId) ∧ xs.length = xs.length ∧ xs.length ≤ (6 : Nat)) && ((xs.all fun x => decide ((0 : Int) ≤ x) && decide (x ≤ (1000 : Int))) && wo.sp (↑xs.length : Int) (fs.ls.sv (vo.w.sv q xs) ((2 : Nat) ^ (↑xs.length : Int).toNat))) && (true && false || true && (true && true) && true && (true && true)) then bif true && true && (true && true && true) && true then some (AVal.tup [AVal.agg [AVal.int IntKind.i64 (↑xs.length : Int), AVal.own ((2 : Nat) + (1 : Nat) + (0 : Nat)) (0 : Nat) ((2 : Nat) ^ (↑xs.length : Int).toNat) (0 : Nat) (1 : Nat)], AVal.bool true], [{ c := BC.cells [AVal.int IntKind.i64 q], ver := (0 : Nat) }, { c := BC.cells [AVal.ro (Cont.ints IntKind.i64 xs) xs.length (1 : Nat)], ver := (0 : Nat) }, { c := BC.cells [AVal.int IntKind.i64 (↑xs.length : Int), AVal.own ((2 : Nat) + (1 : Nat) + (0 : Nat)) (0 : Nat) ((2 : Nat) ^ (↑xs.length : Int).toNat) (0 : Nat) (1 : Nat)], ver := (0 : Nat) }, { c := BC.typ (Cont.ints IntKind.i64 (fs.ls.sv (vo.w.sv q xs) ((2 : Nat) ^ (↑xs.length : Int).toNat))), ver := (0 : Nat) }]) else none else none else none else none else none else none else none else none else none) := by kernel_rfl
theorem run : ∀ args v new, R args = some (true, v, new) → ∃ fuel, regc [3] (runFn Try.prog (orc [⟨66, areMany.R⟩, ⟨59, sumS.R⟩, ⟨65, within.R⟩, ⟨99, madeVote.R⟩]) hd0 Dr.std none fuel (bodyOf Try.f43) 23 [.cell 4 41, 5] args []) = some (v, new) := by
  intro args v new h
  unfold R at h
  split at h
  · rename_i q xs m
    simp only [Option.some.injEq, Prod.mk.injEq, Bool.and_eq_true, decide_eq_true_eq] at h
    obtain ⟨⟨⟨rfl, h1, h2, h3, h4⟩, hx⟩, rfl, rfl⟩ := h
    have hx2 : ∀ x ∈ xs, 0 ≤ x ∧ x ≤ 1000 := by simpa only [List.all_eq_true, Bool.and_eq_true, decide_eq_true_eq] using hx
    have hx3 : (xs.all fun x => decide (-1000000000000000 ≤ x) && decide (x ≤ 1000000000000000)) = true := by
      simp only [List.all_eq_true, Bool.and_eq_true, decide_eq_true_eq]
      intro x hm; have := hx2 x hm; omega
    have hs : wo.sp ((xs.length : Nat) : Int) (fs.ls.sv (vo.w.sv q xs) (2 ^ xs.length)) = true := fs.ls_sp h1 h2 (by
      rcases vo.w_in q xs 0 with e | e
      · exact e
      · rw [vo.w_one, vo.wg_zero] at e; omega) fun k _ => by rcases vo.w_in q xs k with e | e <;> rw [e] <;> omega
    have ht := vo.ss_tot xs xs.length
    refine ⟨0, ?_⟩
    rw [go]
    simp -implicitDefEqProofs (disch := omega) only [hx, hx3, hs, ht, take_one, set_one, decide_eq_true, decide_eq_false, IntWalk.i64_in, beqT, beqF, bneT, bneF, nat_succ, ← Int.natCast_mul, ← Int.natCast_add, Int.toNat_natCast, Int.zero_mul, Int.zero_add, Int.add_zero, Nat.zero_add, Nat.add_zero, Nat.zero_mul, List.length_singleton, List.length_append, List.length_nil, List.length_cons, List.take_length, List.drop_zero, List.replicate_zero, List.take_nil, List.nil_append, Nat.reduceBEq, Nat.reduceMul, Nat.reduceLeDiff, eq_self, and_self, true_and, and_true, decide_true, decide_false, Bool.and_self, Bool.or_self, Bool.and_true, Bool.true_and, Bool.and_false, Bool.false_and, Bool.or_true, Bool.true_or, Bool.or_false, Bool.false_or, Bool.not_true, Bool.not_false, cond_true, cond_false]
    rfl
  · cases h
theorem ok : EntOk Try.prog ⟨43, R⟩ :=
  ent_okAG (ks := [3]) mixed (A := (orc [⟨66, areMany.R⟩, ⟨59, sumS.R⟩, ⟨65, within.R⟩, ⟨99, madeVote.R⟩])) (orc_ok (by simp only [List.mem_cons, List.not_mem_nil, or_false, forall_eq_or_imp, forall_eq]; exact ⟨areMany.ok, sumS.ok, within.ok, madeVote.ok⟩)) Try.func43 (by kernel_rfl) (by kernel_rfl) (n := 23) (ts := [.cell 4 41, 5]) (hd := hd0) (dr := Dr.std) (cut := none) (by kernel_rfl) (by kernel_rfl) (by kernel_rfl) run
end iVoteWorths

namespace iRunwayWorths
def R : List AVal → Option (Bool × AVal × List Blk)
  | [.ro (.ints .i64 xs) m 1] => some (decide (m = xs.length ∧ 1 ≤ m ∧ m ≤ 6) && (xs.all fun x => decide (0 ≤ x) && decide (x ≤ 10000)), .tup [.agg [.int .i64 (m : Nat), .own 0 0 (2 ^ m) 0 1], .bool true], [⟨.typ (.ints .i64 (fs.ls.sv (vo.m.sv xs) (2 ^ m))), 0⟩])
  | _ => none
theorem go (xs : List Int) :
  runFn Try.prog (orc [⟨66, areMany.R⟩, ⟨99, madeRun.R⟩]) hd0 Dr.std none 0 (bodyOf Try.f48) 14 [.cell 2 41, 3] [.ro (.ints .i64 xs) xs.length 1] []
  = (bif true && true then bif decide (xs.length ≤ xs.length ∧ xs.length ≤ (4611686018427387904 : Nat)) && (true && true || true && true) then bif !(decide ((1 : Int) ≤ (↑xs.length : Int)) && decide ((↑xs.length : Int) ≤ (6 : Int)) && (List.take xs.length xs).all fun x => decide ((0 : Int) ≤ x) && decide (x ≤ (10000 : Int))) then some (AVal.tup [AVal.agg [AVal.int IntKind.i64 (0 : Int), AVal.nils], AVal.bool false], [{ c := BC.cells [AVal.ro (Cont.ints IntKind.i64 xs) xs.length (1 : Nat)], ver := (0 : Nat) }, { c := BC.cells [AVal.int IntKind.i64 (0 : Int), AVal.nils], ver := (0 : Nat) }]) else bif true && true then bif decide ((1 : Int) ≤ (↑xs.length : Int) ∧ (↑xs.length : Int) ≤ (6 : Int) ∧ (106 : Nat) = (106 : FuncId) ∧ xs.length = xs.length ∧ xs.length ≤ (6 : Nat)) && ((xs.all fun x => decide ((0 : Int) ≤ x) && decide (x ≤ (10000 : Int))) && wo.sp (↑xs.length : Int) (fs.ls.sv (vo.m.sv xs) ((2 : Nat) ^ (↑xs.length : Int).toNat))) && (true && false || true && (true && true) && true && (true && true)) then bif true && true && (true && true && true) && true then some (AVal.tup [AVal.agg [AVal.int IntKind.i64 (↑xs.length : Int), AVal.own (2 : Nat) (0 : Nat) ((2 : Nat) ^ (↑xs.length : Int).toNat) (0 : Nat) (1 : Nat)], AVal.bool true], [{ c := BC.cells [AVal.ro (Cont.ints IntKind.i64 xs) xs.length (1 : Nat)], ver := (0 : Nat) }, { c := BC.cells [AVal.int IntKind.i64 (↑xs.length : Int), AVal.own (2 : Nat) (0 : Nat) ((2 : Nat) ^ (↑xs.length : Int).toNat) (0 : Nat) (1 : Nat)], ver := (0 : Nat) }, { c := BC.typ (Cont.ints IntKind.i64 (fs.ls.sv (vo.m.sv xs) ((2 : Nat) ^ (↑xs.length : Int).toNat))), ver := (0 : Nat) }]) else none else none else none else none else none) := by kernel_rfl
theorem run : ∀ args v new, R args = some (true, v, new) → ∃ fuel, regc [2] (runFn Try.prog (orc [⟨66, areMany.R⟩, ⟨99, madeRun.R⟩]) hd0 Dr.std none fuel (bodyOf Try.f48) 14 [.cell 2 41, 3] args []) = some (v, new) := by
  intro args v new h
  unfold R at h
  split at h
  · rename_i xs m
    simp only [Option.some.injEq, Prod.mk.injEq, Bool.and_eq_true, decide_eq_true_eq] at h
    obtain ⟨⟨⟨rfl, h1, h2⟩, hx⟩, rfl, rfl⟩ := h
    have hx2 : ∀ x ∈ xs, 0 ≤ x ∧ x ≤ 10000 := by simpa only [List.all_eq_true, Bool.and_eq_true, decide_eq_true_eq] using hx
    have hs : wo.sp ((xs.length : Nat) : Int) (fs.ls.sv (vo.m.sv xs) (2 ^ xs.length)) = true := fs.ls_sp h1 h2 (vo.mx_zero xs _) fun k _ => by
      have := vo.mx_in hx2 k xs.length
      rw [vo.m.sv]; omega
    refine ⟨0, ?_⟩
    rw [go]
    simp -implicitDefEqProofs (disch := omega) only [hx, hs, take_one, set_one, decide_eq_true, decide_eq_false, IntWalk.i64_in, beqT, beqF, bneT, bneF, nat_succ, ← Int.natCast_mul, ← Int.natCast_add, Int.toNat_natCast, Int.zero_mul, Int.zero_add, Int.add_zero, Nat.zero_add, Nat.add_zero, Nat.zero_mul, List.length_singleton, List.length_append, List.length_nil, List.length_cons, List.take_length, List.drop_zero, List.replicate_zero, List.take_nil, List.nil_append, Nat.reduceBEq, Nat.reduceMul, Nat.reduceLeDiff, eq_self, and_self, true_and, and_true, decide_true, decide_false, Bool.and_self, Bool.or_self, Bool.and_true, Bool.true_and, Bool.and_false, Bool.false_and, Bool.or_true, Bool.true_or, Bool.or_false, Bool.false_or, Bool.not_true, Bool.not_false, cond_true, cond_false]
    rfl
  · cases h
theorem ok : EntOk Try.prog ⟨48, R⟩ :=
  ent_okAG (ks := [2]) mixed (A := (orc [⟨66, areMany.R⟩, ⟨99, madeRun.R⟩])) (orc_ok (by simp only [List.mem_cons, List.not_mem_nil, or_false, forall_eq_or_imp, forall_eq]; exact ⟨areMany.ok, madeRun.ok⟩)) Try.func48 (by kernel_rfl) (by kernel_rfl) (n := 14) (ts := [.cell 2 41, 3]) (hd := hd0) (dr := Dr.std) (cut := none) (by kernel_rfl) (by kernel_rfl) (by kernel_rfl) run
end iRunwayWorths

namespace wAllN
def R : List AVal → Option (Bool × AVal × List Blk)
  | [.agg [.int .i64 p, .ro (.ints .i64 ws) m 1]] => some (decide (m = ws.length ∧ m ≤ 64 ∧ 1 ≤ m), .int .i64 ((m : Nat) - 1 : Int), [])
  | _ => none
theorem go (p : Int) (ws : List Int) :
  runFn Try.prog (orc []) hd0 Dr.std none 0 (bodyOf Try.f105) 7 [2] [.agg [.int .i64 p, .ro (.ints .i64 ws) ws.length 1]] []
  = (bif true && true then some (AVal.int IntKind.i64 (IntKind.i64.wrap ((↑ws.length : Int) - (1 : Int))), [{ c := BC.cells [AVal.int IntKind.i64 p, AVal.ro (Cont.ints IntKind.i64 ws) ws.length (1 : Nat)], ver := (0 : Nat) }]) else none) := by kernel_rfl
theorem run : ∀ args v new, R args = some (true, v, new) → ∃ fuel, regc [] (runFn Try.prog (orc []) hd0 Dr.std none fuel (bodyOf Try.f105) 7 [2] args []) = some (v, new) := by
  intro args v new h
  unfold R at h
  split at h
  · rename_i p ws m
    simp only [Option.some.injEq, Prod.mk.injEq, decide_eq_true_eq] at h
    obtain ⟨⟨rfl, h1, h2⟩, rfl, rfl⟩ := h
    refine ⟨0, ?_⟩
    rw [go]
    simp -implicitDefEqProofs (disch := omega) only [take_one, set_one, decide_eq_true, decide_eq_false, IntWalk.i64_in, beqT, beqF, bneT, bneF, nat_succ, ← Int.natCast_mul, ← Int.natCast_add, Int.toNat_natCast, Int.zero_mul, Int.zero_add, Int.add_zero, Nat.zero_add, Nat.add_zero, Nat.zero_mul, List.length_singleton, List.length_append, List.length_nil, List.length_cons, List.take_length, List.drop_zero, List.replicate_zero, List.take_nil, List.nil_append, Nat.reduceBEq, Nat.reduceMul, Nat.reduceLeDiff, eq_self, and_self, true_and, and_true, decide_true, decide_false, Bool.and_self, Bool.or_self, Bool.and_true, Bool.true_and, Bool.and_false, Bool.false_and, Bool.or_true, Bool.true_or, Bool.or_false, Bool.false_or, Bool.not_true, Bool.not_false, cond_true, cond_false]
    rfl
  · cases h
theorem ok : EntOk Try.prog ⟨105, R⟩ :=
  ent_okAG (ks := []) mixed (A := (orc [])) (orc_ok (by simp)) Try.func105 (by kernel_rfl) (by kernel_rfl) (n := 7) (ts := [2]) (hd := hd0) (dr := Dr.std) (cut := none) (by kernel_rfl) (by kernel_rfl) (by kernel_rfl) run
end wAllN

namespace areVotes
def R : List AVal → Option (Bool × AVal × List Blk)
  | [.agg [.int .i64 p, .ro (.ints .i64 ws) m 1]] => some (decide (m = ws.length) && (wo.sp p ws && ((ws.all fun x => decide (0 ≤ x) && decide (x ≤ 1)) && (gz ws (ws.length - 1) == 1))), .bool true, [])
  | _ => none
theorem go (p : Int) (ws : List Int) :
  runFn Try.prog (orc [⟨72, iValidWorths.R⟩, ⟨120, areWithin.R⟩, ⟨105, wAllN.R⟩]) hd0 Dr.std none 0 (bodyOf Try.f102) 19 [2] [.agg [.int .i64 p, .ro (.ints .i64 ws) ws.length 1]] []
  = (bif true && true && (true && true && true) then bif decide (ws.length = ws.length) && wo.sp p ws && (true && (true && true) && true || true && true) then bif true && true then bif decide (ws.length ≤ ws.length ∧ ws.length ≤ (4611686018427387904 : Nat)) && (true && true || true && true) then bif (List.take ws.length ws).all fun x => decide ((0 : Int) ≤ x) && decide (x ≤ (1 : Int)) then bif true && true then bif true && true && (true && true && true) then bif decide (ws.length = ws.length ∧ ws.length ≤ (64 : Nat) ∧ (1 : Nat) ≤ ws.length) && (true && (true && true) && true || true && true) then bif true && (decide ((0 : Int) ≤ (↑ws.length : Int) - (1 : Int)) && decide ((↑ws.length : Int) - (1 : Int) < (↑ws.length : Int))) then bif decide (((↑ws.length : Int) - (1 : Int)).toNat < ws.length) then some (AVal.bool (gz ws ((↑ws.length : Int) - (1 : Int)).toNat == (1 : Int)), [{ c := BC.cells [AVal.int IntKind.i64 p, AVal.ro (Cont.ints IntKind.i64 ws) ws.length (1 : Nat)], ver := (0 : Nat) }]) else none else none else none else none else none else some (AVal.bool false, [{ c := BC.cells [AVal.int IntKind.i64 p, AVal.ro (Cont.ints IntKind.i64 ws) ws.length (1 : Nat)], ver := (0 : Nat) }]) else none else none else none else none) := by kernel_rfl
theorem run : ∀ args v new, R args = some (true, v, new) → ∃ fuel, regc [] (runFn Try.prog (orc [⟨72, iValidWorths.R⟩, ⟨120, areWithin.R⟩, ⟨105, wAllN.R⟩]) hd0 Dr.std none fuel (bodyOf Try.f102) 19 [2] args []) = some (v, new) := by
  intro args v new h
  unfold R at h
  split at h
  · rename_i p ws m
    simp only [Option.some.injEq, Prod.mk.injEq, Bool.and_eq_true, decide_eq_true_eq, beq_iff_eq] at h
    obtain ⟨⟨⟨rfl⟩, hs, hb, ha⟩, rfl, rfl⟩ := h
    have hs2 := hs
    obtain ⟨p, rfl, hp, hw, h0, v⟩ := wo.valid hs2
    have h64 := wo.pow_le hp.2
    have h1p := wo.pow_pos p
    have e : (((ws.length : Nat) : Int) - 1).toNat = ws.length - 1 := by omega
    refine ⟨0, ?_⟩
    rw [go]
    simp -implicitDefEqProofs (disch := omega) only [hs, hb, ha, e, beq_self_eq_true, take_one, set_one, decide_eq_true, decide_eq_false, IntWalk.i64_in, beqT, beqF, bneT, bneF, nat_succ, ← Int.natCast_mul, ← Int.natCast_add, Int.toNat_natCast, Int.zero_mul, Int.zero_add, Int.add_zero, Nat.zero_add, Nat.add_zero, Nat.zero_mul, List.length_singleton, List.length_append, List.length_nil, List.length_cons, List.take_length, List.drop_zero, List.replicate_zero, List.take_nil, List.nil_append, Nat.reduceBEq, Nat.reduceMul, Nat.reduceLeDiff, eq_self, and_self, true_and, and_true, decide_true, decide_false, Bool.and_self, Bool.or_self, Bool.and_true, Bool.true_and, Bool.and_false, Bool.false_and, Bool.or_true, Bool.true_or, Bool.or_false, Bool.false_or, Bool.not_true, Bool.not_false, cond_true, cond_false]
    rfl
  · cases h
theorem ok : EntOk Try.prog ⟨102, R⟩ :=
  ent_okAG (ks := []) mixed (A := (orc [⟨72, iValidWorths.R⟩, ⟨120, areWithin.R⟩, ⟨105, wAllN.R⟩])) (orc_ok (by simp only [List.mem_cons, List.not_mem_nil, or_false, forall_eq_or_imp, forall_eq]; exact ⟨iValidWorths.ok, areWithin.ok, wAllN.ok⟩)) Try.func102 (by kernel_rfl) (by kernel_rfl) (n := 19) (ts := [2]) (hd := hd0) (dr := Dr.std) (cut := none) (by kernel_rfl) (by kernel_rfl) (by kernel_rfl) run
end areVotes

namespace cloLeast
def R : List AVal → Option (Bool × AVal × List Blk)
  | [.int .i64 i, .rom [.int .i64 s] 0, .rom [.int .i64 p, .ro (.ints .i64 ws) m 1] 0] => some (decide (m = ws.length ∧ 0 ≤ i ∧ i < p ∧ 0 ≤ s ∧ s < ws.length) && wo.sp p ws, .bool (vo.le.sp ws s.toNat i.toNat), [])
  | _ => none
theorem go (i s p : Int) (ws : List Int) :
  runFn Try.prog (orc []) hd0 Dr.std none 0 (bodyOf Try.f104) 21 [4] [.int .i64 i, .rom [.int .i64 s] 0, .rom [.int .i64 p, .ro (.ints .i64 ws) ws.length 1] 0] []
  = (bif decide ((0 : Int) ≤ i) then bif iand.sv IntKind.i64 (ishr.sv IntKind.i64 s i) (1 : Int) == (1 : Int) then bif decide ((0 : Int) ≤ i) then bif true && (decide ((0 : Int) ≤ iandn.sv IntKind.i64 s (ishl.sv IntKind.i64 (1 : Int) i)) && decide (iandn.sv IntKind.i64 s (ishl.sv IntKind.i64 (1 : Int) i) < (↑ws.length : Int))) then bif decide ((iandn.sv IntKind.i64 s (ishl.sv IntKind.i64 (1 : Int) i)).toNat < ws.length) then some (AVal.bool (gz ws (iandn.sv IntKind.i64 s (ishl.sv IntKind.i64 (1 : Int) i)).toNat == (1 : Int)), []) else none else none else none else some (AVal.bool false, []) else none) := by kernel_rfl
theorem run : ∀ args v new, R args = some (true, v, new) → ∃ fuel, runFn Try.prog (orc []) hd0 Dr.std none fuel (bodyOf Try.f104) 21 [4] args [] = some (v, new) := by
  intro args v new h
  unfold R at h
  split at h
  · rename_i i s p ws m
    simp only [Option.some.injEq, Prod.mk.injEq, Bool.and_eq_true, decide_eq_true_eq] at h
    obtain ⟨⟨⟨rfl, h1, h2, h3, h4⟩, hs⟩, rfl, rfl⟩ := h
    have hs2 := hs
    obtain ⟨p, rfl, hp, hw, h0, v⟩ := wo.valid hs2
    have h64 := wo.pow_le hp.2
    obtain ⟨s, rfl⟩ : ∃ q : Nat, s = q := ⟨s.toNat, by omega⟩
    obtain ⟨i, rfl⟩ : ∃ q : Nat, i = q := ⟨i.toNat, by omega⟩
    have s2 := wo.shl_one i (by omega)
    refine ⟨0, ?_⟩
    rw [go, Int.toNat_natCast, Int.toNat_natCast, vo.le.sp]
    cases ho : wo.off.sp s i with
    | false =>
      have s1 := vo.shr_f (by omega) (by omega) ho
      have s3 := vo.iandn s (by omega) i (by omega) ho
      have hd := vo.dn_lt ho
      simp -implicitDefEqProofs (disch := omega) only [s1, s2, s3, take_one, set_one, decide_eq_true, decide_eq_false, IntWalk.i64_in, beqT, beqF, bneT, bneF, nat_succ, ← Int.natCast_mul, ← Int.natCast_add, Int.toNat_natCast, Int.zero_mul, Int.zero_add, Int.add_zero, Nat.zero_add, Nat.add_zero, Nat.zero_mul, List.length_singleton, List.length_append, List.length_nil, List.length_cons, List.take_length, List.drop_zero, List.replicate_zero, List.take_nil, List.nil_append, Nat.reduceBEq, Nat.reduceMul, Nat.reduceLeDiff, eq_self, and_self, true_and, and_true, decide_true, decide_false, Bool.and_self, Bool.or_self, Bool.and_true, Bool.true_and, Bool.and_false, Bool.false_and, Bool.or_true, Bool.true_or, Bool.or_false, Bool.false_or, Bool.not_true, Bool.not_false, cond_true, cond_false]
      try rfl
    | true =>
      have s1 := vo.shr_t (by omega) (by omega) ho
      simp -implicitDefEqProofs (disch := omega) only [s1, s2, take_one, set_one, decide_eq_true, decide_eq_false, IntWalk.i64_in, beqT, beqF, bneT, bneF, nat_succ, ← Int.natCast_mul, ← Int.natCast_add, Int.toNat_natCast, Int.zero_mul, Int.zero_add, Int.add_zero, Nat.zero_add, Nat.add_zero, Nat.zero_mul, List.length_singleton, List.length_append, List.length_nil, List.length_cons, List.take_length, List.drop_zero, List.replicate_zero, List.take_nil, List.nil_append, Nat.reduceBEq, Nat.reduceMul, Nat.reduceLeDiff, eq_self, and_self, true_and, and_true, decide_true, decide_false, Bool.and_self, Bool.or_self, Bool.and_true, Bool.true_and, Bool.and_false, Bool.false_and, Bool.or_true, Bool.true_or, Bool.or_false, Bool.false_or, Bool.not_true, Bool.not_false, cond_true, cond_false]
      try rfl
  · cases h
theorem ok : EntOk Try.prog ⟨104, R⟩ :=
  ent_okA mixed (A := (orc [])) (orc_ok (by simp)) Try.func104 (by kernel_rfl) (by kernel_rfl) (n := 21) (ts := [4]) (hd := hd0) (dr := Dr.std) (cut := none) (by kernel_rfl) (by kernel_rfl) (by kernel_rfl) run
end cloLeast

namespace idxLeast
def R : List AVal → Option (Bool × AVal × List Blk)
  | [.ro (.ints .i64 zs) m0 1, .fn ff [.rom [.int .i64 s] 0, .rom [.int .i64 p, .ro (.ints .i64 ws) m 1] 0]] => some (decide (m0 = (p : Int) ∧ zs = cq.sv m0 ∧ m = ws.length ∧ 0 ≤ s ∧ s < ws.length ∧ ff = 104) && wo.sp p ws, .int .i64 (fs.fi.sv (vo.le.sp ws s.toNat) m0 0), [])
  | _ => none
def hd : Nat → Head := fun _ => ⟨[0, 1, 4, 7, 8], none⟩
noncomputable def L (f n : Nat) (s : State) := loopAt Try.prog (orc [⟨104, cloLeast.R⟩]) hd Dr.std 0 f (bodyOf Try.f90) 0 [true, false, true] (retK Try.prog [4] 0 none) n s
theorem start (zs : List Int) (m : Nat) (s p : Int) (ws : List Int) (f : Nat) :
  runFn Try.prog (orc [⟨104, cloLeast.R⟩]) hd Dr.std none f (bodyOf Try.f90) 19 [4] [.ro (.ints .i64 zs) m 1, .fn 104 [.rom [.int .i64 s] 0, .rom [.int .i64 p, .ro (.ints .i64 ws) ws.length 1] 0]] []
  = (L f f (mkS (19 : Nat) [((0 : Nat), AVal.ro (Cont.ints IntKind.i64 zs) m (1 : Nat)), ((1 : Nat), AVal.fn (104 : Nat) [AVal.rom [AVal.int IntKind.i64 s] (0 : Nat), AVal.rom [AVal.int IntKind.i64 p, AVal.ro (Cont.ints IntKind.i64 ws) ws.length (1 : Nat)] (0 : Nat)]), ((4 : Nat), AVal.int IntKind.i64 (0 : Int)), ((7 : Nat), AVal.int IntKind.i64 (↑m : Int)), ((8 : Nat), AVal.int IntKind.i64 (0 : Int))] [])) := by kernel_rfl
theorem round (zs : List Int) (m : Nat) (s p l i : Int) (ws : List Int) (f n : Nat) :
  L f (n + 1) (mkS 19 [(0, .ro (.ints .i64 zs) m 1), (1, .fn 104 [.rom [.int .i64 s] 0, .rom [.int .i64 p, .ro (.ints .i64 ws) ws.length 1] 0]), (4, .int .i64 0), (7, .int .i64 l), (8, .int .i64 i)] [])
  = (bif decide (i < l) then bif true && (decide ((0 : Int) ≤ i) && decide (i < (↑m : Int))) then bif decide (i.toNat < zs.length) then bif decide (ws.length = ws.length ∧ (0 : Int) ≤ gz zs i.toNat ∧ gz zs i.toNat < p ∧ (0 : Int) ≤ s ∧ s < (↑ws.length : Int)) && wo.sp p ws && (true && (true && true && (true && (true && true) && true)) || true && true) then bif vo.le.sp ws s.toNat (gz zs i.toNat).toNat then some (AVal.int IntKind.i64 i, []) else L f n (mkS (19 : Nat) [((0 : Nat), AVal.ro (Cont.ints IntKind.i64 zs) m (1 : Nat)), ((1 : Nat), AVal.fn (104 : Nat) [AVal.rom [AVal.int IntKind.i64 s] (0 : Nat), AVal.rom [AVal.int IntKind.i64 p, AVal.ro (Cont.ints IntKind.i64 ws) ws.length (1 : Nat)] (0 : Nat)]), ((4 : Nat), AVal.int IntKind.i64 (0 : Int)), ((7 : Nat), AVal.int IntKind.i64 l), ((8 : Nat), AVal.int IntKind.i64 (IntKind.i64.wrap (i + (1 : Int))))] []) else none else none else none else some (AVal.int IntKind.i64 (-1 : Int), [])) := by kernel_rfl
theorem loop (m s p : Nat) (ws : List Int) (f : Nat) (hm : m = p) (hs : wo.sp (p : Int) ws = true) (hp : 1 ≤ p ∧ p ≤ 6) (hk : s < ws.length) : ∀ (d i n : Nat), i + d = m → d < n →
    L f n (mkS 19 [(0, .ro (.ints .i64 (cq.sv m)) m 1), (1, .fn 104 [.rom [.int .i64 ((s : Nat) : Int)] 0, .rom [.int .i64 ((p : Nat) : Int), .ro (.ints .i64 ws) ws.length 1] 0]), (4, .int .i64 0), (7, .int .i64 ((m : Nat) : Int)), (8, .int .i64 ((i : Nat) : Int))] []) = some (.int .i64 (fs.fi.sv (vo.le.sp ws s) d i), []) := by
  have hc := cq.sv_length m
  intro d
  induction d with
  | zero =>
    intro i n hi hn
    obtain ⟨n, rfl⟩ : ∃ k, n = k + 1 := ⟨n - 1, by omega⟩
    obtain rfl : i = m := by omega
    rw [round, fs.fi.sv]
    simp -implicitDefEqProofs (disch := omega) only [take_one, set_one, decide_eq_true, decide_eq_false, IntWalk.i64_in, beqT, beqF, bneT, bneF, nat_succ, ← Int.natCast_mul, ← Int.natCast_add, Int.toNat_natCast, Int.zero_mul, Int.zero_add, Int.add_zero, Nat.zero_add, Nat.add_zero, Nat.zero_mul, List.length_singleton, List.length_append, List.length_nil, List.length_cons, List.take_length, List.drop_zero, List.replicate_zero, List.take_nil, List.nil_append, Nat.reduceBEq, Nat.reduceMul, Nat.reduceLeDiff, eq_self, and_self, true_and, and_true, decide_true, decide_false, Bool.and_self, Bool.or_self, Bool.and_true, Bool.true_and, Bool.and_false, Bool.false_and, Bool.or_true, Bool.true_or, Bool.or_false, Bool.false_or, Bool.not_true, Bool.not_false, cond_true, cond_false]
  | succ d ih =>
    intro i n hi hn
    obtain ⟨n, rfl⟩ : ∃ k, n = k + 1 := ⟨n - 1, by omega⟩
    have g := ih (i + 1) n (by omega) (by omega)
    have hz := fs.cq_get (n := m) (i := i) (by omega)
    rw [round, fs.fi.sv]
    cases he : vo.le.sp ws s i with
    | false =>
      simp -implicitDefEqProofs (disch := omega) only [hs, hz, he, take_one, set_one, decide_eq_true, decide_eq_false, IntWalk.i64_in, beqT, beqF, bneT, bneF, nat_succ, ← Int.natCast_mul, ← Int.natCast_add, Int.toNat_natCast, Int.zero_mul, Int.zero_add, Int.add_zero, Nat.zero_add, Nat.add_zero, Nat.zero_mul, List.length_singleton, List.length_append, List.length_nil, List.length_cons, List.take_length, List.drop_zero, List.replicate_zero, List.take_nil, List.nil_append, Nat.reduceBEq, Nat.reduceMul, Nat.reduceLeDiff, eq_self, and_self, true_and, and_true, decide_true, decide_false, Bool.and_self, Bool.or_self, Bool.and_true, Bool.true_and, Bool.and_false, Bool.false_and, Bool.or_true, Bool.true_or, Bool.or_false, Bool.false_or, Bool.not_true, Bool.not_false, cond_true, cond_false]
      exact g
    | true =>
      simp -implicitDefEqProofs (disch := omega) only [hs, hz, he, take_one, set_one, decide_eq_true, decide_eq_false, IntWalk.i64_in, beqT, beqF, bneT, bneF, nat_succ, ← Int.natCast_mul, ← Int.natCast_add, Int.toNat_natCast, Int.zero_mul, Int.zero_add, Int.add_zero, Nat.zero_add, Nat.add_zero, Nat.zero_mul, List.length_singleton, List.length_append, List.length_nil, List.length_cons, List.take_length, List.drop_zero, List.replicate_zero, List.take_nil, List.nil_append, Nat.reduceBEq, Nat.reduceMul, Nat.reduceLeDiff, eq_self, and_self, true_and, and_true, decide_true, decide_false, Bool.and_self, Bool.or_self, Bool.and_true, Bool.true_and, Bool.and_false, Bool.false_and, Bool.or_true, Bool.true_or, Bool.or_false, Bool.false_or, Bool.not_true, Bool.not_false, cond_true, cond_false]
theorem run : ∀ args v new, R args = some (true, v, new) → ∃ fuel, runFn Try.prog (orc [⟨104, cloLeast.R⟩]) hd Dr.std none fuel (bodyOf Try.f90) 19 [4] args [] = some (v, new) := by
  intro args v new h
  unfold R at h
  split at h
  · rename_i zs m0 ff s p ws m
    simp only [Option.some.injEq, Prod.mk.injEq, Bool.and_eq_true, decide_eq_true_eq] at h
    obtain ⟨⟨⟨g0, rfl, rfl, h3, h4, rfl⟩, hs⟩, rfl, rfl⟩ := h
    have hs2 := hs
    obtain ⟨p, rfl, hp, hw, h0, v⟩ := wo.valid hs2
    obtain ⟨s, rfl⟩ : ∃ q : Nat, s = q := ⟨s.toNat, by omega⟩
    refine ⟨m0 + 1, ?_⟩
    have g := loop m0 s p ws (m0 + 1) (by omega) hs hp (by omega) m0 0 (m0 + 1) (by omega) (by omega)
    rw [start]
    exact g
  · cases h
theorem ok : EntOk Try.prog ⟨90, R⟩ :=
  ent_okA mixed (A := (orc [⟨104, cloLeast.R⟩])) (orc_ok (by simp only [List.mem_cons, List.not_mem_nil, or_false, forall_eq_or_imp, forall_eq]; exact cloLeast.ok)) Try.func90 (by kernel_rfl) (by kernel_rfl) (n := 19) (ts := [4]) (hd := hd) (dr := Dr.std) (cut := none) (by kernel_rfl) (by kernel_rfl) (by kernel_rfl) run
end idxLeast

namespace hasLeast
def R : List AVal → Option (Bool × AVal × List Blk)
  | [.ro (.ints .i64 zs) m0 1, .fn ff [.rom [.int .i64 s] 0, .rom [.int .i64 p, .ro (.ints .i64 ws) m 1] 0]] => some (decide (m0 = (p : Int) ∧ zs = cq.sv m0 ∧ m = ws.length ∧ 0 ≤ s ∧ s < ws.length ∧ ff = 104) && wo.sp p ws, .bool (fs.an.sp (vo.le.sp ws s.toNat) m0 0), [])
  | _ => none
theorem go (zs : List Int) (m0 : Nat) (s p : Int) (ws : List Int) :
  runFn Try.prog (orc [⟨90, idxLeast.R⟩]) hd0 Dr.std none 0 (bodyOf Try.f103) 9 [4] [.ro (.ints .i64 zs) m0 1, .fn 104 [.rom [.int .i64 s] 0, .rom [.int .i64 p, .ro (.ints .i64 ws) ws.length 1] 0]] []
  = (bif decide ((↑m0 : Int) = p ∧ zs = cq.sv m0 ∧ ws.length = ws.length ∧ (0 : Int) ≤ s ∧ s < (↑ws.length : Int) ∧ (104 : FuncId) = (104 : FuncId)) && wo.sp p ws && (true && (true && true && (true && (true && true) && true) && true) || true && true) then some (AVal.bool (decide ((0 : Int) ≤ fs.fi.sv (vo.le.sp ws s.toNat) m0 (0 : Nat))), []) else none) := by kernel_rfl
theorem run : ∀ args v new, R args = some (true, v, new) → ∃ fuel, runFn Try.prog (orc [⟨90, idxLeast.R⟩]) hd0 Dr.std none fuel (bodyOf Try.f103) 9 [4] args [] = some (v, new) := by
  intro args v new h
  unfold R at h
  split at h
  · rename_i zs m0 ff s p ws m
    simp only [Option.some.injEq, Prod.mk.injEq, Bool.and_eq_true, decide_eq_true_eq] at h
    obtain ⟨⟨⟨g0, rfl, rfl, h3, h4, rfl⟩, hs⟩, rfl, rfl⟩ := h
    refine ⟨0, ?_⟩
    rw [go]
    simp -implicitDefEqProofs (disch := omega) only [hs, fs.fi_an, take_one, set_one, decide_eq_true, decide_eq_false, IntWalk.i64_in, beqT, beqF, bneT, bneF, nat_succ, ← Int.natCast_mul, ← Int.natCast_add, Int.toNat_natCast, Int.zero_mul, Int.zero_add, Int.add_zero, Nat.zero_add, Nat.add_zero, Nat.zero_mul, List.length_singleton, List.length_append, List.length_nil, List.length_cons, List.take_length, List.drop_zero, List.replicate_zero, List.take_nil, List.nil_append, Nat.reduceBEq, Nat.reduceMul, Nat.reduceLeDiff, eq_self, and_self, true_and, and_true, decide_true, decide_false, Bool.and_self, Bool.or_self, Bool.and_true, Bool.true_and, Bool.and_false, Bool.false_and, Bool.or_true, Bool.true_or, Bool.or_false, Bool.false_or, Bool.not_true, Bool.not_false, cond_true, cond_false]
  · cases h
theorem ok : EntOk Try.prog ⟨103, R⟩ :=
  ent_okA mixed (A := (orc [⟨90, idxLeast.R⟩])) (orc_ok (by simp only [List.mem_cons, List.not_mem_nil, or_false, forall_eq_or_imp, forall_eq]; exact idxLeast.ok)) Try.func103 (by kernel_rfl) (by kernel_rfl) (n := 9) (ts := [4]) (hd := hd0) (dr := Dr.std) (cut := none) (by kernel_rfl) (by kernel_rfl) (by kernel_rfl) run
end hasLeast

namespace iLeastWinners
def R : List AVal → Option (Bool × AVal × List Blk)
  | [.agg [.int .i64 p, .ro (.ints .i64 ws) m 1]] => some (decide (m = ws.length) && (wo.sp p ws && ((ws.all fun x => decide (0 ≤ x) && decide (x ≤ 1)) && (gz ws (ws.length - 1) == 1))), .tup [.own 0 0 (vo.lw.sv p.toNat ws ws.length).length 0 1, .bool true], [⟨.typ (.ints .i64 (vo.lw.sv p.toNat ws ws.length)), 0⟩])
  | _ => none
def hd : Nat → Head := fun _ => ⟨[1, 4, 12, 13, 14, 998], none⟩
noncomputable def L (f n : Nat) (s : State) := loopAt Try.prog (orc [⟨102, areVotes.R⟩, ⟨91, counting2.R⟩, ⟨103, hasLeast.R⟩]) hd Dr.std 0 f (bodyOf Try.f44) 0 [true, true, true, false, true] (retK Try.prog [2, 3] 0 none) n s
theorem start (p : Int) (ws : List Int) (f : Nat) :
  runFn Try.prog (orc [⟨102, areVotes.R⟩, ⟨91, counting2.R⟩, ⟨103, hasLeast.R⟩]) hd Dr.std none f (bodyOf Try.f44) 35 [2, 3] [.agg [.int .i64 p, .ro (.ints .i64 ws) ws.length 1]] []
  = (bif true && true && (true && true && true) then bif decide (ws.length = ws.length) && (wo.sp p ws && ((ws.all fun x => decide ((0 : Int) ≤ x) && decide (x ≤ (1 : Int))) && gz ws (ws.length - (1 : Nat)) == (1 : Int))) && (true && (true && true) && true || true && true) then bif true && true then L f f (mkS (35 : Nat) [((1 : Nat), AVal.ptr (0 : Nat) (0 : Nat) (0 : Nat)), ((4 : Nat), AVal.own (1 : Nat) (0 : Nat) (0 : Nat) (0 : Nat) (1 : Nat)), ((12 : Nat), AVal.ro (Cont.ints IntKind.i64 ws) ws.length (1 : Nat)), ((13 : Nat), AVal.int IntKind.i64 (↑ws.length : Int)), ((14 : Nat), AVal.int IntKind.i64 (0 : Int))] [{ c := BC.cells [AVal.int IntKind.i64 p, AVal.ro (Cont.ints IntKind.i64 ws) ws.length (1 : Nat)], ver := (0 : Nat) }, { c := BC.typ (Cont.ints IntKind.i64 (List.replicate (0 : Nat) (0 : Int))), ver := (0 : Nat) }]) else none else none else none) := by kernel_rfl
theorem round (p l k : Int) (ws os : List Int) (q f n : Nat) :
  L f (n + 1) (mkS 35 [(1, .ptr 0 0 0), (4, .own 1 0 q 0 1), (12, .ro (.ints .i64 ws) ws.length 1), (13, .int .i64 l), (14, .int .i64 k)] [⟨.cells [.int .i64 p, .ro (.ints .i64 ws) ws.length 1], 0⟩, ⟨.typ (.ints .i64 os), 0⟩])
  = (bif decide (k < l) then bif true && (decide ((0 : Int) ≤ k) && decide (k < (↑ws.length : Int))) then bif decide (k.toNat < ws.length) then bif gz ws k.toNat == (1 : Int) then bif true && true then bif decide ((0 : Int) ≤ p ∧ p ≤ (1000 : Int)) && (true && true || true && (true && true)) then bif decide ((↑(cq.sv p.toNat).length : Int) = p ∧ cq.sv p.toNat = cq.sv (cq.sv p.toNat).length ∧ ws.length = ws.length ∧ (0 : Int) ≤ k ∧ k < (↑ws.length : Int) ∧ (104 : Nat) = (104 : FuncId)) && wo.sp p ws && (false && (false && false && true) || true && true) then bif !fs.an.sp (vo.le.sp ws k.toNat) (cq.sv p.toNat).length (0 : Nat) then bif true && true then bif (1 : Nat) == (1 : Nat) && (1 : Nat) == (1 : Nat) && (true && (true && true) && (true && true && (decide (q + (List.take (1 : Nat) (List.drop (0 : Nat) ((List.replicate (1 : Nat) (0 : Int)).set (0 : Nat) k))).length ≤ (4611686018427387904 : Nat)) && decide ((q + (List.take (1 : Nat) (List.drop (0 : Nat) ((List.replicate (1 : Nat) (0 : Int)).set (0 : Nat) k))).length) * (8 : Nat) ≤ (140737488355328 : Nat))))) then L f n (mkS (35 : Nat) [((1 : Nat), AVal.ptr (0 : Nat) (0 : Nat) (0 : Nat)), ((4 : Nat), AVal.own (1 : Nat) (0 : Nat) (q + (List.take (1 : Nat) (List.drop (0 : Nat) ((List.replicate (1 : Nat) (0 : Int)).set (0 : Nat) k))).length) (0 : Nat) (1 : Nat)), ((12 : Nat), AVal.ro (Cont.ints IntKind.i64 ws) ws.length (1 : Nat)), ((13 : Nat), AVal.int IntKind.i64 l), ((14 : Nat), AVal.int IntKind.i64 (IntKind.i64.wrap (k + (1 : Int))))] [{ c := BC.cells [AVal.int IntKind.i64 p, AVal.ro (Cont.ints IntKind.i64 ws) ws.length (1 : Nat)], ver := (0 : Nat) }, { c := BC.typ (Cont.ints IntKind.i64 (List.take q os ++ List.take (1 : Nat) (List.drop (0 : Nat) ((List.replicate (1 : Nat) (0 : Int)).set (0 : Nat) k)))), ver := (0 : Nat) }]) else none else none else L f n (mkS (35 : Nat) [((1 : Nat), AVal.ptr (0 : Nat) (0 : Nat) (0 : Nat)), ((4 : Nat), AVal.own (1 : Nat) (0 : Nat) q (0 : Nat) (1 : Nat)), ((12 : Nat), AVal.ro (Cont.ints IntKind.i64 ws) ws.length (1 : Nat)), ((13 : Nat), AVal.int IntKind.i64 l), ((14 : Nat), AVal.int IntKind.i64 (IntKind.i64.wrap (k + (1 : Int))))] [{ c := BC.cells [AVal.int IntKind.i64 p, AVal.ro (Cont.ints IntKind.i64 ws) ws.length (1 : Nat)], ver := (0 : Nat) }, { c := BC.typ (Cont.ints IntKind.i64 os), ver := (0 : Nat) }]) else none else none else none else L f n (mkS (35 : Nat) [((1 : Nat), AVal.ptr (0 : Nat) (0 : Nat) (0 : Nat)), ((4 : Nat), AVal.own (1 : Nat) (0 : Nat) q (0 : Nat) (1 : Nat)), ((12 : Nat), AVal.ro (Cont.ints IntKind.i64 ws) ws.length (1 : Nat)), ((13 : Nat), AVal.int IntKind.i64 l), ((14 : Nat), AVal.int IntKind.i64 (IntKind.i64.wrap (k + (1 : Int))))] [{ c := BC.cells [AVal.int IntKind.i64 p, AVal.ro (Cont.ints IntKind.i64 ws) ws.length (1 : Nat)], ver := (0 : Nat) }, { c := BC.typ (Cont.ints IntKind.i64 os), ver := (0 : Nat) }]) else none else none else some (AVal.tup [AVal.own (1 : Nat) (0 : Nat) q (0 : Nat) (1 : Nat), AVal.bool true], [{ c := BC.cells [AVal.int IntKind.i64 p, AVal.ro (Cont.ints IntKind.i64 ws) ws.length (1 : Nat)], ver := (0 : Nat) }, { c := BC.typ (Cont.ints IntKind.i64 os), ver := (0 : Nat) }])) := by kernel_rfl
theorem loop (p : Nat) (ws : List Int) (f : Nat) (hp : 1 ≤ p ∧ p ≤ 6) (hs : wo.sp (p : Int) ws = true) (hw : ws.length ≤ 64) : ∀ (d k n : Nat), k + d = ws.length → d < n →
    regc [1] (L f n (mkS 35 [(1, .ptr 0 0 0), (4, .own 1 0 (vo.lw.sv p ws k).length 0 1), (12, .ro (.ints .i64 ws) ws.length 1), (13, .int .i64 ((ws.length : Nat) : Int)), (14, .int .i64 ((k : Nat) : Int))] [⟨.cells [.int .i64 ((p : Nat) : Int), .ro (.ints .i64 ws) ws.length 1], 0⟩, ⟨.typ (.ints .i64 (vo.lw.sv p ws k)), 0⟩])) = some (.tup [.own 0 0 (vo.lw.sv p ws ws.length).length 0 1, .bool true], [⟨.typ (.ints .i64 (vo.lw.sv p ws ws.length)), 0⟩]) := by
  intro d
  induction d with
  | zero =>
    intro k n hk hn
    obtain ⟨n, rfl⟩ : ∃ k, n = k + 1 := ⟨n - 1, by omega⟩
    obtain rfl : k = ws.length := by omega
    rw [round]
    simp -implicitDefEqProofs (disch := omega) only [take_one, set_one, decide_eq_true, decide_eq_false, IntWalk.i64_in, beqT, beqF, bneT, bneF, nat_succ, ← Int.natCast_mul, ← Int.natCast_add, Int.toNat_natCast, Int.zero_mul, Int.zero_add, Int.add_zero, Nat.zero_add, Nat.add_zero, Nat.zero_mul, List.length_singleton, List.length_append, List.length_nil, List.length_cons, List.take_length, List.drop_zero, List.replicate_zero, List.take_nil, List.nil_append, Nat.reduceBEq, Nat.reduceMul, Nat.reduceLeDiff, eq_self, and_self, true_and, and_true, decide_true, decide_false, Bool.and_self, Bool.or_self, Bool.and_true, Bool.true_and, Bool.and_false, Bool.false_and, Bool.or_true, Bool.true_or, Bool.or_false, Bool.false_or, Bool.not_true, Bool.not_false, cond_true, cond_false]
    rfl
  | succ d ih =>
    intro k n hk hn
    obtain ⟨n, rfl⟩ : ∃ k, n = k + 1 := ⟨n - 1, by omega⟩
    have g := ih (k + 1) n (by omega) (by omega)
    have hl := vo.lw_length p ws k
    have hc := cq.sv_length p
    have ht : (cq.sv p).take p = cq.sv p := List.take_of_length_le (by omega)
    have hwin : vo.win.sp p ws k = ((gz ws k == 1) && !fs.an.sp (vo.le.sp ws k) p 0) := rfl
    simp only [vo.lw.sv] at g
    rw [round]
    cases h1 : gz ws k == 1 with
    | false =>
      rw [h1, Bool.false_and] at hwin
      rw [hwin, cond_false] at g
      simp -implicitDefEqProofs (disch := omega) only [h1, take_one, set_one, decide_eq_true, decide_eq_false, IntWalk.i64_in, beqT, beqF, bneT, bneF, nat_succ, ← Int.natCast_mul, ← Int.natCast_add, Int.toNat_natCast, Int.zero_mul, Int.zero_add, Int.add_zero, Nat.zero_add, Nat.add_zero, Nat.zero_mul, List.length_singleton, List.length_append, List.length_nil, List.length_cons, List.take_length, List.drop_zero, List.replicate_zero, List.take_nil, List.nil_append, Nat.reduceBEq, Nat.reduceMul, Nat.reduceLeDiff, eq_self, and_self, true_and, and_true, decide_true, decide_false, Bool.and_self, Bool.or_self, Bool.and_true, Bool.true_and, Bool.and_false, Bool.false_and, Bool.or_true, Bool.true_or, Bool.or_false, Bool.false_or, Bool.not_true, Bool.not_false, cond_true, cond_false]
      exact g
    | true =>
      cases h2 : fs.an.sp (vo.le.sp ws k) p 0 with
      | true =>
        rw [h1, h2] at hwin
        have hwin2 : vo.win.sp p ws k = false := hwin
        rw [hwin2, cond_false] at g
        simp -implicitDefEqProofs (disch := omega) only [hs, h1, h2, hc, ht, eq_self, take_one, set_one, decide_eq_true, decide_eq_false, IntWalk.i64_in, beqT, beqF, bneT, bneF, nat_succ, ← Int.natCast_mul, ← Int.natCast_add, Int.toNat_natCast, Int.zero_mul, Int.zero_add, Int.add_zero, Nat.zero_add, Nat.add_zero, Nat.zero_mul, List.length_singleton, List.length_append, List.length_nil, List.length_cons, List.take_length, List.drop_zero, List.replicate_zero, List.take_nil, List.nil_append, Nat.reduceBEq, Nat.reduceMul, Nat.reduceLeDiff, eq_self, and_self, true_and, and_true, decide_true, decide_false, Bool.and_self, Bool.or_self, Bool.and_true, Bool.true_and, Bool.and_false, Bool.false_and, Bool.or_true, Bool.true_or, Bool.or_false, Bool.false_or, Bool.not_true, Bool.not_false, cond_true, cond_false]
        exact g
      | false =>
        rw [h1, h2] at hwin
        have hwin2 : vo.win.sp p ws k = true := hwin
        rw [hwin2, cond_true, List.length_append, List.length_singleton] at g
        simp -implicitDefEqProofs (disch := omega) only [hs, h1, h2, hc, ht, eq_self, take_one, set_one, decide_eq_true, decide_eq_false, IntWalk.i64_in, beqT, beqF, bneT, bneF, nat_succ, ← Int.natCast_mul, ← Int.natCast_add, Int.toNat_natCast, Int.zero_mul, Int.zero_add, Int.add_zero, Nat.zero_add, Nat.add_zero, Nat.zero_mul, List.length_singleton, List.length_append, List.length_nil, List.length_cons, List.take_length, List.drop_zero, List.replicate_zero, List.take_nil, List.nil_append, Nat.reduceBEq, Nat.reduceMul, Nat.reduceLeDiff, eq_self, and_self, true_and, and_true, decide_true, decide_false, Bool.and_self, Bool.or_self, Bool.and_true, Bool.true_and, Bool.and_false, Bool.false_and, Bool.or_true, Bool.true_or, Bool.or_false, Bool.false_or, Bool.not_true, Bool.not_false, cond_true, cond_false]
        exact g
theorem run : ∀ args v new, R args = some (true, v, new) → ∃ fuel, regc [1] (runFn Try.prog (orc [⟨102, areVotes.R⟩, ⟨91, counting2.R⟩, ⟨103, hasLeast.R⟩]) hd Dr.std none fuel (bodyOf Try.f44) 35 [2, 3] args []) = some (v, new) := by
  intro args v new h
  unfold R at h
  split at h
  · rename_i p ws m
    simp only [Option.some.injEq, Prod.mk.injEq, Bool.and_eq_true, decide_eq_true_eq, beq_iff_eq] at h
    obtain ⟨⟨⟨rfl⟩, hs, hb, ha⟩, rfl, rfl⟩ := h
    have hs2 := hs
    obtain ⟨p, rfl, hp, hw, h0, v⟩ := wo.valid hs2
    have h64 := wo.pow_le hp.2
    have h1p := wo.pow_pos p
    obtain ⟨F, hF⟩ : ∃ F : Nat, F = 100 := ⟨100, rfl⟩
    refine ⟨F, ?_⟩
    have g := loop p ws F hp hs (by omega) ws.length 0 F (by omega) (by omega)
    rw [start]
    simp -implicitDefEqProofs (disch := omega) only [hs, hb, ha, beq_self_eq_true, take_one, set_one, decide_eq_true, decide_eq_false, IntWalk.i64_in, beqT, beqF, bneT, bneF, nat_succ, ← Int.natCast_mul, ← Int.natCast_add, Int.toNat_natCast, Int.zero_mul, Int.zero_add, Int.add_zero, Nat.zero_add, Nat.add_zero, Nat.zero_mul, List.length_singleton, List.length_append, List.length_nil, List.length_cons, List.take_length, List.drop_zero, List.replicate_zero, List.take_nil, List.nil_append, Nat.reduceBEq, Nat.reduceMul, Nat.reduceLeDiff, eq_self, and_self, true_and, and_true, decide_true, decide_false, Bool.and_self, Bool.or_self, Bool.and_true, Bool.true_and, Bool.and_false, Bool.false_and, Bool.or_true, Bool.true_or, Bool.or_false, Bool.false_or, Bool.not_true, Bool.not_false, cond_true, cond_false]
    exact g
  · cases h
theorem ok : EntOk Try.prog ⟨44, R⟩ :=
  ent_okAG (ks := [1]) mixed (A := (orc [⟨102, areVotes.R⟩, ⟨91, counting2.R⟩, ⟨103, hasLeast.R⟩])) (orc_ok (by simp only [List.mem_cons, List.not_mem_nil, or_false, forall_eq_or_imp, forall_eq]; exact ⟨areVotes.ok, counting2.ok, hasLeast.ok⟩)) Try.func44 (by kernel_rfl) (by kernel_rfl) (n := 35) (ts := [2, 3]) (hd := hd) (dr := Dr.std) (cut := none) (by kernel_rfl) (by kernel_rfl) (by kernel_rfl) run
end iLeastWinners

namespace iVetoOf
def R : List AVal → Option (Bool × AVal × List Blk)
  | [.agg [.int .i64 p, .ro (.ints .i64 ws) m 1]] => some (decide (m = ws.length) && (wo.sp p ws && ((ws.all fun x => decide (0 ≤ x) && decide (x ≤ 1)) && (gz ws (ws.length - 1) == 1))), .tup [.own 0 0 (vo.vt.sv (vo.bt.sv ws (ws.length - 1) ws.length) p.toNat).length 0 1, .bool true], [⟨.typ (.ints .i64 (vo.vt.sv (vo.bt.sv ws (ws.length - 1) ws.length) p.toNat)), 0⟩])
  | _ => none
def hd : Nat → Head := fun i => bif eqN i 0 then ⟨[1, 4, 15, 16, 17, 998], none⟩ else ⟨[4, 7, 30, 31, 998], none⟩
noncomputable def L0 (f n : Nat) (s : State) := loopAt Try.prog (orc [⟨102, areVotes.R⟩, ⟨105, wAllN.R⟩]) hd Dr.std 0 f (bodyOf Try.f45) 0 [true, true, true, false, true] (retK Try.prog [2, 3] 0 none) n s
noncomputable def L1 (f n : Nat) (s : State) := loopAt Try.prog (orc [⟨102, areVotes.R⟩, ⟨105, wAllN.R⟩]) hd Dr.std 0 f (bodyOf Try.f45) 0 [true, true, true, true, true, false, true] (retK Try.prog [2, 3] 0 none) n s
theorem start (p : Int) (ws : List Int) (f : Nat) :
  runFn Try.prog (orc [⟨102, areVotes.R⟩, ⟨105, wAllN.R⟩]) hd Dr.std none f (bodyOf Try.f45) 45 [2, 3] [.agg [.int .i64 p, .ro (.ints .i64 ws) ws.length 1]] []
  = (bif true && true && (true && true && true) then bif decide (ws.length = ws.length) && (wo.sp p ws && ((ws.all fun x => decide ((0 : Int) ≤ x) && decide (x ≤ (1 : Int))) && gz ws (ws.length - (1 : Nat)) == (1 : Int))) && (true && (true && true) && true || true && true) then bif true && true && (true && true && true) then bif decide (ws.length = ws.length ∧ ws.length ≤ (64 : Nat) ∧ (1 : Nat) ≤ ws.length) && (true && (true && true) && true || true && true) then bif true && true then L0 f f (mkS (45 : Nat) [((1 : Nat), AVal.ptr (0 : Nat) (0 : Nat) (0 : Nat)), ((4 : Nat), AVal.int IntKind.i64 ((↑ws.length : Int) - (1 : Int))), ((15 : Nat), AVal.ro (Cont.ints IntKind.i64 ws) ws.length (1 : Nat)), ((16 : Nat), AVal.int IntKind.i64 (↑ws.length : Int)), ((17 : Nat), AVal.int IntKind.i64 (0 : Int))] [{ c := BC.cells [AVal.int IntKind.i64 p, AVal.ro (Cont.ints IntKind.i64 ws) ws.length (1 : Nat)], ver := (0 : Nat) }]) else none else none else none else none else none) := by kernel_rfl
theorem round0 (a p l k : Int) (ws : List Int) (f n : Nat) :
  L0 f (n + 1) (mkS 45 [(1, .ptr 0 0 0), (4, .int .i64 a), (15, .ro (.ints .i64 ws) ws.length 1), (16, .int .i64 l), (17, .int .i64 k)] [⟨.cells [.int .i64 p, .ro (.ints .i64 ws) ws.length 1], 0⟩])
  = (bif decide (k < l) then bif true && (decide ((0 : Int) ≤ k) && decide (k < (↑ws.length : Int))) then bif decide (k.toNat < ws.length) then bif gz ws k.toNat == (1 : Int) then L0 f n (mkS (45 : Nat) [((1 : Nat), AVal.ptr (0 : Nat) (0 : Nat) (0 : Nat)), ((4 : Nat), AVal.int IntKind.i64 (iand.sv IntKind.i64 a k)), ((15 : Nat), AVal.ro (Cont.ints IntKind.i64 ws) ws.length (1 : Nat)), ((16 : Nat), AVal.int IntKind.i64 l), ((17 : Nat), AVal.int IntKind.i64 (IntKind.i64.wrap (k + (1 : Int))))] [{ c := BC.cells [AVal.int IntKind.i64 p, AVal.ro (Cont.ints IntKind.i64 ws) ws.length (1 : Nat)], ver := (0 : Nat) }]) else L0 f n (mkS (45 : Nat) [((1 : Nat), AVal.ptr (0 : Nat) (0 : Nat) (0 : Nat)), ((4 : Nat), AVal.int IntKind.i64 a), ((15 : Nat), AVal.ro (Cont.ints IntKind.i64 ws) ws.length (1 : Nat)), ((16 : Nat), AVal.int IntKind.i64 l), ((17 : Nat), AVal.int IntKind.i64 (IntKind.i64.wrap (k + (1 : Int))))] [{ c := BC.cells [AVal.int IntKind.i64 p, AVal.ro (Cont.ints IntKind.i64 ws) ws.length (1 : Nat)], ver := (0 : Nat) }]) else none else none else bif true && true then L1 f f (mkS (45 : Nat) [((4 : Nat), AVal.int IntKind.i64 a), ((7 : Nat), AVal.own (0 : Nat) (0 : Nat) (0 : Nat) (0 : Nat) (1 : Nat)), ((30 : Nat), AVal.int IntKind.i64 p), ((31 : Nat), AVal.int IntKind.i64 (0 : Int))] [{ c := BC.typ (Cont.ints IntKind.i64 (List.replicate (0 : Nat) (0 : Int))), ver := (0 : Nat) }]) else none) := by kernel_rfl
theorem round1 (a l k : Int) (os : List Int) (q f n : Nat) :
  L1 f (n + 1) (mkS 45 [(4, .int .i64 a), (7, .own 0 0 q 0 1), (30, .int .i64 l), (31, .int .i64 k)] [⟨.typ (.ints .i64 os), 0⟩])
  = (bif decide (k < l) then bif decide ((0 : Int) ≤ k) then bif iand.sv IntKind.i64 (ishr.sv IntKind.i64 a k) (1 : Int) == (1 : Int) then bif (1 : Nat) == (1 : Nat) && (1 : Nat) == (1 : Nat) && (true && (true && true) && (true && true && (decide (q + (List.take (1 : Nat) (List.drop (0 : Nat) ((List.replicate (1 : Nat) (0 : Int)).set (0 : Nat) k))).length ≤ (4611686018427387904 : Nat)) && decide ((q + (List.take (1 : Nat) (List.drop (0 : Nat) ((List.replicate (1 : Nat) (0 : Int)).set (0 : Nat) k))).length) * (8 : Nat) ≤ (140737488355328 : Nat))))) then L1 f n (mkS (45 : Nat) [((4 : Nat), AVal.int IntKind.i64 a), ((7 : Nat), AVal.own (0 : Nat) (0 : Nat) (q + (List.take (1 : Nat) (List.drop (0 : Nat) ((List.replicate (1 : Nat) (0 : Int)).set (0 : Nat) k))).length) (0 : Nat) (1 : Nat)), ((30 : Nat), AVal.int IntKind.i64 l), ((31 : Nat), AVal.int IntKind.i64 (IntKind.i64.wrap (k + (1 : Int))))] [{ c := BC.typ (Cont.ints IntKind.i64 (List.take q os ++ List.take (1 : Nat) (List.drop (0 : Nat) ((List.replicate (1 : Nat) (0 : Int)).set (0 : Nat) k)))), ver := (0 : Nat) }]) else none else L1 f n (mkS (45 : Nat) [((4 : Nat), AVal.int IntKind.i64 a), ((7 : Nat), AVal.own (0 : Nat) (0 : Nat) q (0 : Nat) (1 : Nat)), ((30 : Nat), AVal.int IntKind.i64 l), ((31 : Nat), AVal.int IntKind.i64 (IntKind.i64.wrap (k + (1 : Int))))] [{ c := BC.typ (Cont.ints IntKind.i64 os), ver := (0 : Nat) }]) else none else some (AVal.tup [AVal.own (0 : Nat) (0 : Nat) q (0 : Nat) (1 : Nat), AVal.bool true], [{ c := BC.typ (Cont.ints IntKind.i64 os), ver := (0 : Nat) }])) := by kernel_rfl
theorem loop1 (p a f : Nat) (hp : 1 ≤ p ∧ p ≤ 6) (ha : a < 64) : ∀ (d k n : Nat), k + d = p → d < n →
    L1 f n (mkS 45 [(4, .int .i64 ((a : Nat) : Int)), (7, .own 0 0 (vo.vt.sv a k).length 0 1), (30, .int .i64 ((p : Nat) : Int)), (31, .int .i64 ((k : Nat) : Int))] [⟨.typ (.ints .i64 (vo.vt.sv a k)), 0⟩]) = some (.tup [.own 0 0 (vo.vt.sv a p).length 0 1, .bool true], [⟨.typ (.ints .i64 (vo.vt.sv a p)), 0⟩]) := by
  intro d
  induction d with
  | zero =>
    intro k n hk hn
    obtain ⟨n, rfl⟩ : ∃ k, n = k + 1 := ⟨n - 1, by omega⟩
    obtain rfl : k = p := by omega
    rw [round1]
    simp -implicitDefEqProofs (disch := omega) only [take_one, set_one, decide_eq_true, decide_eq_false, IntWalk.i64_in, beqT, beqF, bneT, bneF, nat_succ, ← Int.natCast_mul, ← Int.natCast_add, Int.toNat_natCast, Int.zero_mul, Int.zero_add, Int.add_zero, Nat.zero_add, Nat.add_zero, Nat.zero_mul, List.length_singleton, List.length_append, List.length_nil, List.length_cons, List.take_length, List.drop_zero, List.replicate_zero, List.take_nil, List.nil_append, Nat.reduceBEq, Nat.reduceMul, Nat.reduceLeDiff, eq_self, and_self, true_and, and_true, decide_true, decide_false, Bool.and_self, Bool.or_self, Bool.and_true, Bool.true_and, Bool.and_false, Bool.false_and, Bool.or_true, Bool.true_or, Bool.or_false, Bool.false_or, Bool.not_true, Bool.not_false, cond_true, cond_false]
  | succ d ih =>
    intro k n hk hn
    obtain ⟨n, rfl⟩ : ∃ k, n = k + 1 := ⟨n - 1, by omega⟩
    have g := ih (k + 1) n (by omega) (by omega)
    have hl := vo.vt_length a k
    simp only [vo.vt.sv] at g
    rw [round1]
    cases ho : wo.off.sp a k with
    | false =>
      have s1 := vo.shr_f ha (by omega) ho
      rw [ho, cond_false, List.length_append, List.length_singleton] at g
      simp -implicitDefEqProofs (disch := omega) only [s1, take_one, set_one, decide_eq_true, decide_eq_false, IntWalk.i64_in, beqT, beqF, bneT, bneF, nat_succ, ← Int.natCast_mul, ← Int.natCast_add, Int.toNat_natCast, Int.zero_mul, Int.zero_add, Int.add_zero, Nat.zero_add, Nat.add_zero, Nat.zero_mul, List.length_singleton, List.length_append, List.length_nil, List.length_cons, List.take_length, List.drop_zero, List.replicate_zero, List.take_nil, List.nil_append, Nat.reduceBEq, Nat.reduceMul, Nat.reduceLeDiff, eq_self, and_self, true_and, and_true, decide_true, decide_false, Bool.and_self, Bool.or_self, Bool.and_true, Bool.true_and, Bool.and_false, Bool.false_and, Bool.or_true, Bool.true_or, Bool.or_false, Bool.false_or, Bool.not_true, Bool.not_false, cond_true, cond_false]
      exact g
    | true =>
      have s1 := vo.shr_t ha (by omega) ho
      rw [ho, cond_true] at g
      simp -implicitDefEqProofs (disch := omega) only [s1, take_one, set_one, decide_eq_true, decide_eq_false, IntWalk.i64_in, beqT, beqF, bneT, bneF, nat_succ, ← Int.natCast_mul, ← Int.natCast_add, Int.toNat_natCast, Int.zero_mul, Int.zero_add, Int.add_zero, Nat.zero_add, Nat.add_zero, Nat.zero_mul, List.length_singleton, List.length_append, List.length_nil, List.length_cons, List.take_length, List.drop_zero, List.replicate_zero, List.take_nil, List.nil_append, Nat.reduceBEq, Nat.reduceMul, Nat.reduceLeDiff, eq_self, and_self, true_and, and_true, decide_true, decide_false, Bool.and_self, Bool.or_self, Bool.and_true, Bool.true_and, Bool.and_false, Bool.false_and, Bool.or_true, Bool.true_or, Bool.or_false, Bool.false_or, Bool.not_true, Bool.not_false, cond_true, cond_false]
      exact g
theorem loop0 (p b : Nat) (ws : List Int) (f : Nat) (hp : 1 ≤ p ∧ p ≤ 6) (hb : b < 64) (hw : ws.length ≤ 64) (hf : p < f) : ∀ (d k n : Nat), k + d = ws.length → d < n →
    L0 f n (mkS 45 [(1, .ptr 0 0 0), (4, .int .i64 ((vo.bt.sv ws b k : Nat) : Int)), (15, .ro (.ints .i64 ws) ws.length 1), (16, .int .i64 ((ws.length : Nat) : Int)), (17, .int .i64 ((k : Nat) : Int))] [⟨.cells [.int .i64 ((p : Nat) : Int), .ro (.ints .i64 ws) ws.length 1], 0⟩]) = some (.tup [.own 0 0 (vo.vt.sv (vo.bt.sv ws b ws.length) p).length 0 1, .bool true], [⟨.typ (.ints .i64 (vo.vt.sv (vo.bt.sv ws b ws.length) p)), 0⟩]) := by
  intro d
  induction d with
  | zero =>
    intro k n hk hn
    obtain ⟨n, rfl⟩ : ∃ k, n = k + 1 := ⟨n - 1, by omega⟩
    obtain rfl : k = ws.length := by omega
    have hbl := vo.bt_le ws b ws.length
    have g := loop1 p (vo.bt.sv ws b ws.length) f hp (by omega) p 0 f (by omega) hf
    rw [round0]
    simp -implicitDefEqProofs (disch := omega) only [take_one, set_one, decide_eq_true, decide_eq_false, IntWalk.i64_in, beqT, beqF, bneT, bneF, nat_succ, ← Int.natCast_mul, ← Int.natCast_add, Int.toNat_natCast, Int.zero_mul, Int.zero_add, Int.add_zero, Nat.zero_add, Nat.add_zero, Nat.zero_mul, List.length_singleton, List.length_append, List.length_nil, List.length_cons, List.take_length, List.drop_zero, List.replicate_zero, List.take_nil, List.nil_append, Nat.reduceBEq, Nat.reduceMul, Nat.reduceLeDiff, eq_self, and_self, true_and, and_true, decide_true, decide_false, Bool.and_self, Bool.or_self, Bool.and_true, Bool.true_and, Bool.and_false, Bool.false_and, Bool.or_true, Bool.true_or, Bool.or_false, Bool.false_or, Bool.not_true, Bool.not_false, cond_true, cond_false]
    exact g
  | succ d ih =>
    intro k n hk hn
    obtain ⟨n, rfl⟩ : ∃ k, n = k + 1 := ⟨n - 1, by omega⟩
    have g := ih (k + 1) n (by omega) (by omega)
    have hl := vo.bt_le ws b k
    have e := vo.iand_nat (vo.bt.sv ws b k) (by omega) k (by omega)
    simp only [vo.bt.sv] at g
    rw [round0]
    cases h1 : gz ws k == 1 with
    | false =>
      rw [h1, cond_false] at g
      simp -implicitDefEqProofs (disch := omega) only [h1, e, take_one, set_one, decide_eq_true, decide_eq_false, IntWalk.i64_in, beqT, beqF, bneT, bneF, nat_succ, ← Int.natCast_mul, ← Int.natCast_add, Int.toNat_natCast, Int.zero_mul, Int.zero_add, Int.add_zero, Nat.zero_add, Nat.add_zero, Nat.zero_mul, List.length_singleton, List.length_append, List.length_nil, List.length_cons, List.take_length, List.drop_zero, List.replicate_zero, List.take_nil, List.nil_append, Nat.reduceBEq, Nat.reduceMul, Nat.reduceLeDiff, eq_self, and_self, true_and, and_true, decide_true, decide_false, Bool.and_self, Bool.or_self, Bool.and_true, Bool.true_and, Bool.and_false, Bool.false_and, Bool.or_true, Bool.true_or, Bool.or_false, Bool.false_or, Bool.not_true, Bool.not_false, cond_true, cond_false]
      exact g
    | true =>
      rw [h1, cond_true] at g
      simp -implicitDefEqProofs (disch := omega) only [h1, e, take_one, set_one, decide_eq_true, decide_eq_false, IntWalk.i64_in, beqT, beqF, bneT, bneF, nat_succ, ← Int.natCast_mul, ← Int.natCast_add, Int.toNat_natCast, Int.zero_mul, Int.zero_add, Int.add_zero, Nat.zero_add, Nat.add_zero, Nat.zero_mul, List.length_singleton, List.length_append, List.length_nil, List.length_cons, List.take_length, List.drop_zero, List.replicate_zero, List.take_nil, List.nil_append, Nat.reduceBEq, Nat.reduceMul, Nat.reduceLeDiff, eq_self, and_self, true_and, and_true, decide_true, decide_false, Bool.and_self, Bool.or_self, Bool.and_true, Bool.true_and, Bool.and_false, Bool.false_and, Bool.or_true, Bool.true_or, Bool.or_false, Bool.false_or, Bool.not_true, Bool.not_false, cond_true, cond_false]
      exact g
theorem run : ∀ args v new, R args = some (true, v, new) → ∃ fuel, runFn Try.prog (orc [⟨102, areVotes.R⟩, ⟨105, wAllN.R⟩]) hd Dr.std none fuel (bodyOf Try.f45) 45 [2, 3] args [] = some (v, new) := by
  intro args v new h
  unfold R at h
  split at h
  · rename_i p ws m
    simp only [Option.some.injEq, Prod.mk.injEq, Bool.and_eq_true, decide_eq_true_eq, beq_iff_eq] at h
    obtain ⟨⟨⟨rfl⟩, hs, hb, ha⟩, rfl, rfl⟩ := h
    have hs2 := hs
    obtain ⟨p, rfl, hp, hw, h0, v⟩ := wo.valid hs2
    have h64 := wo.pow_le hp.2
    have h1p := wo.pow_pos p
    obtain ⟨F, hF⟩ : ∃ F : Nat, F = 100 := ⟨100, rfl⟩
    refine ⟨F, ?_⟩
    have g := loop0 p (ws.length - 1) ws F hp (by omega) (by omega) (by omega) ws.length 0 F (by omega) (by omega)
    have e : ((ws.length : Nat) : Int) - 1 = ((ws.length - 1 : Nat) : Int) := by omega
    rw [start]
    simp -implicitDefEqProofs (disch := omega) only [hs, hb, ha, e, beq_self_eq_true, take_one, set_one, decide_eq_true, decide_eq_false, IntWalk.i64_in, beqT, beqF, bneT, bneF, nat_succ, ← Int.natCast_mul, ← Int.natCast_add, Int.toNat_natCast, Int.zero_mul, Int.zero_add, Int.add_zero, Nat.zero_add, Nat.add_zero, Nat.zero_mul, List.length_singleton, List.length_append, List.length_nil, List.length_cons, List.take_length, List.drop_zero, List.replicate_zero, List.take_nil, List.nil_append, Nat.reduceBEq, Nat.reduceMul, Nat.reduceLeDiff, eq_self, and_self, true_and, and_true, decide_true, decide_false, Bool.and_self, Bool.or_self, Bool.and_true, Bool.true_and, Bool.and_false, Bool.false_and, Bool.or_true, Bool.true_or, Bool.or_false, Bool.false_or, Bool.not_true, Bool.not_false, cond_true, cond_false]
    exact g
  · cases h
theorem ok : EntOk Try.prog ⟨45, R⟩ :=
  ent_okA mixed (A := (orc [⟨102, areVotes.R⟩, ⟨105, wAllN.R⟩])) (orc_ok (by simp only [List.mem_cons, List.not_mem_nil, or_false, forall_eq_or_imp, forall_eq]; exact ⟨areVotes.ok, wAllN.ok⟩)) Try.func45 (by kernel_rfl) (by kernel_rfl) (n := 45) (ts := [2, 3]) (hd := hd) (dr := Dr.std) (cut := none) (by kernel_rfl) (by kernel_rfl) (by kernel_rfl) run
end iVetoOf

end Go.Proofs.Ytadcpdjcadnepaa.Ab
