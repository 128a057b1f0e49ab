/-
  Functions: worths of trees, the reference on trees, ways that are drawn.
-/
import Derived.Test.YtadcpdjcadnepaaFnVU
import Derived.Test.YtadcpdjcadnepaaFnWT
namespace Go.Proofs.Ytadcpdjcadnepaa.Ab
open Go
set_option linter.unusedVariables false
set_option linter.unusedSimpArgs false
set_option maxRecDepth 100000

namespace cloTree
def R : List AVal → Option (Bool × AVal × List Blk)
  | [.int .i64 s, .rom [.int .i64 p] 0, .rom [.ro (.ints .i64 cs) m 1] 0] => some (decide (m = cs.length ∧ 0 ≤ s ∧ s.toNat < 2 ^ p.toNat) && tr.ways.sp p cs, .int .i64 (tr.w.sv cs p.toNat s.toNat), [])
  | _ => none
theorem go (s p : Int) (cs : List Int) :
  runFn Try.prog (orc [⟨109, join.R⟩, ⟨59, sumS.R⟩]) hd0 Dr.std none 0 (bodyOf Try.f108) 10 [4] [.int .i64 s, .rom [.int .i64 p] 0, .rom [.ro (.ints .i64 cs) cs.length 1] 0] []
  = (bif decide (cs.length = cs.length ∧ (0 : Int) ≤ s ∧ s.toNat < (2 : Nat) ^ p.toNat) && tr.ways.sp p cs && (true && (true && (true && true)) || true && (true && true)) then bif (decide (p.toNat + (1 : Nat) = (tr.pays.sv cs p.toNat s.toNat).length ∧ p.toNat + (1 : Nat) ≤ (100 : Nat)) && (tr.pays.sv cs p.toNat s.toNat).all fun x => decide ((-1000000000000000 : Int) ≤ x) && decide (x ≤ (1000000000000000 : Int))) && (false && true || true && true) then some (AVal.int IntKind.i64 (wo.ss.sv (tr.pays.sv cs p.toNat s.toNat) (tr.pays.sv cs p.toNat s.toNat).length), [{ c := BC.typ (Cont.ints IntKind.i64 (tr.pays.sv cs p.toNat s.toNat)), ver := (0 : Nat) }]) else none else none) := by kernel_rfl
theorem run : ∀ args v new, R args = some (true, v, new) → ∃ fuel, regc [] (runFn Try.prog (orc [⟨109, join.R⟩, ⟨59, sumS.R⟩]) hd0 Dr.std none fuel (bodyOf Try.f108) 10 [4] args []) = some (v, new) := by
  intro args v new h
  unfold R at h
  split at h
  · rename_i s p cs m
    simp only [Option.some.injEq, Prod.mk.injEq, Bool.and_eq_true, decide_eq_true_eq] at h
    obtain ⟨⟨⟨rfl, h2, h3⟩, hs⟩, rfl, rfl⟩ := h
    have hs2 := hs
    obtain ⟨p, rfl, W⟩ := tr.valid hs2
    have w1 := W.p1
    have w5 := W.p5
    have wl := W.len
    obtain ⟨s, rfl⟩ : ∃ q : Nat, s = q := ⟨s.toNat, by omega⟩
    rw [Int.toNat_natCast, Int.toNat_natCast] at h3
    have ha := tr.pays_at W h3
    have hl : (tr.pays.sv cs p s).length = p + 1 := ha.len
    have hx : ((tr.pays.sv cs p s).all fun x => decide (-1000000000000000 ≤ x) && decide (x ≤ 1000000000000000)) = true := by
      simp only [List.all_eq_true, Bool.and_eq_true, decide_eq_true_eq]
      intro x hm; have := ha.ran x hm; omega
    refine ⟨0, ?_⟩
    rw [go]
    simp -implicitDefEqProofs (disch := omega) only [hs, hx, hl, tr.w.sv, take_one, set_one, decide_eq_true, decide_eq_false, IntWalk.i64_in, beqT, beqF, bneT, bneF, nat_succ, ← Int.natCast_mul, ← Int.natCast_add, Int.toNat_natCast, Int.zero_mul, Int.zero_add, Int.add_zero, Nat.zero_add, Nat.add_zero, Nat.zero_mul, List.length_singleton, List.length_append, List.length_nil, List.length_cons, List.take_length, List.drop_zero, List.replicate_zero, List.take_nil, List.nil_append, Nat.reduceBEq, Nat.reduceMul, Nat.reduceLeDiff, eq_self, and_self, true_and, and_true, decide_true, decide_false, Bool.and_self, Bool.or_self, Bool.and_true, Bool.true_and, Bool.and_false, Bool.false_and, Bool.or_true, Bool.true_or, Bool.or_false, Bool.false_or, Bool.not_true, Bool.not_false, cond_true, cond_false]
    rfl
  · cases h
theorem ok : EntOk Try.prog ⟨108, R⟩ :=
  ent_okAG (ks := []) mixed (A := (orc [⟨109, join.R⟩, ⟨59, sumS.R⟩])) (orc_ok (by simp only [List.mem_cons, List.not_mem_nil, or_false, forall_eq_or_imp, forall_eq]; exact ⟨join.ok, sumS.ok⟩)) Try.func108 (by kernel_rfl) (by kernel_rfl) (n := 10) (ts := [4]) (hd := hd0) (dr := Dr.std) (cut := none) (by kernel_rfl) (by kernel_rfl) (by kernel_rfl) run
end cloTree

namespace madeTree
def R : List AVal → Option (Bool × AVal × List Blk)
  | [.int .i64 p, .fn ff [.rom [.int .i64 pl] 0, .rom [.ro (.ints .i64 cs) m 1] 0]] => some (decide (1 ≤ p ∧ p ≤ 6 ∧ ff = 108 ∧ pl = p ∧ m = cs.length) && (tr.ways.sp pl cs && wo.sp p (fs.ls.sv (tr.w.sv cs pl.toNat) (2 ^ p.toNat))), .tup [.agg [.int .i64 p, .own 0 0 (2 ^ p.toNat) 0 1], .bool true], [⟨.typ (.ints .i64 (fs.ls.sv (tr.w.sv cs pl.toNat) (2 ^ p.toNat))), 0⟩])
  | _ => none
def hd : Nat → Head := fun _ => ⟨[1, 4, 6, 11, 12, 998], none⟩
noncomputable def L (f n : Nat) (s : State) := loopAt Try.prog (orc [⟨108, cloTree.R⟩, ⟨72, iValidWorths.R⟩]) hd Dr.std 0 f (bodyOf Try.f99) 0 [true, true, false, true] (retK Try.prog [.cell 4 41, 5] 0 none) n s
theorem start (pl : Int) (cs : List Int) (p : Int) (f : Nat) :
  runFn Try.prog (orc [⟨108, cloTree.R⟩, ⟨72, iValidWorths.R⟩]) hd Dr.std none f (bodyOf Try.f99) 29 [.cell 4 41, 5] [.int .i64 p, .fn 108 [.rom [.int .i64 pl] 0, .rom [.ro (.ints .i64 cs) cs.length 1] 0]] []
  = (bif decide ((0 : Int) ≤ p) then L f f (mkS (29 : Nat) [((1 : Nat), AVal.fn (108 : Nat) [AVal.rom [AVal.int IntKind.i64 pl] (0 : Nat), AVal.rom [AVal.ro (Cont.ints IntKind.i64 cs) cs.length (1 : Nat)] (0 : Nat)]), ((4 : Nat), AVal.ptr (0 : Nat) (0 : Nat) (0 : Nat)), ((6 : Nat), AVal.ptr (1 : Nat) (0 : Nat) (0 : Nat)), ((11 : Nat), AVal.int IntKind.i64 (ishl.sv IntKind.i64 (1 : Int) p)), ((12 : Nat), AVal.int IntKind.i64 (0 : Int))] [{ c := BC.cells [AVal.int IntKind.i64 (0 : Int), AVal.nils], ver := (0 : Nat) }, { c := BC.cells [AVal.int IntKind.i64 p, AVal.nils], ver := (0 : Nat) }]) else none) := by kernel_rfl
theorem round0 (pl : Int) (cs : List Int) (p l k : Int) (f n : Nat) :
  L f (n + 1) (mkS 29 [(1, .fn 108 [.rom [.int .i64 pl] 0, .rom [.ro (.ints .i64 cs) cs.length 1] 0]), (4, .ptr 0 0 0), (6, .ptr 1 0 0), (11, .int .i64 l), (12, .int .i64 k)] [⟨.cells [.int .i64 0, .nils], 0⟩, ⟨.cells [.int .i64 p, .nils], 0⟩])
  = (bif decide (k < l) then bif true && true then bif decide (cs.length = cs.length ∧ (0 : Int) ≤ k ∧ k.toNat < (2 : Nat) ^ pl.toNat) && tr.ways.sp pl cs && (true && (true && true && (true && true && true)) || true && true) then bif (1 : Nat) == (1 : Nat) && (1 : Nat) == (1 : Nat) && (true && true && (decide ((0 : Nat) < (List.take (1 : Nat) (List.drop (0 : Nat) ((List.replicate (1 : Nat) (0 : Int)).set (0 : Nat) (tr.w.sv cs pl.toNat k.toNat)))).length) && (decide ((List.take (1 : Nat) (List.drop (0 : Nat) ((List.replicate (1 : Nat) (0 : Int)).set (0 : Nat) (tr.w.sv cs pl.toNat k.toNat)))).length ≤ (4611686018427387904 : Nat)) && decide ((List.take (1 : Nat) (List.drop (0 : Nat) ((List.replicate (1 : Nat) (0 : Int)).set (0 : Nat) (tr.w.sv cs pl.toNat k.toNat)))).length * (8 : Nat) ≤ (140737488355328 : Nat))))) then L f n (mkS (29 : Nat) [((1 : Nat), AVal.fn (108 : Nat) [AVal.rom [AVal.int IntKind.i64 pl] (0 : Nat), AVal.rom [AVal.ro (Cont.ints IntKind.i64 cs) cs.length (1 : Nat)] (0 : Nat)]), ((4 : Nat), AVal.ptr (0 : Nat) (0 : Nat) (0 : Nat)), ((6 : Nat), AVal.ptr (1 : Nat) (0 : Nat) (0 : Nat)), ((11 : Nat), AVal.int IntKind.i64 l), ((12 : Nat), AVal.int IntKind.i64 (IntKind.i64.wrap (k + (1 : Int))))] [{ c := BC.cells [AVal.int IntKind.i64 (0 : Int), AVal.nils], ver := (0 : Nat) }, { c := BC.cells [AVal.int IntKind.i64 p, AVal.own (2 : Nat) (0 : Nat) (List.take (1 : Nat) (List.drop (0 : Nat) ((List.replicate (1 : Nat) (0 : Int)).set (0 : Nat) (tr.w.sv cs pl.toNat k.toNat)))).length (0 : Nat) (1 : Nat)], ver := (0 : Nat) }, { c := BC.typ (Cont.ints IntKind.i64 (List.take (1 : Nat) (List.drop (0 : Nat) ((List.replicate (1 : Nat) (0 : Int)).set (0 : Nat) (tr.w.sv cs pl.toNat k.toNat))))), ver := (0 : Nat) }]) else none else none else none else bif true && true && (true && true && true) then none else none) := by kernel_rfl
theorem round (pl : Int) (cs : List Int) (p l k : Int) (os : List Int) (q f n : Nat) :
  L f (n + 1) (mkS 29 [(1, .fn 108 [.rom [.int .i64 pl] 0, .rom [.ro (.ints .i64 cs) cs.length 1] 0]), (4, .ptr 0 0 0), (6, .ptr 1 0 0), (11, .int .i64 l), (12, .int .i64 k)] [⟨.cells [.int .i64 0, .nils], 0⟩, ⟨.cells [.int .i64 p, .own 2 0 q 0 1], 0⟩, ⟨.typ (.ints .i64 os), 0⟩])
  = (bif decide (k < l) then bif true && true then bif decide (cs.length = cs.length ∧ (0 : Int) ≤ k ∧ k.toNat < (2 : Nat) ^ pl.toNat) && tr.ways.sp pl cs && (true && (true && true && (true && true && true)) || true && true) then bif (1 : Nat) == (1 : Nat) && (1 : Nat) == (1 : Nat) && (true && (true && true) && (true && true && (decide (q + (List.take (1 : Nat) (List.drop (0 : Nat) ((List.replicate (1 : Nat) (0 : Int)).set (0 : Nat) (tr.w.sv cs pl.toNat k.toNat)))).length ≤ (4611686018427387904 : Nat)) && decide ((q + (List.take (1 : Nat) (List.drop (0 : Nat) ((List.replicate (1 : Nat) (0 : Int)).set (0 : Nat) (tr.w.sv cs pl.toNat k.toNat)))).length) * (8 : Nat) ≤ (140737488355328 : Nat))))) then L f n (mkS (29 : Nat) [((1 : Nat), AVal.fn (108 : Nat) [AVal.rom [AVal.int IntKind.i64 pl] (0 : Nat), AVal.rom [AVal.ro (Cont.ints IntKind.i64 cs) cs.length (1 : Nat)] (0 : Nat)]), ((4 : Nat), AVal.ptr (0 : Nat) (0 : Nat) (0 : Nat)), ((6 : Nat), AVal.ptr (1 : Nat) (0 : Nat) (0 : Nat)), ((11 : Nat), AVal.int IntKind.i64 l), ((12 : Nat), AVal.int IntKind.i64 (IntKind.i64.wrap (k + (1 : Int))))] [{ c := BC.cells [AVal.int IntKind.i64 (0 : Int), AVal.nils], ver := (0 : Nat) }, { c := BC.cells [AVal.int IntKind.i64 p, AVal.own (2 : Nat) (0 : Nat) (q + (List.take (1 : Nat) (List.drop (0 : Nat) ((List.replicate (1 : Nat) (0 : Int)).set (0 : Nat) (tr.w.sv cs pl.toNat k.toNat)))).length) (0 : Nat) (1 : Nat)], ver := (0 : Nat) }, { c := BC.typ (Cont.ints IntKind.i64 (List.take q os ++ List.take (1 : Nat) (List.drop (0 : Nat) ((List.replicate (1 : Nat) (0 : Int)).set (0 : Nat) (tr.w.sv cs pl.toNat k.toNat))))), ver := (0 : Nat) }]) else none else none else none else bif true && true && (true && true && true) then bif decide (q = os.length) && wo.sp p os && (true && (false && true) && true || true && true) then bif true && true && (true && true && true) then bif true && true && (true && true && true) && true then some (AVal.tup [AVal.agg [AVal.int IntKind.i64 p, AVal.own (2 : Nat) (0 : Nat) q (0 : Nat) (1 : Nat)], AVal.bool true], [{ c := BC.cells [AVal.int IntKind.i64 p, AVal.own (2 : Nat) (0 : Nat) q (0 : Nat) (1 : Nat)], ver := (0 : Nat) }, { c := BC.cells [AVal.int IntKind.i64 p, AVal.own (2 : Nat) (0 : Nat) q (0 : Nat) (1 : Nat)], ver := (0 : Nat) }, { c := BC.typ (Cont.ints IntKind.i64 os), ver := (0 : Nat) }]) else none else none else none else none) := by kernel_rfl
theorem loop (pl : Int) (cs : List Int) (p f : Nat) (hp : 1 ≤ p ∧ p ≤ 6) (hpl : pl = (p : Int)) (hx : tr.ways.sp pl cs = true) (hs : wo.sp (p : Int) (fs.ls.sv (tr.w.sv cs pl.toNat) (2 ^ p)) = true) : ∀ (d k n : Nat), k + d = 2 ^ p - 1 → d < n →
    regc [2] (L f n (mkS 29 [(1, .fn 108 [.rom [.int .i64 pl] 0, .rom [.ro (.ints .i64 cs) cs.length 1] 0]), (4, .ptr 0 0 0), (6, .ptr 1 0 0), (11, .int .i64 ((2 ^ p : Nat) : Int)), (12, .int .i64 ((k + 1 : Nat) : Int))] [⟨.cells [.int .i64 0, .nils], 0⟩, ⟨.cells [.int .i64 ((p : Nat) : Int), .own 2 0 (k + 1) 0 1], 0⟩, ⟨.typ (.ints .i64 (fs.ls.sv (tr.w.sv cs pl.toNat) (k + 1))), 0⟩])) = some (.tup [.agg [.int .i64 ((p : Nat) : Int), .own 0 0 (2 ^ p) 0 1], .bool true], [⟨.typ (.ints .i64 (fs.ls.sv (tr.w.sv cs pl.toNat) (2 ^ p))), 0⟩]) := by
  intro d
  induction d with
  | zero =>
    intro k n hk hn
    obtain ⟨n, rfl⟩ : ∃ k, n = k + 1 := ⟨n - 1, by omega⟩
    obtain rfl : k = 2 ^ p - 1 := by omega
    have hpp := wo.pow_pos p
    have hl := fs.ls_length (tr.w.sv cs pl.toNat) (2 ^ p - 1 + 1)
    have e : 2 ^ p - 1 + 1 = 2 ^ p := by omega
    rw [e] at hl ⊢
    rw [round]
    simp -implicitDefEqProofs (disch := omega) only [hs, hl, take_one, set_one, decide_eq_true, decide_eq_false, IntWalk.i64_in, beqT, beqF, bneT, bneF, nat_succ, ← Int.natCast_mul, ← Int.natCast_add, Int.toNat_natCast, Int.zero_mul, Int.zero_add, Int.add_zero, Nat.zero_add, Nat.add_zero, Nat.zero_mul, List.length_singleton, List.length_append, List.length_nil, List.length_cons, List.take_length, List.drop_zero, List.replicate_zero, List.take_nil, List.nil_append, Nat.reduceBEq, Nat.reduceMul, Nat.reduceLeDiff, eq_self, and_self, true_and, and_true, decide_true, decide_false, Bool.and_self, Bool.or_self, Bool.and_true, Bool.true_and, Bool.and_false, Bool.false_and, Bool.or_true, Bool.true_or, Bool.or_false, Bool.false_or, Bool.not_true, Bool.not_false, cond_true, cond_false]
    rfl
  | succ d ih =>
    intro k n hk hn
    obtain ⟨n, rfl⟩ : ∃ k, n = k + 1 := ⟨n - 1, by omega⟩
    have g := ih (k + 1) n (by omega) (by omega)
    have h64 := wo.pow_le hp.2
    have hl := fs.ls_length (tr.w.sv cs pl.toNat) (k + 1)
    have ht : (fs.ls.sv (tr.w.sv cs pl.toNat) (k + 1)).take (k + 1) = fs.ls.sv (tr.w.sv cs pl.toNat) (k + 1) := List.take_of_length_le (by omega)
    rw [fs.ls.sv] at g
    have hpw : 2 ^ pl.toNat = 2 ^ p := by rw [hpl, Int.toNat_natCast]
    rw [round]
    simp -implicitDefEqProofs (disch := omega) only [ht, hx, take_one, set_one, decide_eq_true, decide_eq_false, IntWalk.i64_in, beqT, beqF, bneT, bneF, nat_succ, ← Int.natCast_mul, ← Int.natCast_add, Int.toNat_natCast, Int.zero_mul, Int.zero_add, Int.add_zero, Nat.zero_add, Nat.add_zero, Nat.zero_mul, List.length_singleton, List.length_append, List.length_nil, List.length_cons, List.take_length, List.drop_zero, List.replicate_zero, List.take_nil, List.nil_append, Nat.reduceBEq, Nat.reduceMul, Nat.reduceLeDiff, eq_self, and_self, true_and, and_true, decide_true, decide_false, Bool.and_self, Bool.or_self, Bool.and_true, Bool.true_and, Bool.and_false, Bool.false_and, Bool.or_true, Bool.true_or, Bool.or_false, Bool.false_or, Bool.not_true, Bool.not_false, cond_true, cond_false]
    exact g
theorem run : ∀ args v new, R args = some (true, v, new) → ∃ fuel, regc [2] (runFn Try.prog (orc [⟨108, cloTree.R⟩, ⟨72, iValidWorths.R⟩]) hd Dr.std none fuel (bodyOf Try.f99) 29 [.cell 4 41, 5] args []) = some (v, new) := by
  intro args v new h
  unfold R at h
  split at h
  · rename_i p ff pl cs m
    simp only [Option.some.injEq, Prod.mk.injEq, Bool.and_eq_true, decide_eq_true_eq] at h
    obtain ⟨⟨⟨h1, h2, rfl, hpl, rfl⟩, hx, hs⟩, rfl, rfl⟩ := h
    obtain ⟨p, rfl⟩ : ∃ q : Nat, p = q := ⟨p.toNat, by omega⟩
    rw [Int.toNat_natCast] at hs
    have s1 := wo.shl_one p (by omega)
    have hpp := wo.pow_pos p
    have h64 := wo.pow_le (p := p) (by omega)
    obtain ⟨F, hF⟩ : ∃ F : Nat, F = 100 := ⟨100, rfl⟩
    refine ⟨F + 1, ?_⟩
    have hpw : 2 ^ pl.toNat = 2 ^ p := by rw [hpl, Int.toNat_natCast]
    have g := loop pl cs p (F + 1) ⟨by omega, by omega⟩ hpl hx hs (2 ^ p - 1) 0 F (by omega) (by omega)
    rw [start]
    simp -implicitDefEqProofs (disch := omega) only [s1, take_one, set_one, decide_eq_true, decide_eq_false, IntWalk.i64_in, beqT, beqF, bneT, bneF, nat_succ, ← Int.natCast_mul, ← Int.natCast_add, Int.toNat_natCast, Int.zero_mul, Int.zero_add, Int.add_zero, Nat.zero_add, Nat.add_zero, Nat.zero_mul, List.length_singleton, List.length_append, List.length_nil, List.length_cons, List.take_length, List.drop_zero, List.replicate_zero, List.take_nil, List.nil_append, Nat.reduceBEq, Nat.reduceMul, Nat.reduceLeDiff, eq_self, and_self, true_and, and_true, decide_true, decide_false, Bool.and_self, Bool.or_self, Bool.and_true, Bool.true_and, Bool.and_false, Bool.false_and, Bool.or_true, Bool.true_or, Bool.or_false, Bool.false_or, Bool.not_true, Bool.not_false, cond_true, cond_false]
    rw [round0]
    simp -implicitDefEqProofs (disch := omega) only [s1, hx, take_one, set_one, decide_eq_true, decide_eq_false, IntWalk.i64_in, beqT, beqF, bneT, bneF, nat_succ, ← Int.natCast_mul, ← Int.natCast_add, Int.toNat_natCast, Int.zero_mul, Int.zero_add, Int.add_zero, Nat.zero_add, Nat.add_zero, Nat.zero_mul, List.length_singleton, List.length_append, List.length_nil, List.length_cons, List.take_length, List.drop_zero, List.replicate_zero, List.take_nil, List.nil_append, Nat.reduceBEq, Nat.reduceMul, Nat.reduceLeDiff, eq_self, and_self, true_and, and_true, decide_true, decide_false, Bool.and_self, Bool.or_self, Bool.and_true, Bool.true_and, Bool.and_false, Bool.false_and, Bool.or_true, Bool.true_or, Bool.or_false, Bool.false_or, Bool.not_true, Bool.not_false, cond_true, cond_false]
    exact g
  · cases h
theorem ok : EntOk Try.prog ⟨99, R⟩ :=
  ent_okAG (ks := [2]) mixed (A := (orc [⟨108, cloTree.R⟩, ⟨72, iValidWorths.R⟩])) (orc_ok (by simp only [List.mem_cons, List.not_mem_nil, or_false, forall_eq_or_imp, forall_eq]; exact ⟨cloTree.ok, iValidWorths.ok⟩)) Try.func99 (by kernel_rfl) (by kernel_rfl) (n := 29) (ts := [.cell 4 41, 5]) (hd := hd) (dr := Dr.std) (cut := none) (by kernel_rfl) (by kernel_rfl) (by kernel_rfl) run
end madeTree

namespace iTreeWorths
def R : List AVal → Option (Bool × AVal × List Blk)
  | [.int .i64 p, .ro (.ints .i64 cs) m 1] => some (decide (m = cs.length) && tr.ways.sp p cs, .tup [.agg [.int .i64 p, .own 0 0 (2 ^ p.toNat) 0 1], .bool true], [⟨.typ (.ints .i64 (fs.ls.sv (tr.w.sv cs p.toNat) (2 ^ p.toNat))), 0⟩])
  | _ => none
theorem go (p : Int) (cs : List Int) :
  runFn Try.prog (orc [⟨107, areWays.R⟩, ⟨99, madeTree.R⟩]) hd0 Dr.std none 0 (bodyOf Try.f50) 16 [.cell 4 41, 5] [.int .i64 p, .ro (.ints .i64 cs) cs.length 1] []
  = (bif true && true then bif true && true then bif decide (cs.length = cs.length) && tr.ways.sp p cs && (true && (true && true) || true && true) then bif true && true then bif decide ((1 : Int) ≤ p ∧ p ≤ (6 : Int) ∧ (108 : Nat) = (108 : FuncId) ∧ p = p ∧ cs.length = cs.length) && (tr.ways.sp p cs && wo.sp p (fs.ls.sv (tr.w.sv cs p.toNat) ((2 : Nat) ^ p.toNat))) && (true && false || true && (true && true) && true && (true && true)) then bif true && true && (true && true && true) && true then some (AVal.tup [AVal.agg [AVal.int IntKind.i64 p, AVal.own ((2 : Nat) + (1 : Nat) + (0 : Nat)) (0 : Nat) ((2 : Nat) ^ p.toNat) (0 : Nat) (1 : Nat)], AVal.bool true], [{ c := BC.cells [AVal.int IntKind.i64 p], ver := (0 : Nat) }, { c := BC.cells [AVal.ro (Cont.ints IntKind.i64 cs) cs.length (1 : Nat)], ver := (0 : Nat) }, { c := BC.cells [AVal.int IntKind.i64 p, AVal.own ((2 : Nat) + (1 : Nat) + (0 : Nat)) (0 : Nat) ((2 : Nat) ^ p.toNat) (0 : Nat) (1 : Nat)], ver := (0 : Nat) }, { c := BC.typ (Cont.ints IntKind.i64 (fs.ls.sv (tr.w.sv cs p.toNat) ((2 : Nat) ^ p.toNat))), ver := (0 : Nat) }]) else none else none else none else none else none else none) := by kernel_rfl
theorem run : ∀ args v new, R args = some (true, v, new) → ∃ fuel, regc [3] (runFn Try.prog (orc [⟨107, areWays.R⟩, ⟨99, madeTree.R⟩]) hd0 Dr.std none fuel (bodyOf Try.f50) 16 [.cell 4 41, 5] args []) = some (v, new) := by
  intro args v new h
  unfold R at h
  split at h
  · rename_i p cs m
    simp only [Option.some.injEq, Prod.mk.injEq, Bool.and_eq_true, decide_eq_true_eq] at h
    obtain ⟨⟨rfl, hs⟩, rfl, rfl⟩ := h
    have hs2 := hs
    obtain ⟨p, rfl, W⟩ := tr.valid hs2
    have w1 := W.p1
    have w5 := W.p5
    have wl := W.len
    have hl : wo.sp (p : Int) (fs.ls.sv (tr.w.sv cs p) (2 ^ p)) = true := fs.ls_sp w1 (by omega) (tr.w_zero cs p) fun k hk => by
      have := tr.w_in W hk; omega
    refine ⟨0, ?_⟩
    rw [go]
    simp -implicitDefEqProofs (disch := omega) only [hs, hl, take_one, set_one, decide_eq_true, decide_eq_false, IntWalk.i64_in, beqT, beqF, bneT, bneF, nat_succ, ← Int.natCast_mul, ← Int.natCast_add, Int.toNat_natCast, Int.zero_mul, Int.zero_add, Int.add_zero, Nat.zero_add, Nat.add_zero, Nat.zero_mul, List.length_singleton, List.length_append, List.length_nil, List.length_cons, List.take_length, List.drop_zero, List.replicate_zero, List.take_nil, List.nil_append, Nat.reduceBEq, Nat.reduceMul, Nat.reduceLeDiff, eq_self, and_self, true_and, and_true, decide_true, decide_false, Bool.and_self, Bool.or_self, Bool.and_true, Bool.true_and, Bool.and_false, Bool.false_and, Bool.or_true, Bool.true_or, Bool.or_false, Bool.false_or, Bool.not_true, Bool.not_false, cond_true, cond_false]
    rfl
  · cases h
theorem ok : EntOk Try.prog ⟨50, R⟩ :=
  ent_okAG (ks := [3]) mixed (A := (orc [⟨107, areWays.R⟩, ⟨99, madeTree.R⟩])) (orc_ok (by simp only [List.mem_cons, List.not_mem_nil, or_false, forall_eq_or_imp, forall_eq]; exact ⟨areWays.ok, madeTree.ok⟩)) Try.func50 (by kernel_rfl) (by kernel_rfl) (n := 16) (ts := [.cell 4 41, 5]) (hd := hd0) (dr := Dr.std) (cut := none) (by kernel_rfl) (by kernel_rfl) (by kernel_rfl) run
end iTreeWorths

namespace iTreeShares
def R : List AVal → Option (Bool × AVal × List Blk)
  | [.int .i64 p, .ro (.ints .i64 cs) m 1] => some (decide (m = cs.length) && tr.ways.sp p cs, .tup [.own 0 1 p.toNat 0 1, .bool true], [⟨.typ (.ints .i64 (tr.pays.sv cs p.toNat (2 ^ p.toNat - 1))), 0⟩])
  | _ => none
theorem go (p : Int) (cs : List Int) :
  runFn Try.prog (orc [⟨107, areWays.R⟩, ⟨109, join.R⟩]) hd0 Dr.std none 0 (bodyOf Try.f51) 17 [4, 5] [.int .i64 p, .ro (.ints .i64 cs) cs.length 1] []
  = (bif decide (cs.length = cs.length) && tr.ways.sp p cs && (true && (true && true) || true && true) then bif decide ((0 : Int) ≤ p) then bif decide (cs.length = cs.length ∧ (0 : Int) ≤ IntKind.i64.wrap (ishl.sv IntKind.i64 (1 : Int) p - (1 : Int)) ∧ (IntKind.i64.wrap (ishl.sv IntKind.i64 (1 : Int) p - (1 : Int))).toNat < (2 : Nat) ^ p.toNat) && tr.ways.sp p cs && (true && (true && (true && true)) || true && (true && true)) then bif decide ((1 : Int) ≤ (↑(p.toNat + (1 : Nat)) : Int)) && (false || decide ((1 : Nat) < p.toNat + (1 : Nat))) then some (AVal.tup [AVal.own (0 : Nat) (1 : Nat) (p.toNat + (1 : Nat) - (1 : Nat)) (0 : Nat) (1 : Nat), AVal.bool true], [{ c := BC.typ (Cont.ints IntKind.i64 (tr.pays.sv cs p.toNat (IntKind.i64.wrap (ishl.sv IntKind.i64 (1 : Int) p - (1 : Int))).toNat)), ver := (0 : Nat) }]) else none else none else none else none) := by kernel_rfl
theorem run : ∀ args v new, R args = some (true, v, new) → ∃ fuel, runFn Try.prog (orc [⟨107, areWays.R⟩, ⟨109, join.R⟩]) hd0 Dr.std none fuel (bodyOf Try.f51) 17 [4, 5] args [] = some (v, new) := by
  intro args v new h
  unfold R at h
  split at h
  · rename_i p cs m
    simp only [Option.some.injEq, Prod.mk.injEq, Bool.and_eq_true, decide_eq_true_eq] at h
    obtain ⟨⟨rfl, hs⟩, rfl, rfl⟩ := h
    have hs2 := hs
    obtain ⟨p, rfl, W⟩ := tr.valid hs2
    have w1 := W.p1
    have w5 := W.p5
    have wl := W.len
    have s1 := wo.shl_one p (by omega)
    have hpp := wo.pow_pos p
    have h64 := wo.pow_le (p := p) (by omega)
    have e : (((2 ^ p : Nat) : Int) - 1) = ((2 ^ p - 1 : Nat) : Int) := by omega
    refine ⟨0, ?_⟩
    rw [go]
    simp -implicitDefEqProofs (disch := omega) only [hs, s1, e, take_one, set_one, decide_eq_true, decide_eq_false, IntWalk.i64_in, beqT, beqF, bneT, bneF, nat_succ, ← Int.natCast_mul, ← Int.natCast_add, Int.toNat_natCast, Int.zero_mul, Int.zero_add, Int.add_zero, Nat.zero_add, Nat.add_zero, Nat.zero_mul, List.length_singleton, List.length_append, List.length_nil, List.length_cons, List.take_length, List.drop_zero, List.replicate_zero, List.take_nil, List.nil_append, Nat.reduceBEq, Nat.reduceMul, Nat.reduceLeDiff, eq_self, and_self, true_and, and_true, decide_true, decide_false, Bool.and_self, Bool.or_self, Bool.and_true, Bool.true_and, Bool.and_false, Bool.false_and, Bool.or_true, Bool.true_or, Bool.or_false, Bool.false_or, Bool.not_true, Bool.not_false, cond_true, cond_false]
    try rfl
  · cases h
theorem ok : EntOk Try.prog ⟨51, R⟩ :=
  ent_okA mixed (A := (orc [⟨107, areWays.R⟩, ⟨109, join.R⟩])) (orc_ok (by simp only [List.mem_cons, List.not_mem_nil, or_false, forall_eq_or_imp, forall_eq]; exact ⟨areWays.ok, join.ok⟩)) Try.func51 (by kernel_rfl) (by kernel_rfl) (n := 17) (ts := [4, 5]) (hd := hd0) (dr := Dr.std) (cut := none) (by kernel_rfl) (by kernel_rfl) (by kernel_rfl) run
end iTreeShares

namespace l03Costs
def R : List AVal → Option (Bool × AVal × List Blk)
  | [.int .i64 p, .ro (.ints .i64 cs) m 1] => some (decide (m = cs.length) && tr.ways.sp p cs, .bool true, [])
  | _ => none
def hd : Nat → Head := fun i => bif eqN i 0 then ⟨[1, 4, 5, 6], none⟩ else ⟨[1, 4, 5, 6, 7], none⟩
noncomputable def L0 (f n : Nat) (s : State) := loopAt Try.prog (orc [⟨79, l00In.R⟩]) hd Dr.std 0 f (bodyOf Try.f110) 0 [true, true, true, true, false, true] (retK Try.prog [4] 0 none) n s
noncomputable def L2 (f n n2 : Nat) (s : State) := loopAt Try.prog (orc [⟨79, l00In.R⟩]) hd Dr.std 0 f (bodyAt (bodyOf Try.f110) [true, true, true, true, false, true]) (curAt (bodyOf Try.f110) 0 [true, true, true, true, false, true]) [true, false, true] (iterK (normE 0 (hd (curAt (bodyOf Try.f110) 0 [true, true, true, true, false, true]))) (L0 f n) (contAt Try.prog (orc [⟨79, l00In.R⟩]) hd Dr.std 0 f (bodyOf Try.f110) 0 [true, true, true, true, false, true] (retK Try.prog [4] 0 none))) n2 s
theorem start (p : Int) (cs : List Int) (f : Nat) :
  runFn Try.prog (orc [⟨79, l00In.R⟩]) hd Dr.std none f (bodyOf Try.f110) 62 [4] [.int .i64 p, .ro (.ints .i64 cs) cs.length 1] []
  = (bif true && (true && true || true && true) then bif !(decide ((1 : Int) ≤ p) && decide (p ≤ (6 : Int))) then some (AVal.bool false, []) else bif (↑cs.length : Int) != IntKind.i64.wrap (IntKind.i64.wrap (p + (1 : Int)) * IntKind.i64.wrap (p + (1 : Int))) then some (AVal.bool false, []) else L0 f f (mkS (62 : Nat) [((1 : Nat), AVal.ro (Cont.ints IntKind.i64 cs) cs.length (1 : Nat)), ((4 : Nat), AVal.bool false), ((5 : Nat), AVal.int IntKind.i64 (IntKind.i64.wrap (p + (1 : Int)))), ((6 : Nat), AVal.int IntKind.i64 (0 : Int))] []) else none) := by kernel_rfl
theorem round0 (nn i : Int) (cs : List Int) (f n : Nat) :
  L0 f (n + 1) (mkS 62 [(1, .ro (.ints .i64 cs) cs.length 1), (4, .bool false), (5, .int .i64 nn), (6, .int .i64 i)] [])
  = (bif decide (i < nn) then L2 f n f (mkS (62 : Nat) [((1 : Nat), AVal.ro (Cont.ints IntKind.i64 cs) cs.length (1 : Nat)), ((4 : Nat), AVal.bool false), ((5 : Nat), AVal.int IntKind.i64 nn), ((6 : Nat), AVal.int IntKind.i64 i), ((7 : Nat), AVal.int IntKind.i64 (0 : Int))] []) else some (AVal.bool true, [])) := by kernel_rfl
theorem round2 (nn i k : Int) (cs : List Int) (f n n2 : Nat) :
  L2 f n (n2 + 1) (mkS 62 [(1, .ro (.ints .i64 cs) cs.length 1), (4, .bool false), (5, .int .i64 nn), (6, .int .i64 i), (7, .int .i64 k)] [])
  = (bif decide (k < nn) then bif true && (decide ((0 : Int) ≤ IntKind.i64.wrap (IntKind.i64.wrap (i * nn) + k)) && decide (IntKind.i64.wrap (IntKind.i64.wrap (i * nn) + k) < (↑cs.length : Int))) then bif decide ((IntKind.i64.wrap (IntKind.i64.wrap (i * nn) + k)).toNat < cs.length) then bif true && (true && true || true && true) then bif !(decide ((0 : Int) ≤ gz cs (IntKind.i64.wrap (IntKind.i64.wrap (i * nn) + k)).toNat) && decide (gz cs (IntKind.i64.wrap (IntKind.i64.wrap (i * nn) + k)).toNat ≤ (1000 : Int))) then some (AVal.bool false, []) else bif true && (decide ((0 : Int) ≤ IntKind.i64.wrap (IntKind.i64.wrap (k * nn) + i)) && decide (IntKind.i64.wrap (IntKind.i64.wrap (k * nn) + i) < (↑cs.length : Int))) then bif decide ((IntKind.i64.wrap (IntKind.i64.wrap (k * nn) + i)).toNat < cs.length) then bif gz cs (IntKind.i64.wrap (IntKind.i64.wrap (i * nn) + k)).toNat != gz cs (IntKind.i64.wrap (IntKind.i64.wrap (k * nn) + i)).toNat then some (AVal.bool false, []) else bif i == k then bif gz cs (IntKind.i64.wrap (IntKind.i64.wrap (i * nn) + k)).toNat != (0 : Int) then some (AVal.bool false, []) else L2 f n n2 (mkS (62 : Nat) [((1 : Nat), AVal.ro (Cont.ints IntKind.i64 cs) cs.length (1 : Nat)), ((4 : Nat), AVal.bool false), ((5 : Nat), AVal.int IntKind.i64 nn), ((6 : Nat), AVal.int IntKind.i64 i), ((7 : Nat), AVal.int IntKind.i64 (IntKind.i64.wrap (k + (1 : Int))))] []) else L2 f n n2 (mkS (62 : Nat) [((1 : Nat), AVal.ro (Cont.ints IntKind.i64 cs) cs.length (1 : Nat)), ((4 : Nat), AVal.bool false), ((5 : Nat), AVal.int IntKind.i64 nn), ((6 : Nat), AVal.int IntKind.i64 i), ((7 : Nat), AVal.int IntKind.i64 (IntKind.i64.wrap (k + (1 : Int))))] []) else none else none else none else none else none else L0 f n (mkS (62 : Nat) [((1 : Nat), AVal.ro (Cont.ints IntKind.i64 cs) cs.length (1 : Nat)), ((4 : Nat), AVal.bool false), ((5 : Nat), AVal.int IntKind.i64 nn), ((6 : Nat), AVal.int IntKind.i64 (IntKind.i64.wrap (i + (1 : Int))))] [])) := by kernel_rfl
theorem loop2 (p i : Nat) (cs : List Int) (f n : Nat) (W : tr.Ways p cs) (hi : i < p + 1) : ∀ (d k n2 : Nat), k + d = p + 1 → d < n2 →
    L2 f n n2 (mkS 62 [(1, .ro (.ints .i64 cs) cs.length 1), (4, .bool false), (5, .int .i64 ((p + 1 : Nat) : Int)), (6, .int .i64 ((i : Nat) : Int)), (7, .int .i64 ((k : Nat) : Int))] []) = L0 f n (mkS 62 [(1, .ro (.ints .i64 cs) cs.length 1), (4, .bool false), (5, .int .i64 ((p + 1 : Nat) : Int)), (6, .int .i64 ((i + 1 : Nat) : Int))] []) := by
  have w1 := W.p1
  have w5 := W.p5
  have wl := W.len
  have qq : (p + 1) * (p + 1) ≤ 36 := Nat.mul_le_mul (show p + 1 ≤ 6 by omega) (show p + 1 ≤ 6 by omega)
  intro d
  induction d with
  | zero =>
    intro k n2 hk hn
    obtain ⟨n2, rfl⟩ : ∃ k, n2 = k + 1 := ⟨n2 - 1, by omega⟩
    obtain rfl : k = p + 1 := by omega
    rw [round2]
    simp -implicitDefEqProofs (disch := omega) only [take_one, set_one, decide_eq_true, decide_eq_false, IntWalk.i64_in, beqT, beqF, bneT, bneF, nat_succ, ← Int.natCast_mul, ← Int.natCast_add, Int.toNat_natCast, Int.zero_mul, Int.zero_add, Int.add_zero, Nat.zero_add, Nat.add_zero, Nat.zero_mul, List.length_singleton, List.length_append, List.length_nil, List.length_cons, List.take_length, List.drop_zero, List.replicate_zero, List.take_nil, List.nil_append, Nat.reduceBEq, Nat.reduceMul, Nat.reduceLeDiff, eq_self, and_self, true_and, and_true, decide_true, decide_false, Bool.and_self, Bool.or_self, Bool.and_true, Bool.true_and, Bool.and_false, Bool.false_and, Bool.or_true, Bool.true_or, Bool.or_false, Bool.false_or, Bool.not_true, Bool.not_false, cond_true, cond_false]
  | succ d ih =>
    intro k n2 hk hn
    obtain ⟨n2, rfl⟩ : ∃ k, n2 = k + 1 := ⟨n2 - 1, by omega⟩
    have g := ih (k + 1) n2 (by omega) (by omega)
    have hi1 := tr.idx_lt (n := p + 1) (i := i) (k := k) (by omega) (by omega)
    have hi2 := tr.idx_lt (n := p + 1) (i := k) (k := i) (by omega) (by omega)
    have h1 := W.sym i k (by omega) (by omega)
    have h2 := W.c (i * (p + 1) + k)
    have h3 := W.dia i hi
    rw [round2]
    by_cases e : i = k
    · subst e
      simp -implicitDefEqProofs (disch := omega) only [take_one, set_one, decide_eq_true, decide_eq_false, IntWalk.i64_in, beqT, beqF, bneT, bneF, nat_succ, ← Int.natCast_mul, ← Int.natCast_add, Int.toNat_natCast, Int.zero_mul, Int.zero_add, Int.add_zero, Nat.zero_add, Nat.add_zero, Nat.zero_mul, List.length_singleton, List.length_append, List.length_nil, List.length_cons, List.take_length, List.drop_zero, List.replicate_zero, List.take_nil, List.nil_append, Nat.reduceBEq, Nat.reduceMul, Nat.reduceLeDiff, eq_self, and_self, true_and, and_true, decide_true, decide_false, Bool.and_self, Bool.or_self, Bool.and_true, Bool.true_and, Bool.and_false, Bool.false_and, Bool.or_true, Bool.true_or, Bool.or_false, Bool.false_or, Bool.not_true, Bool.not_false, cond_true, cond_false]
      exact g
    · simp -implicitDefEqProofs (disch := omega) only [take_one, set_one, decide_eq_true, decide_eq_false, IntWalk.i64_in, beqT, beqF, bneT, bneF, nat_succ, ← Int.natCast_mul, ← Int.natCast_add, Int.toNat_natCast, Int.zero_mul, Int.zero_add, Int.add_zero, Nat.zero_add, Nat.add_zero, Nat.zero_mul, List.length_singleton, List.length_append, List.length_nil, List.length_cons, List.take_length, List.drop_zero, List.replicate_zero, List.take_nil, List.nil_append, Nat.reduceBEq, Nat.reduceMul, Nat.reduceLeDiff, eq_self, and_self, true_and, and_true, decide_true, decide_false, Bool.and_self, Bool.or_self, Bool.and_true, Bool.true_and, Bool.and_false, Bool.false_and, Bool.or_true, Bool.true_or, Bool.or_false, Bool.false_or, Bool.not_true, Bool.not_false, cond_true, cond_false]
      exact g
theorem loop0 (p : Nat) (cs : List Int) (f : Nat) (W : tr.Ways p cs) (hf : p + 1 < f) : ∀ (d i n : Nat), i + d = p + 1 → d < n →
    L0 f n (mkS 62 [(1, .ro (.ints .i64 cs) cs.length 1), (4, .bool false), (5, .int .i64 ((p + 1 : Nat) : Int)), (6, .int .i64 ((i : Nat) : Int))] []) = some (.bool true, []) := by
  have w1 := W.p1
  have w5 := W.p5
  have wl := W.len
  have qq : (p + 1) * (p + 1) ≤ 36 := Nat.mul_le_mul (show p + 1 ≤ 6 by omega) (show p + 1 ≤ 6 by omega)
  intro d
  induction d with
  | zero =>
    intro i n hk hn
    obtain ⟨n, rfl⟩ : ∃ k, n = k + 1 := ⟨n - 1, by omega⟩
    obtain rfl : i = p + 1 := by omega
    rw [round0]
    simp -implicitDefEqProofs (disch := omega) only [take_one, set_one, decide_eq_true, decide_eq_false, IntWalk.i64_in, beqT, beqF, bneT, bneF, nat_succ, ← Int.natCast_mul, ← Int.natCast_add, Int.toNat_natCast, Int.zero_mul, Int.zero_add, Int.add_zero, Nat.zero_add, Nat.add_zero, Nat.zero_mul, List.length_singleton, List.length_append, List.length_nil, List.length_cons, List.take_length, List.drop_zero, List.replicate_zero, List.take_nil, List.nil_append, Nat.reduceBEq, Nat.reduceMul, Nat.reduceLeDiff, eq_self, and_self, true_and, and_true, decide_true, decide_false, Bool.and_self, Bool.or_self, Bool.and_true, Bool.true_and, Bool.and_false, Bool.false_and, Bool.or_true, Bool.true_or, Bool.or_false, Bool.false_or, Bool.not_true, Bool.not_false, cond_true, cond_false]
  | succ d ih =>
    intro i n hk hn
    obtain ⟨n, rfl⟩ : ∃ k, n = k + 1 := ⟨n - 1, by omega⟩
    have g := ih (i + 1) n (by omega) (by omega)
    have g0 := loop2 p i cs f n W (by omega) (p + 1) 0 f (by omega) (by omega)
    rw [round0]
    simp -implicitDefEqProofs (disch := omega) only [take_one, set_one, decide_eq_true, decide_eq_false, IntWalk.i64_in, beqT, beqF, bneT, bneF, nat_succ, ← Int.natCast_mul, ← Int.natCast_add, Int.toNat_natCast, Int.zero_mul, Int.zero_add, Int.add_zero, Nat.zero_add, Nat.add_zero, Nat.zero_mul, List.length_singleton, List.length_append, List.length_nil, List.length_cons, List.take_length, List.drop_zero, List.replicate_zero, List.take_nil, List.nil_append, Nat.reduceBEq, Nat.reduceMul, Nat.reduceLeDiff, eq_self, and_self, true_and, and_true, decide_true, decide_false, Bool.and_self, Bool.or_self, Bool.and_true, Bool.true_and, Bool.and_false, Bool.false_and, Bool.or_true, Bool.true_or, Bool.or_false, Bool.false_or, Bool.not_true, Bool.not_false, cond_true, cond_false]
    exact g0.trans g
theorem run : ∀ args v new, R args = some (true, v, new) → ∃ fuel, runFn Try.prog (orc [⟨79, l00In.R⟩]) hd Dr.std none fuel (bodyOf Try.f110) 62 [4] args [] = some (v, new) := by
  intro args v new h
  unfold R at h
  split at h
  · rename_i p cs m
    simp only [Option.some.injEq, Prod.mk.injEq, Bool.and_eq_true, decide_eq_true_eq] at h
    obtain ⟨⟨rfl, hs⟩, rfl, rfl⟩ := h
    have hs2 := hs
    obtain ⟨p, rfl, W⟩ := tr.valid hs2
    have w1 := W.p1
    have w5 := W.p5
    have wl := W.len
    have q : (p + 1) * (p + 1) ≤ 36 := Nat.mul_le_mul (show p + 1 ≤ 6 by omega) (show p + 1 ≤ 6 by omega)
    have g := loop0 p cs 100 W (by omega) (p + 1) 0 100 (by omega) (by omega)
    obtain ⟨F, hF⟩ : ∃ F : Nat, F = 100 := ⟨100, rfl⟩
    rw [← hF] at g
    refine ⟨F, ?_⟩
    rw [start]
    simp -implicitDefEqProofs (disch := omega) only [take_one, set_one, decide_eq_true, decide_eq_false, IntWalk.i64_in, beqT, beqF, bneT, bneF, nat_succ, ← Int.natCast_mul, ← Int.natCast_add, Int.toNat_natCast, Int.zero_mul, Int.zero_add, Int.add_zero, Nat.zero_add, Nat.add_zero, Nat.zero_mul, List.length_singleton, List.length_append, List.length_nil, List.length_cons, List.take_length, List.drop_zero, List.replicate_zero, List.take_nil, List.nil_append, Nat.reduceBEq, Nat.reduceMul, Nat.reduceLeDiff, eq_self, and_self, true_and, and_true, decide_true, decide_false, Bool.and_self, Bool.or_self, Bool.and_true, Bool.true_and, Bool.and_false, Bool.false_and, Bool.or_true, Bool.true_or, Bool.or_false, Bool.false_or, Bool.not_true, Bool.not_false, cond_true, cond_false]
    exact g
  · cases h
theorem ok : EntOk Try.prog ⟨110, R⟩ :=
  ent_okA mixed (A := (orc [⟨79, l00In.R⟩])) (orc_ok (by simp only [List.mem_cons, List.not_mem_nil, or_false, forall_eq_or_imp, forall_eq]; exact l00In.ok)) Try.func110 (by kernel_rfl) (by kernel_rfl) (n := 62) (ts := [4]) (hd := hd) (dr := Dr.std) (cut := none) (by kernel_rfl) (by kernel_rfl) (by kernel_rfl) run
end l03Costs

namespace tr
theorem bl_gb (J : Nat) {n i : Nat} (h : i < n) : gb (bl.sv J n) i = !wo.off.sp J i := by
  show (bl.sv J n).getD i false = _
  rw [List.getD_eq_getElem?_getD, bl_get J h]; rfl
theorem drop_set {l : List Int} {t : Nat} {v : Int} (h : 1 ≤ t) : (l.set t v).drop 1 = (l.drop 1).set (t - 1) v := by
  obtain ⟨t, rfl⟩ : ∃ k, t = k + 1 := ⟨t - 1, by omega⟩
  cases l with
  | nil => rfl
  | cons a r => rfl
theorem bl_start : ∀ n < 7, 1 ≤ n → (List.replicate n false).set 0 true = bl.sv 1 n := by decide +kernel
end tr

namespace l03Tree
def R : List AVal → Option (Bool × AVal × List Blk)
  | [.int .i64 p, .ro (.ints .i64 cs) m 1, .int .i64 s] => some (decide (m = cs.length ∧ 0 ≤ s ∧ s.toNat < 2 ^ p.toNat) && tr.ways.sp p cs, .own 0 0 p.toNat 0 1, [⟨.typ (.ints .i64 ((tr.pays.sv cs p.toNat s.toNat).drop 1)), 0⟩])
  | _ => none
def hd : Nat → Head := fun i => bif eqN i 0 then ⟨[1, 2, 7, 8, 9, 10, 998], none⟩ else bif eqN i 2 then ⟨[1, 2, 7, 8, 9, 10, 11, 12, 13, 998], none⟩ else ⟨[1, 2, 7, 8, 9, 10, 11, 12, 13, 14, 998], none⟩
noncomputable def L0 (f n : Nat) (s : State) := loopAt Try.prog (orc [⟨124, l03Count.R⟩, ⟨86, l03In.R⟩]) hd Dr.std 0 f (bodyOf Try.f111) 0 [true, true, true, true, true, false, true] (retK Try.prog [6] 0 none) n s
noncomputable def L2 (f n n2 : Nat) (s : State) := loopAt Try.prog (orc [⟨124, l03Count.R⟩, ⟨86, l03In.R⟩]) hd Dr.std 0 f (bodyAt (bodyOf Try.f111) [true, true, true, true, true, false, true]) (curAt (bodyOf Try.f111) 0 [true, true, true, true, true, false, true]) [true, false, true, true, false, true] (iterK (normE 0 (hd (curAt (bodyOf Try.f111) 0 [true, true, true, true, true, false, true]))) (L0 f n) (contAt Try.prog (orc [⟨124, l03Count.R⟩, ⟨86, l03In.R⟩]) hd Dr.std 0 f (bodyOf Try.f111) 0 [true, true, true, true, true, false, true] (retK Try.prog [6] 0 none))) n2 s
noncomputable def L4 (f n n2 n3 : Nat) (s : State) := loopAt Try.prog (orc [⟨124, l03Count.R⟩, ⟨86, l03In.R⟩]) hd Dr.std 0 f (bodyAt (bodyAt (bodyOf Try.f111) [true, true, true, true, true, false, true]) [true, false, true, true, false, true]) (curAt (bodyAt (bodyOf Try.f111) [true, true, true, true, true, false, true]) (curAt (bodyOf Try.f111) 0 [true, true, true, true, true, false, true]) [true, false, true, true, false, true]) [true, false, true] (iterK (normE 0 (hd (curAt (bodyAt (bodyOf Try.f111) [true, true, true, true, true, false, true]) (curAt (bodyOf Try.f111) 0 [true, true, true, true, true, false, true]) [true, false, true, true, false, true]))) (L2 f n n2) (contAt Try.prog (orc [⟨124, l03Count.R⟩, ⟨86, l03In.R⟩]) hd Dr.std 0 f (bodyAt (bodyOf Try.f111) [true, true, true, true, true, false, true]) (curAt (bodyOf Try.f111) 0 [true, true, true, true, true, false, true]) [true, false, true, true, false, true] (iterK (normE 0 (hd (curAt (bodyOf Try.f111) 0 [true, true, true, true, true, false, true]))) (L0 f n) (contAt Try.prog (orc [⟨124, l03Count.R⟩, ⟨86, l03In.R⟩]) hd Dr.std 0 f (bodyOf Try.f111) 0 [true, true, true, true, true, false, true] (retK Try.prog [6] 0 none))))) n3 s
theorem start (p : Int) (s : Int) (cs : List Int) (f : Nat) :
  runFn Try.prog (orc [⟨124, l03Count.R⟩, ⟨86, l03In.R⟩]) hd Dr.std none f (bodyOf Try.f111) 90 [6] [.int .i64 p, .ro (.ints .i64 cs) cs.length 1, .int .i64 s] []
  = (bif (1 : Nat) == (1 : Nat) && (IntKind.i64.wrap (p + (1 : Int)) == IntKind.i64.wrap (p + (1 : Int)) && (decide ((0 : Int) ≤ IntKind.i64.wrap (p + (1 : Int))) && (decide (IntKind.i64.wrap (p + (1 : Int)) * (1 : Int) ≤ (140737488355328 : Int)) && decide (IntKind.i64.wrap (p + (1 : Int)) ≤ (4611686018427387904 : Int))))) then bif decide ((0 : Int) < (↑(IntKind.i64.wrap (p + (1 : Int))).toNat : Int)) then bif true && (true && (decide ((0 : Nat) < (List.replicate (IntKind.i64.wrap (p + (1 : Int))).toNat false).length) && true)) then bif (1 : Nat) == (1 : Nat) && (p == p && (decide ((0 : Int) ≤ p) && (decide (p * (8 : Int) ≤ (140737488355328 : Int)) && decide (p ≤ (4611686018427387904 : Int))))) then bif decide ((0 : Int) ≤ s ∧ s < (64 : Int)) && (true && true || true && true) then L0 f f (mkS (90 : Nat) [((1 : Nat), AVal.ro (Cont.ints IntKind.i64 cs) cs.length (1 : Nat)), ((2 : Nat), AVal.int IntKind.i64 s), ((7 : Nat), AVal.int IntKind.i64 (IntKind.i64.wrap (p + (1 : Int)))), ((8 : Nat), AVal.own (0 : Nat) (0 : Nat) (IntKind.i64.wrap (p + (1 : Int))).toNat (0 : Nat) (1 : Nat)), ((9 : Nat), AVal.own (1 : Nat) (0 : Nat) p.toNat (0 : Nat) (1 : Nat)), ((10 : Nat), AVal.int IntKind.i64 (↑(wo.cnt.sv s.toNat) : Int))] [{ c := BC.typ (Cont.bools ((List.replicate (IntKind.i64.wrap (p + (1 : Int))).toNat false).set (0 : Nat) true)), ver := (0 : Nat) }, { c := BC.typ (Cont.ints IntKind.i64 (List.replicate p.toNat (0 : Int))), ver := (0 : Nat) }]) else none else none else none else none else none) := by kernel_rfl
theorem round0 (s nn l : Int) (cs os : List Int) (bs : List Bool) (qb qo f n : Nat) :
  L0 f (n + 1) (mkS 90 [(1, .ro (.ints .i64 cs) cs.length 1), (2, .int .i64 s), (7, .int .i64 nn), (8, .own 0 0 qb 0 1), (9, .own 1 0 qo 0 1), (10, .int .i64 l)] [⟨.typ (.bools bs), 0⟩, ⟨.typ (.ints .i64 os), 0⟩])
  = (bif decide ((0 : Int) < l) then L2 f n f (mkS (90 : Nat) [((1 : Nat), AVal.ro (Cont.ints IntKind.i64 cs) cs.length (1 : Nat)), ((2 : Nat), AVal.int IntKind.i64 s), ((7 : Nat), AVal.int IntKind.i64 nn), ((8 : Nat), AVal.own (0 : Nat) (0 : Nat) qb (0 : Nat) (1 : Nat)), ((9 : Nat), AVal.own (1 : Nat) (0 : Nat) qo (0 : Nat) (1 : Nat)), ((10 : Nat), AVal.int IntKind.i64 l), ((11 : Nat), AVal.int IntKind.i64 (-1 : Int)), ((12 : Nat), AVal.int IntKind.i64 (0 : Int)), ((13 : Nat), AVal.int IntKind.i64 (0 : Int))] [{ c := BC.typ (Cont.bools bs), ver := (0 : Nat) }, { c := BC.typ (Cont.ints IntKind.i64 os), ver := (0 : Nat) }]) else some (AVal.own (1 : Nat) (0 : Nat) qo (0 : Nat) (1 : Nat), [{ c := BC.typ (Cont.bools bs), ver := (0 : Nat) }, { c := BC.typ (Cont.ints IntKind.i64 os), ver := (0 : Nat) }])) := by kernel_rfl
theorem round2 (to le i : Int) (s nn l : Int) (cs os : List Int) (bs : List Bool) (qb qo f n : Nat) (n2 : Nat) :
  L2 f n (n2 + 1) (mkS 90 [(1, .ro (.ints .i64 cs) cs.length 1), (2, .int .i64 s), (7, .int .i64 nn), (8, .own 0 0 qb 0 1), (9, .own 1 0 qo 0 1), (10, .int .i64 l), (11, .int .i64 to), (12, .int .i64 le), (13, .int .i64 i)] [⟨.typ (.bools bs), 0⟩, ⟨.typ (.ints .i64 os), 0⟩])
  = (bif decide (i < nn) then L4 f n n2 f (mkS (90 : Nat) [((1 : Nat), AVal.ro (Cont.ints IntKind.i64 cs) cs.length (1 : Nat)), ((2 : Nat), AVal.int IntKind.i64 s), ((7 : Nat), AVal.int IntKind.i64 nn), ((8 : Nat), AVal.own (0 : Nat) (0 : Nat) qb (0 : Nat) (1 : Nat)), ((9 : Nat), AVal.own (1 : Nat) (0 : Nat) qo (0 : Nat) (1 : Nat)), ((10 : Nat), AVal.int IntKind.i64 l), ((11 : Nat), AVal.int IntKind.i64 to), ((12 : Nat), AVal.int IntKind.i64 le), ((13 : Nat), AVal.int IntKind.i64 i), ((14 : Nat), AVal.int IntKind.i64 (1 : Int))] [{ c := BC.typ (Cont.bools bs), ver := (0 : Nat) }, { c := BC.typ (Cont.ints IntKind.i64 os), ver := (0 : Nat) }]) else bif true && (decide ((0 : Int) ≤ to) && decide (to < (↑qb : Int))) then bif true && (true && (decide (to.toNat < bs.length) && true)) then bif true && (decide ((0 : Int) ≤ IntKind.i64.wrap (to - (1 : Int))) && decide (IntKind.i64.wrap (to - (1 : Int)) < (↑qo : Int))) then bif true && (true && (decide ((IntKind.i64.wrap (to - (1 : Int))).toNat < os.length) && true)) then L0 f n (mkS (90 : Nat) [((1 : Nat), AVal.ro (Cont.ints IntKind.i64 cs) cs.length (1 : Nat)), ((2 : Nat), AVal.int IntKind.i64 s), ((7 : Nat), AVal.int IntKind.i64 nn), ((8 : Nat), AVal.own (0 : Nat) (0 : Nat) qb (0 : Nat) (1 : Nat)), ((9 : Nat), AVal.own (1 : Nat) (0 : Nat) qo (0 : Nat) (1 : Nat)), ((10 : Nat), AVal.int IntKind.i64 (IntKind.i64.wrap (l - (1 : Int))))] [{ c := BC.typ (Cont.bools (bs.set to.toNat true)), ver := (0 : Nat) }, { c := BC.typ (Cont.ints IntKind.i64 (os.set (IntKind.i64.wrap (to - (1 : Int))).toNat le)), ver := (0 : Nat) }]) else none else none else none else none) := by kernel_rfl
theorem round4 (to le i k : Int) (s nn l : Int) (cs os : List Int) (bs : List Bool) (qb qo f n : Nat) (n2 n3 : Nat) :
  L4 f n n2 (n3 + 1) (mkS 90 [(1, .ro (.ints .i64 cs) cs.length 1), (2, .int .i64 s), (7, .int .i64 nn), (8, .own 0 0 qb 0 1), (9, .own 1 0 qo 0 1), (10, .int .i64 l), (11, .int .i64 to), (12, .int .i64 le), (13, .int .i64 i), (14, .int .i64 k)] [⟨.typ (.bools bs), 0⟩, ⟨.typ (.ints .i64 os), 0⟩])
  = (bif decide (k < nn) then bif true && (decide ((0 : Int) ≤ i) && decide (i < (↑qb : Int))) then bif true && decide (i.toNat < bs.length) then bif gb bs i.toNat then bif true && (decide ((0 : Int) ≤ k) && decide (k < (↑qb : Int))) then bif true && decide (k.toNat < bs.length) then bif !gb bs k.toNat then bif decide ((0 : Int) ≤ s ∧ s < (64 : Int) ∧ (0 : Int) ≤ IntKind.i64.wrap (k - (1 : Int)) ∧ IntKind.i64.wrap (k - (1 : Int)) < (6 : Int)) && (true && (true && true) || true && true) then bif !wo.off.sp s.toNat (IntKind.i64.wrap (k - (1 : Int))).toNat then bif decide (to < (0 : Int)) then bif true && (decide ((0 : Int) ≤ IntKind.i64.wrap (IntKind.i64.wrap (i * nn) + k)) && decide (IntKind.i64.wrap (IntKind.i64.wrap (i * nn) + k) < (↑cs.length : Int))) then bif decide ((IntKind.i64.wrap (IntKind.i64.wrap (i * nn) + k)).toNat < cs.length) then L4 f n n2 n3 (mkS (90 : Nat) [((1 : Nat), AVal.ro (Cont.ints IntKind.i64 cs) cs.length (1 : Nat)), ((2 : Nat), AVal.int IntKind.i64 s), ((7 : Nat), AVal.int IntKind.i64 nn), ((8 : Nat), AVal.own (0 : Nat) (0 : Nat) qb (0 : Nat) (1 : Nat)), ((9 : Nat), AVal.own (1 : Nat) (0 : Nat) qo (0 : Nat) (1 : Nat)), ((10 : Nat), AVal.int IntKind.i64 l), ((11 : Nat), AVal.int IntKind.i64 k), ((12 : Nat), AVal.int IntKind.i64 (gz cs (IntKind.i64.wrap (IntKind.i64.wrap (i * nn) + k)).toNat)), ((13 : Nat), AVal.int IntKind.i64 i), ((14 : Nat), AVal.int IntKind.i64 (IntKind.i64.wrap (k + (1 : Int))))] [{ c := BC.typ (Cont.bools bs), ver := (0 : Nat) }, { c := BC.typ (Cont.ints IntKind.i64 os), ver := (0 : Nat) }]) else none else none else bif true && (decide ((0 : Int) ≤ IntKind.i64.wrap (IntKind.i64.wrap (i * nn) + k)) && decide (IntKind.i64.wrap (IntKind.i64.wrap (i * nn) + k) < (↑cs.length : Int))) then bif decide ((IntKind.i64.wrap (IntKind.i64.wrap (i * nn) + k)).toNat < cs.length) then bif decide (gz cs (IntKind.i64.wrap (IntKind.i64.wrap (i * nn) + k)).toNat < le) then bif true && (decide ((0 : Int) ≤ IntKind.i64.wrap (IntKind.i64.wrap (i * nn) + k)) && decide (IntKind.i64.wrap (IntKind.i64.wrap (i * nn) + k) < (↑cs.length : Int))) then bif decide ((IntKind.i64.wrap (IntKind.i64.wrap (i * nn) + k)).toNat < cs.length) then L4 f n n2 n3 (mkS (90 : Nat) [((1 : Nat), AVal.ro (Cont.ints IntKind.i64 cs) cs.length (1 : Nat)), ((2 : Nat), AVal.int IntKind.i64 s), ((7 : Nat), AVal.int IntKind.i64 nn), ((8 : Nat), AVal.own (0 : Nat) (0 : Nat) qb (0 : Nat) (1 : Nat)), ((9 : Nat), AVal.own (1 : Nat) (0 : Nat) qo (0 : Nat) (1 : Nat)), ((10 : Nat), AVal.int IntKind.i64 l), ((11 : Nat), AVal.int IntKind.i64 k), ((12 : Nat), AVal.int IntKind.i64 (gz cs (IntKind.i64.wrap (IntKind.i64.wrap (i * nn) + k)).toNat)), ((13 : Nat), AVal.int IntKind.i64 i), ((14 : Nat), AVal.int IntKind.i64 (IntKind.i64.wrap (k + (1 : Int))))] [{ c := BC.typ (Cont.bools bs), ver := (0 : Nat) }, { c := BC.typ (Cont.ints IntKind.i64 os), ver := (0 : Nat) }]) else none else none else L4 f n n2 n3 (mkS (90 : Nat) [((1 : Nat), AVal.ro (Cont.ints IntKind.i64 cs) cs.length (1 : Nat)), ((2 : Nat), AVal.int IntKind.i64 s), ((7 : Nat), AVal.int IntKind.i64 nn), ((8 : Nat), AVal.own (0 : Nat) (0 : Nat) qb (0 : Nat) (1 : Nat)), ((9 : Nat), AVal.own (1 : Nat) (0 : Nat) qo (0 : Nat) (1 : Nat)), ((10 : Nat), AVal.int IntKind.i64 l), ((11 : Nat), AVal.int IntKind.i64 to), ((12 : Nat), AVal.int IntKind.i64 le), ((13 : Nat), AVal.int IntKind.i64 i), ((14 : Nat), AVal.int IntKind.i64 (IntKind.i64.wrap (k + (1 : Int))))] [{ c := BC.typ (Cont.bools bs), ver := (0 : Nat) }, { c := BC.typ (Cont.ints IntKind.i64 os), ver := (0 : Nat) }]) else none else none else L4 f n n2 n3 (mkS (90 : Nat) [((1 : Nat), AVal.ro (Cont.ints IntKind.i64 cs) cs.length (1 : Nat)), ((2 : Nat), AVal.int IntKind.i64 s), ((7 : Nat), AVal.int IntKind.i64 nn), ((8 : Nat), AVal.own (0 : Nat) (0 : Nat) qb (0 : Nat) (1 : Nat)), ((9 : Nat), AVal.own (1 : Nat) (0 : Nat) qo (0 : Nat) (1 : Nat)), ((10 : Nat), AVal.int IntKind.i64 l), ((11 : Nat), AVal.int IntKind.i64 to), ((12 : Nat), AVal.int IntKind.i64 le), ((13 : Nat), AVal.int IntKind.i64 i), ((14 : Nat), AVal.int IntKind.i64 (IntKind.i64.wrap (k + (1 : Int))))] [{ c := BC.typ (Cont.bools bs), ver := (0 : Nat) }, { c := BC.typ (Cont.ints IntKind.i64 os), ver := (0 : Nat) }]) else none else L4 f n n2 n3 (mkS (90 : Nat) [((1 : Nat), AVal.ro (Cont.ints IntKind.i64 cs) cs.length (1 : Nat)), ((2 : Nat), AVal.int IntKind.i64 s), ((7 : Nat), AVal.int IntKind.i64 nn), ((8 : Nat), AVal.own (0 : Nat) (0 : Nat) qb (0 : Nat) (1 : Nat)), ((9 : Nat), AVal.own (1 : Nat) (0 : Nat) qo (0 : Nat) (1 : Nat)), ((10 : Nat), AVal.int IntKind.i64 l), ((11 : Nat), AVal.int IntKind.i64 to), ((12 : Nat), AVal.int IntKind.i64 le), ((13 : Nat), AVal.int IntKind.i64 i), ((14 : Nat), AVal.int IntKind.i64 (IntKind.i64.wrap (k + (1 : Int))))] [{ c := BC.typ (Cont.bools bs), ver := (0 : Nat) }, { c := BC.typ (Cont.ints IntKind.i64 os), ver := (0 : Nat) }]) else none else none else L4 f n n2 n3 (mkS (90 : Nat) [((1 : Nat), AVal.ro (Cont.ints IntKind.i64 cs) cs.length (1 : Nat)), ((2 : Nat), AVal.int IntKind.i64 s), ((7 : Nat), AVal.int IntKind.i64 nn), ((8 : Nat), AVal.own (0 : Nat) (0 : Nat) qb (0 : Nat) (1 : Nat)), ((9 : Nat), AVal.own (1 : Nat) (0 : Nat) qo (0 : Nat) (1 : Nat)), ((10 : Nat), AVal.int IntKind.i64 l), ((11 : Nat), AVal.int IntKind.i64 to), ((12 : Nat), AVal.int IntKind.i64 le), ((13 : Nat), AVal.int IntKind.i64 i), ((14 : Nat), AVal.int IntKind.i64 (IntKind.i64.wrap (k + (1 : Int))))] [{ c := BC.typ (Cont.bools bs), ver := (0 : Nat) }, { c := BC.typ (Cont.ints IntKind.i64 os), ver := (0 : Nat) }]) else none else none else L2 f n n2 (mkS (90 : Nat) [((1 : Nat), AVal.ro (Cont.ints IntKind.i64 cs) cs.length (1 : Nat)), ((2 : Nat), AVal.int IntKind.i64 s), ((7 : Nat), AVal.int IntKind.i64 nn), ((8 : Nat), AVal.own (0 : Nat) (0 : Nat) qb (0 : Nat) (1 : Nat)), ((9 : Nat), AVal.own (1 : Nat) (0 : Nat) qo (0 : Nat) (1 : Nat)), ((10 : Nat), AVal.int IntKind.i64 l), ((11 : Nat), AVal.int IntKind.i64 to), ((12 : Nat), AVal.int IntKind.i64 le), ((13 : Nat), AVal.int IntKind.i64 (IntKind.i64.wrap (i + (1 : Int))))] [{ c := BC.typ (Cont.bools bs), ver := (0 : Nat) }, { c := BC.typ (Cont.ints IntKind.i64 os), ver := (0 : Nat) }])) := by kernel_rfl
theorem loop4 (p s J i : Nat) (a : Int × Int) (l : Int) (cs os : List Int) (f n n2 : Nat) (W : tr.Ways p cs) (hs : s < 2 ^ p) (hJ : J < 2 ^ (p + 1)) (hJ0 : wo.off.sp J 0 = false) (hos : os.length = p) (hi : i < p + 1) : ∀ (d k n3 : Nat), k + d = p + 1 → d < n3 → 1 ≤ k →
    L4 f n n2 n3 (mkS 90 [(1, .ro (.ints .i64 cs) cs.length 1), (2, .int .i64 ((s : Nat) : Int)), (7, .int .i64 ((p + 1 : Nat) : Int)), (8, .own 0 0 (p + 1) 0 1), (9, .own 1 0 p 0 1), (10, .int .i64 l), (11, .int .i64 (tr.inn.sv cs (p + 1) J (2 * s + 1) i a k).1), (12, .int .i64 (tr.inn.sv cs (p + 1) J (2 * s + 1) i a k).2), (13, .int .i64 ((i : Nat) : Int)), (14, .int .i64 ((k : Nat) : Int))] [⟨.typ (.bools (tr.bl.sv J (p + 1))), 0⟩, ⟨.typ (.ints .i64 os), 0⟩]) = L2 f n n2 (mkS 90 [(1, .ro (.ints .i64 cs) cs.length 1), (2, .int .i64 ((s : Nat) : Int)), (7, .int .i64 ((p + 1 : Nat) : Int)), (8, .own 0 0 (p + 1) 0 1), (9, .own 1 0 p 0 1), (10, .int .i64 l), (11, .int .i64 (tr.inn.sv cs (p + 1) J (2 * s + 1) i a (p + 1)).1), (12, .int .i64 (tr.inn.sv cs (p + 1) J (2 * s + 1) i a (p + 1)).2), (13, .int .i64 ((i + 1 : Nat) : Int))] [⟨.typ (.bools (tr.bl.sv J (p + 1))), 0⟩, ⟨.typ (.ints .i64 os), 0⟩]) := by
  have w1 := W.p1
  have w5 := W.p5
  have wl := W.len
  have qq : (p + 1) * (p + 1) ≤ 36 := Nat.mul_le_mul (show p + 1 ≤ 6 by omega) (show p + 1 ≤ 6 by omega)
  have h32 : 2 ^ p ≤ 32 := Nat.pow_le_pow_right (by decide) W.p5
  have h64 : 2 ^ (p + 1) ≤ 64 := wo.pow_le (by have := W.p5; omega)
  intro d
  induction d with
  | zero =>
    intro k n3 hk hn hk1
    obtain ⟨n3, rfl⟩ : ∃ k, n3 = k + 1 := ⟨n3 - 1, by omega⟩
    obtain rfl : k = p + 1 := by omega
    have b1 := tr.bl_length J (p + 1)
    rw [round4]
    simp -implicitDefEqProofs (disch := omega) only [take_one, set_one, decide_eq_true, decide_eq_false, IntWalk.i64_in, beqT, beqF, bneT, bneF, nat_succ, ← Int.natCast_mul, ← Int.natCast_add, Int.toNat_natCast, Int.zero_mul, Int.zero_add, Int.add_zero, Nat.zero_add, Nat.add_zero, Nat.zero_mul, List.length_singleton, List.length_append, List.length_nil, List.length_cons, List.take_length, List.drop_zero, List.replicate_zero, List.take_nil, List.nil_append, Nat.reduceBEq, Nat.reduceMul, Nat.reduceLeDiff, eq_self, and_self, true_and, and_true, decide_true, decide_false, Bool.and_self, Bool.or_self, Bool.and_true, Bool.true_and, Bool.and_false, Bool.false_and, Bool.or_true, Bool.true_or, Bool.or_false, Bool.false_or, Bool.not_true, Bool.not_false, cond_true, cond_false]
  | succ d ih =>
    intro k n3 hk hn hk1
    obtain ⟨n3, rfl⟩ : ∃ k, n3 = k + 1 := ⟨n3 - 1, by omega⟩
    have g := ih (k + 1) n3 (by omega) (by omega) (by omega)
    have hi1 := tr.idx_lt (n := p + 1) (i := i) (k := k) (by omega) (by omega)
    have z1 := tr.off_odd_succ s (by omega) (k - 1) (by omega)
    rw [show k - 1 + 1 = k by omega] at z1
    have ek : ((k : Nat) : Int) - 1 = ((k - 1 : Nat) : Int) := by omega
    have b1 := tr.bl_length J (p + 1)
    have b2 := tr.bl_gb J (n := p + 1) (i := i) (by omega)
    have b3 := tr.bl_gb J (n := p + 1) (i := k) (by omega)
    rw [tr.inn.sv] at g
    rw [round4]
    generalize tr.inn.sv cs (p + 1) J (2 * s + 1) i a k = b at g ⊢
    cases h1 : wo.off.sp J i with
    | true =>
      have e : tr.stp cs (p + 1) J (2 * s + 1) i k b = b := by simp [tr.stp, h1]
      rw [e] at g
      simp -implicitDefEqProofs (disch := omega) only [b1, b2, h1, take_one, set_one, decide_eq_true, decide_eq_false, IntWalk.i64_in, beqT, beqF, bneT, bneF, nat_succ, ← Int.natCast_mul, ← Int.natCast_add, Int.toNat_natCast, Int.zero_mul, Int.zero_add, Int.add_zero, Nat.zero_add, Nat.add_zero, Nat.zero_mul, List.length_singleton, List.length_append, List.length_nil, List.length_cons, List.take_length, List.drop_zero, List.replicate_zero, List.take_nil, List.nil_append, Nat.reduceBEq, Nat.reduceMul, Nat.reduceLeDiff, eq_self, and_self, true_and, and_true, decide_true, decide_false, Bool.and_self, Bool.or_self, Bool.and_true, Bool.true_and, Bool.and_false, Bool.false_and, Bool.or_true, Bool.true_or, Bool.or_false, Bool.false_or, Bool.not_true, Bool.not_false, cond_true, cond_false]
      exact g
    | false =>
      cases h2 : wo.off.sp J k with
      | false =>
        have e : tr.stp cs (p + 1) J (2 * s + 1) i k b = b := by simp [tr.stp, h1, h2]
        rw [e] at g
        simp -implicitDefEqProofs (disch := omega) only [b1, b2, b3, h1, h2, ek, take_one, set_one, decide_eq_true, decide_eq_false, IntWalk.i64_in, beqT, beqF, bneT, bneF, nat_succ, ← Int.natCast_mul, ← Int.natCast_add, Int.toNat_natCast, Int.zero_mul, Int.zero_add, Int.add_zero, Nat.zero_add, Nat.add_zero, Nat.zero_mul, List.length_singleton, List.length_append, List.length_nil, List.length_cons, List.take_length, List.drop_zero, List.replicate_zero, List.take_nil, List.nil_append, Nat.reduceBEq, Nat.reduceMul, Nat.reduceLeDiff, eq_self, and_self, true_and, and_true, decide_true, decide_false, Bool.and_self, Bool.or_self, Bool.and_true, Bool.true_and, Bool.and_false, Bool.false_and, Bool.or_true, Bool.true_or, Bool.or_false, Bool.false_or, Bool.not_true, Bool.not_false, cond_true, cond_false]
        exact g
      | true =>
        cases h3 : wo.off.sp (2 * s + 1) k with
        | true =>
          rw [h3] at z1
          have z2 := z1.symm
          have e : tr.stp cs (p + 1) J (2 * s + 1) i k b = b := by simp [tr.stp, h1, h2, h3]
          rw [e] at g
          simp -implicitDefEqProofs (disch := omega) only [b1, b2, b3, h1, h2, ek, z2, take_one, set_one, decide_eq_true, decide_eq_false, IntWalk.i64_in, beqT, beqF, bneT, bneF, nat_succ, ← Int.natCast_mul, ← Int.natCast_add, Int.toNat_natCast, Int.zero_mul, Int.zero_add, Int.add_zero, Nat.zero_add, Nat.add_zero, Nat.zero_mul, List.length_singleton, List.length_append, List.length_nil, List.length_cons, List.take_length, List.drop_zero, List.replicate_zero, List.take_nil, List.nil_append, Nat.reduceBEq, Nat.reduceMul, Nat.reduceLeDiff, eq_self, and_self, true_and, and_true, decide_true, decide_false, Bool.and_self, Bool.or_self, Bool.and_true, Bool.true_and, Bool.and_false, Bool.false_and, Bool.or_true, Bool.true_or, Bool.or_false, Bool.false_or, Bool.not_true, Bool.not_false, cond_true, cond_false]
          exact g
        | false =>
          rw [h3] at z1
          have z2 := z1.symm
          by_cases h4 : b.1 < 0
          · have e : tr.stp cs (p + 1) J (2 * s + 1) i k b = ((k : Int), gz cs (i * (p + 1) + k)) := by simp [tr.stp, h1, h2, h3, h4]
            rw [e] at g
            simp -implicitDefEqProofs (disch := omega) only [b1, b2, b3, h1, h2, ek, z2, take_one, set_one, decide_eq_true, decide_eq_false, IntWalk.i64_in, beqT, beqF, bneT, bneF, nat_succ, ← Int.natCast_mul, ← Int.natCast_add, Int.toNat_natCast, Int.zero_mul, Int.zero_add, Int.add_zero, Nat.zero_add, Nat.add_zero, Nat.zero_mul, List.length_singleton, List.length_append, List.length_nil, List.length_cons, List.take_length, List.drop_zero, List.replicate_zero, List.take_nil, List.nil_append, Nat.reduceBEq, Nat.reduceMul, Nat.reduceLeDiff, eq_self, and_self, true_and, and_true, decide_true, decide_false, Bool.and_self, Bool.or_self, Bool.and_true, Bool.true_and, Bool.and_false, Bool.false_and, Bool.or_true, Bool.true_or, Bool.or_false, Bool.false_or, Bool.not_true, Bool.not_false, cond_true, cond_false]
            exact g
          · by_cases h5 : gz cs (i * (p + 1) + k) < b.2
            · have e : tr.stp cs (p + 1) J (2 * s + 1) i k b = ((k : Int), gz cs (i * (p + 1) + k)) := by simp [tr.stp, h1, h2, h3, h5]
              rw [e] at g
              simp -implicitDefEqProofs (disch := omega) only [b1, b2, b3, h1, h2, ek, z2, take_one, set_one, decide_eq_true, decide_eq_false, IntWalk.i64_in, beqT, beqF, bneT, bneF, nat_succ, ← Int.natCast_mul, ← Int.natCast_add, Int.toNat_natCast, Int.zero_mul, Int.zero_add, Int.add_zero, Nat.zero_add, Nat.add_zero, Nat.zero_mul, List.length_singleton, List.length_append, List.length_nil, List.length_cons, List.take_length, List.drop_zero, List.replicate_zero, List.take_nil, List.nil_append, Nat.reduceBEq, Nat.reduceMul, Nat.reduceLeDiff, eq_self, and_self, true_and, and_true, decide_true, decide_false, Bool.and_self, Bool.or_self, Bool.and_true, Bool.true_and, Bool.and_false, Bool.false_and, Bool.or_true, Bool.true_or, Bool.or_false, Bool.false_or, Bool.not_true, Bool.not_false, cond_true, cond_false]
              exact g
            · have e : tr.stp cs (p + 1) J (2 * s + 1) i k b = b := by simp only [tr.stp, h1, h2, h3, decide_eq_false h4, decide_eq_false h5]; rfl
              rw [e] at g
              simp -implicitDefEqProofs (disch := omega) only [b1, b2, b3, h1, h2, ek, z2, take_one, set_one, decide_eq_true, decide_eq_false, IntWalk.i64_in, beqT, beqF, bneT, bneF, nat_succ, ← Int.natCast_mul, ← Int.natCast_add, Int.toNat_natCast, Int.zero_mul, Int.zero_add, Int.add_zero, Nat.zero_add, Nat.add_zero, Nat.zero_mul, List.length_singleton, List.length_append, List.length_nil, List.length_cons, List.take_length, List.drop_zero, List.replicate_zero, List.take_nil, List.nil_append, Nat.reduceBEq, Nat.reduceMul, Nat.reduceLeDiff, eq_self, and_self, true_and, and_true, decide_true, decide_false, Bool.and_self, Bool.or_self, Bool.and_true, Bool.true_and, Bool.and_false, Bool.false_and, Bool.or_true, Bool.true_or, Bool.or_false, Bool.false_or, Bool.not_true, Bool.not_false, cond_true, cond_false]
              exact g
theorem loop2 (p s J : Nat) (l : Int) (cs os : List Int) (f n t : Nat) (W : tr.Ways p cs) (hs : s < 2 ^ p) (hJ : J < 2 ^ (p + 1)) (hJ0 : wo.off.sp J 0 = false) (hos : os.length = p) (hl : 1 ≤ l ∧ l ≤ 10) (hf : p + 1 < f) (h1 : (tr.out.sv cs (p + 1) J (2 * s + 1) (p + 1)).1 = t) (h2 : t < p + 1) (h3 : 1 ≤ t) : ∀ (d i n2 : Nat), i + d = p + 1 → d < n2 →
    L2 f n n2 (mkS 90 [(1, .ro (.ints .i64 cs) cs.length 1), (2, .int .i64 ((s : Nat) : Int)), (7, .int .i64 ((p + 1 : Nat) : Int)), (8, .own 0 0 (p + 1) 0 1), (9, .own 1 0 p 0 1), (10, .int .i64 l), (11, .int .i64 (tr.out.sv cs (p + 1) J (2 * s + 1) i).1), (12, .int .i64 (tr.out.sv cs (p + 1) J (2 * s + 1) i).2), (13, .int .i64 ((i : Nat) : Int))] [⟨.typ (.bools (tr.bl.sv J (p + 1))), 0⟩, ⟨.typ (.ints .i64 os), 0⟩]) = L0 f n (mkS 90 [(1, .ro (.ints .i64 cs) cs.length 1), (2, .int .i64 ((s : Nat) : Int)), (7, .int .i64 ((p + 1 : Nat) : Int)), (8, .own 0 0 (p + 1) 0 1), (9, .own 1 0 p 0 1), (10, .int .i64 (l - 1))] [⟨.typ (.bools (tr.bl.sv (wo.up.sv J t) (p + 1))), 0⟩, ⟨.typ (.ints .i64 (os.set (t - 1) (tr.out.sv cs (p + 1) J (2 * s + 1) (p + 1)).2)), 0⟩]) := by
  have w1 := W.p1
  have w5 := W.p5
  have wl := W.len
  have qq : (p + 1) * (p + 1) ≤ 36 := Nat.mul_le_mul (show p + 1 ≤ 6 by omega) (show p + 1 ≤ 6 by omega)
  have h32 : 2 ^ p ≤ 32 := Nat.pow_le_pow_right (by decide) W.p5
  have h64 : 2 ^ (p + 1) ≤ 64 := wo.pow_le (by have := W.p5; omega)
  intro d
  induction d with
  | zero =>
    intro i n2 hk hn
    obtain ⟨n2, rfl⟩ : ∃ k, n2 = k + 1 := ⟨n2 - 1, by omega⟩
    obtain rfl : i = p + 1 := by omega
    have b1 := tr.bl_length J (p + 1)
    have bs := tr.bl_set J (p + 1) t h2
    have et : ((t : Nat) : Int) - 1 = ((t - 1 : Nat) : Int) := by omega
    rw [round2]
    simp -implicitDefEqProofs (disch := omega) only [h1, b1, bs, et, take_one, set_one, decide_eq_true, decide_eq_false, IntWalk.i64_in, beqT, beqF, bneT, bneF, nat_succ, ← Int.natCast_mul, ← Int.natCast_add, Int.toNat_natCast, Int.zero_mul, Int.zero_add, Int.add_zero, Nat.zero_add, Nat.add_zero, Nat.zero_mul, List.length_singleton, List.length_append, List.length_nil, List.length_cons, List.take_length, List.drop_zero, List.replicate_zero, List.take_nil, List.nil_append, Nat.reduceBEq, Nat.reduceMul, Nat.reduceLeDiff, eq_self, and_self, true_and, and_true, decide_true, decide_false, Bool.and_self, Bool.or_self, Bool.and_true, Bool.true_and, Bool.and_false, Bool.false_and, Bool.or_true, Bool.true_or, Bool.or_false, Bool.false_or, Bool.not_true, Bool.not_false, cond_true, cond_false]
  | succ d ih =>
    intro i n2 hk hn
    obtain ⟨n2, rfl⟩ : ∃ k, n2 = k + 1 := ⟨n2 - 1, by omega⟩
    have g := ih (i + 1) n2 (by omega) (by omega)
    have b1 := tr.bl_length J (p + 1)
    have g0 := loop4 p s J i (tr.out.sv cs (p + 1) J (2 * s + 1) i) l cs os f n n2 W hs hJ hJ0 hos (by omega) p 1 f (by omega) (by omega) (by omega)
    rw [show tr.inn.sv cs (p + 1) J (2 * s + 1) i (tr.out.sv cs (p + 1) J (2 * s + 1) i) 1 = tr.out.sv cs (p + 1) J (2 * s + 1) i from tr.stp_zero hJ0] at g0
    rw [round2]
    simp -implicitDefEqProofs (disch := omega) only [take_one, set_one, decide_eq_true, decide_eq_false, IntWalk.i64_in, beqT, beqF, bneT, bneF, nat_succ, ← Int.natCast_mul, ← Int.natCast_add, Int.toNat_natCast, Int.zero_mul, Int.zero_add, Int.add_zero, Nat.zero_add, Nat.add_zero, Nat.zero_mul, List.length_singleton, List.length_append, List.length_nil, List.length_cons, List.take_length, List.drop_zero, List.replicate_zero, List.take_nil, List.nil_append, Nat.reduceBEq, Nat.reduceMul, Nat.reduceLeDiff, eq_self, and_self, true_and, and_true, decide_true, decide_false, Bool.and_self, Bool.or_self, Bool.and_true, Bool.true_and, Bool.and_false, Bool.false_and, Bool.or_true, Bool.true_or, Bool.or_false, Bool.false_or, Bool.not_true, Bool.not_false, cond_true, cond_false]
    exact g0.trans g
theorem loop0 (p s : Nat) (cs : List Int) (f : Nat) (W : tr.Ways p cs) (hs : s < 2 ^ p) (hf : p + 1 < f) : ∀ (d t n : Nat), t + d = wo.cnt.sv s → d < n →
    regc [1] (L0 f n (mkS 90 [(1, .ro (.ints .i64 cs) cs.length 1), (2, .int .i64 ((s : Nat) : Int)), (7, .int .i64 ((p + 1 : Nat) : Int)), (8, .own 0 0 (p + 1) 0 1), (9, .own 1 0 p 0 1), (10, .int .i64 (((wo.cnt.sv s : Nat) : Int) - ((t : Nat) : Int)))] [⟨.typ (.bools (tr.bl.sv (tr.jn.sv cs (p + 1) (2 * s + 1) t).1 (p + 1))), 0⟩, ⟨.typ (.ints .i64 ((tr.jn.sv cs (p + 1) (2 * s + 1) t).2.drop 1)), 0⟩])) = some (.own 0 0 p 0 1, [⟨.typ (.ints .i64 ((tr.pays.sv cs p s).drop 1)), 0⟩]) := by
  have w1 := W.p1
  have w5 := W.p5
  have wl := W.len
  have qq : (p + 1) * (p + 1) ≤ 36 := Nat.mul_le_mul (show p + 1 ≤ 6 by omega) (show p + 1 ≤ 6 by omega)
  have h32 : 2 ^ p ≤ 32 := Nat.pow_le_pow_right (by decide) W.p5
  have h64 : 2 ^ (p + 1) ≤ 64 := wo.pow_le (by have := W.p5; omega)
  have hcs := tr.cnt_odd s (by omega)
  have hcl := wo.cnt_le s
  intro d
  induction d with
  | zero =>
    intro t n hk hn
    obtain ⟨n, rfl⟩ : ∃ k, n = k + 1 := ⟨n - 1, by omega⟩
    obtain rfl : t = wo.cnt.sv s := by omega
    rw [round0]
    simp -implicitDefEqProofs (disch := omega) only [take_one, set_one, decide_eq_true, decide_eq_false, IntWalk.i64_in, beqT, beqF, bneT, bneF, nat_succ, ← Int.natCast_mul, ← Int.natCast_add, Int.toNat_natCast, Int.zero_mul, Int.zero_add, Int.add_zero, Nat.zero_add, Nat.add_zero, Nat.zero_mul, List.length_singleton, List.length_append, List.length_nil, List.length_cons, List.take_length, List.drop_zero, List.replicate_zero, List.take_nil, List.nil_append, Nat.reduceBEq, Nat.reduceMul, Nat.reduceLeDiff, eq_self, and_self, true_and, and_true, decide_true, decide_false, Bool.and_self, Bool.or_self, Bool.and_true, Bool.true_and, Bool.and_false, Bool.false_and, Bool.or_true, Bool.true_or, Bool.or_false, Bool.false_or, Bool.not_true, Bool.not_false, cond_true, cond_false]
    rfl
  | succ d ih =>
    intro t n hk hn
    obtain ⟨n, rfl⟩ : ∃ k, n = k + 1 := ⟨n - 1, by omega⟩
    have g := ih (t + 1) n (by omega) (by omega)
    have ha := tr.jn_at W.c (n := p + 1) ⟨by omega, by omega⟩ (tr.odd_lt hs) (tr.off_odd s (by omega)) t (by omega)
    have hne : (tr.jn.sv cs (p + 1) (2 * s + 1) t).1 ≠ 2 * s + 1 := fun e => by
      have := (tr.jn_end W.c (n := p + 1) ⟨by omega, by omega⟩ (tr.odd_lt hs) (tr.off_odd s (by omega)) (t := t) (by omega)).1 e
      omega
    have hJ := ha.lt
    obtain ⟨_, q, q1, q2, q3⟩ := tr.sub_lt (tr.jn.sv cs (p + 1) (2 * s + 1) t).1 (by omega) (2 * s + 1) (by omega) ha.sub hne
    have hq : q < p + 1 := by
      rcases Nat.lt_or_ge q (p + 1) with h | h
      · exact h
      · rw [tr.off_high (p + 1) (by omega) _ (tr.odd_lt hs) q q1 h] at q3; cases q3
    obtain ⟨c, c1, c2, c3, _⟩ := tr.choice (n := p + 1) W.c ha.zero q2 q3 hq
    have hc0 : 1 ≤ c := by
      rcases Nat.eq_zero_or_pos c with e | e
      · subst e; rw [ha.zero] at c3; cases c3
      · exact e
    have g0 := loop2 p s (tr.jn.sv cs (p + 1) (2 * s + 1) t).1 (((wo.cnt.sv s : Nat) : Int) - ((t : Nat) : Int)) cs ((tr.jn.sv cs (p + 1) (2 * s + 1) t).2.drop 1) f n c W hs hJ ha.zero (by rw [List.length_drop, ha.len]; omega) ⟨by omega, by omega⟩ hf c1 c2 hc0 (p + 1) 0 f (by omega) (by omega)
    have e : tr.jn.sv cs (p + 1) (2 * s + 1) (t + 1) = (wo.up.sv (tr.jn.sv cs (p + 1) (2 * s + 1) t).1 c, (tr.jn.sv cs (p + 1) (2 * s + 1) t).2.set c (tr.out.sv cs (p + 1) (tr.jn.sv cs (p + 1) (2 * s + 1) t).1 (2 * s + 1) (p + 1)).2) := by rw [tr.jn.sv, c1, Int.toNat_natCast]
    rw [e, tr.drop_set hc0, show ((wo.cnt.sv s : Nat) : Int) - ((t + 1 : Nat) : Int) = ((wo.cnt.sv s : Nat) : Int) - ((t : Nat) : Int) - 1 by omega] at g
    rw [round0]
    simp -implicitDefEqProofs (disch := omega) only [take_one, set_one, decide_eq_true, decide_eq_false, IntWalk.i64_in, beqT, beqF, bneT, bneF, nat_succ, ← Int.natCast_mul, ← Int.natCast_add, Int.toNat_natCast, Int.zero_mul, Int.zero_add, Int.add_zero, Nat.zero_add, Nat.add_zero, Nat.zero_mul, List.length_singleton, List.length_append, List.length_nil, List.length_cons, List.take_length, List.drop_zero, List.replicate_zero, List.take_nil, List.nil_append, Nat.reduceBEq, Nat.reduceMul, Nat.reduceLeDiff, eq_self, and_self, true_and, and_true, decide_true, decide_false, Bool.and_self, Bool.or_self, Bool.and_true, Bool.true_and, Bool.and_false, Bool.false_and, Bool.or_true, Bool.true_or, Bool.or_false, Bool.false_or, Bool.not_true, Bool.not_false, cond_true, cond_false]
    rw [← g]
    exact congrArg (regc [1]) g0
theorem run : ∀ args v new, R args = some (true, v, new) → ∃ fuel, regc [1] (runFn Try.prog (orc [⟨124, l03Count.R⟩, ⟨86, l03In.R⟩]) hd Dr.std none fuel (bodyOf Try.f111) 90 [6] args []) = some (v, new) := by
  intro args v new h
  unfold R at h
  split at h
  · rename_i p cs m s
    simp only [Option.some.injEq, Prod.mk.injEq, Bool.and_eq_true, decide_eq_true_eq] at h
    obtain ⟨⟨⟨rfl, h2, h3⟩, hs⟩, rfl, rfl⟩ := h
    have hs2 := hs
    obtain ⟨p, rfl, W⟩ := tr.valid hs2
    have w1 := W.p1
    have w5 := W.p5
    have wl := W.len
    obtain ⟨s, rfl⟩ : ∃ q : Nat, s = q := ⟨s.toNat, by omega⟩
    rw [Int.toNat_natCast, Int.toNat_natCast] at h3
    have h32 : 2 ^ p ≤ 32 := Nat.pow_le_pow_right (by decide) w5
    have hcl := wo.cnt_le s
    have hb := tr.bl_start (p + 1) (by omega) (by omega)
    have g := loop0 p s cs 100 W h3 (by omega) (wo.cnt.sv s) 0 100 (by omega) (by omega)
    have e : ((wo.cnt.sv s : Nat) : Int) - ((0 : Nat) : Int) = ((wo.cnt.sv s : Nat) : Int) := by omega
    have e2 : (tr.jn.sv cs (p + 1) (2 * s + 1) 0).2.drop 1 = List.replicate p 0 := rfl
    rw [e, e2] at g
    obtain ⟨F, hF⟩ : ∃ F : Nat, F = 100 := ⟨100, rfl⟩
    rw [← hF] at g
    refine ⟨F, ?_⟩
    rw [start]
    simp -implicitDefEqProofs (disch := omega) only [hb, List.length_replicate, take_one, set_one, decide_eq_true, decide_eq_false, IntWalk.i64_in, beqT, beqF, bneT, bneF, nat_succ, ← Int.natCast_mul, ← Int.natCast_add, Int.toNat_natCast, Int.zero_mul, Int.zero_add, Int.add_zero, Nat.zero_add, Nat.add_zero, Nat.zero_mul, List.length_singleton, List.length_append, List.length_nil, List.length_cons, List.take_length, List.drop_zero, List.replicate_zero, List.take_nil, List.nil_append, Nat.reduceBEq, Nat.reduceMul, Nat.reduceLeDiff, eq_self, and_self, true_and, and_true, decide_true, decide_false, Bool.and_self, Bool.or_self, Bool.and_true, Bool.true_and, Bool.and_false, Bool.false_and, Bool.or_true, Bool.true_or, Bool.or_false, Bool.false_or, Bool.not_true, Bool.not_false, cond_true, cond_false]
    exact g
  · cases h
theorem ok : EntOk Try.prog ⟨111, R⟩ :=
  ent_okAG (ks := [1]) mixed (A := (orc [⟨124, l03Count.R⟩, ⟨86, l03In.R⟩])) (orc_ok (by simp only [List.mem_cons, List.not_mem_nil, or_false, forall_eq_or_imp, forall_eq]; exact ⟨l03Count.ok, l03In.ok⟩)) Try.func111 (by kernel_rfl) (by kernel_rfl) (n := 90) (ts := [6]) (hd := hd) (dr := Dr.std) (cut := none) (by kernel_rfl) (by kernel_rfl) (by kernel_rfl) run
end l03Tree

end Go.Proofs.Ytadcpdjcadnepaa.Ab
