/-
  Functions: lists of games: made, marked, compared, measured.
-/
import Derived.Test.YthecninmmojkgaaFnIA
namespace Go.Proofs.Ythecninmmojkgaa.Ab
open Go
set_option linter.unusedVariables false
set_option linter.unusedSimpArgs false
set_option maxRecDepth 100000

-- numbers
namespace szGameS
def R : List AVal → Option (Bool × AVal × List Blk)
  | [.ro (.recs [0, 0, 1, 1] fs) m 4, .int .i64 l] => some (decide (fs.length = m * 4) && (gsh.sp fs && (gms.short.sp 9223372036854775807 (gof.sv fs))) && decide (m ≤ 9223372036854775807 ∧ 0 ≤ l ∧ l ≤ 9223372036854775807), .int .i64 (gms.sz.sv (gof.sv fs) l), [])
  | _ => none
def hd : Nat → Head := fun _ => ⟨[0, 1, 4, 5], none⟩
noncomputable def L (f n : Nat) (s : State) := loopAt Try.prog (orc [⟨28, szGame.R⟩]) hd Dr.std 0 f (bodyOf Try.f6) 0 [true, true, true, false, true] (retK Try.prog [4] 0 none) n s
theorem start (fs : List Fld) (m : Nat) (l : Int) (f : Nat) :
  runFn Try.prog (orc [⟨28, szGame.R⟩]) hd Dr.std none f (bodyOf Try.f6) 27 [4] [.ro (.recs [0, 0, 1, 1] fs) m 4, .int .i64 l] []
  = (bif decide (IntKind.i64.wrap (l - (↑m : Int)) < (0 : Int)) then some (AVal.int IntKind.i64 (-1 : Int), []) else L f f (mkS (27 : Nat) [((0 : Nat), AVal.ro (Cont.recs [(0 : Nat), (0 : Nat), (1 : Nat), (1 : Nat)] fs) m (4 : Nat)), ((1 : Nat), AVal.int IntKind.i64 (IntKind.i64.wrap (l - (↑m : Int)))), ((4 : Nat), AVal.int IntKind.i64 (0 : Int)), ((5 : Nat), AVal.int IntKind.i64 (0 : Int))] [])) := by kernel_rfl
theorem round (fs : List Fld) (m i : Nat) (l : Int) (f n : Nat) :
  L f (n + 1) (mkS 27 [(0, .ro (.recs [0, 0, 1, 1] fs) m 4), (1, .int .i64 l), (4, .int .i64 0), (5, .int .i64 i)] [])
  = (bif decide ((↑i : Int) < (↑m : Int)) then bif true && (true && (recfit.sp [(0 : Nat), (0 : Nat), (1 : Nat), (1 : Nat)] fs && (decide ((0 : Int) ≤ (↑i : Int)) && decide ((↑i : Int) < (↑m : Int))))) then bif decide ((recL.sv fs (addL ((↑i : Int).toNat * nat_lit 4) ((0 : Nat) + (1 : Nat) + (1 : Nat)))).length ≤ (9223372036854775807 : Nat) ∧ (recL.sv fs (addL ((↑i : Int).toNat * nat_lit 4) ((0 : Nat) + (1 : Nat) + (1 : Nat) + (1 : Nat)))).length ≤ (9223372036854775807 : Nat) ∧ (0 : Int) ≤ l ∧ l ≤ (9223372036854775807 : Int)) && (true && (true && (true && (true && true))) && (true && true) || true && true) then bif decide ((bif decide (l - (↑(recL.sv fs (addL ((↑i : Int).toNat * (4 : Nat)) (2 : Nat))).length : Int) < (0 : Int)) then (-1 : Int) else bif decide (l - (↑(recL.sv fs (addL ((↑i : Int).toNat * (4 : Nat)) (2 : Nat))).length : Int) - (↑(recL.sv fs (addL ((↑i : Int).toNat * (4 : Nat)) (3 : Nat))).length : Int) < (0 : Int)) then (-1 : Int) else l - (↑(recL.sv fs (addL ((↑i : Int).toNat * (4 : Nat)) (2 : Nat))).length : Int) - (↑(recL.sv fs (addL ((↑i : Int).toNat * (4 : Nat)) (3 : Nat))).length : Int)) < (0 : Int)) then some (AVal.int IntKind.i64 (-1 : Int), []) else L f n (mkS (27 : Nat) [((0 : Nat), AVal.ro (Cont.recs [(0 : Nat), (0 : Nat), (1 : Nat), (1 : Nat)] fs) m (4 : Nat)), ((1 : Nat), AVal.int IntKind.i64 (bif decide (l - (↑(recL.sv fs (addL ((↑i : Int).toNat * (4 : Nat)) (2 : Nat))).length : Int) < (0 : Int)) then (-1 : Int) else bif decide (l - (↑(recL.sv fs (addL ((↑i : Int).toNat * (4 : Nat)) (2 : Nat))).length : Int) - (↑(recL.sv fs (addL ((↑i : Int).toNat * (4 : Nat)) (3 : Nat))).length : Int) < (0 : Int)) then (-1 : Int) else l - (↑(recL.sv fs (addL ((↑i : Int).toNat * (4 : Nat)) (2 : Nat))).length : Int) - (↑(recL.sv fs (addL ((↑i : Int).toNat * (4 : Nat)) (3 : Nat))).length : Int))), ((4 : Nat), AVal.int IntKind.i64 (0 : Int)), ((5 : Nat), AVal.int IntKind.i64 (IntKind.i64.wrap ((↑i : Int) + (1 : Int))))] []) else none else none else some (AVal.int IntKind.i64 l, [])) := by kernel_rfl
theorem sz1_le {g : GmT} {l : Int} (h : 0 ≤ l) : gms.sz1.sv g l ≤ l := by
  unfold gms.sz1.sv
  by_cases c1 : l - (g.2.1.length : Int) < 0
  · rw [decide_eq_true c1, cond_true]; omega
  · rw [decide_eq_false c1, cond_false]
    by_cases c2 : l - (g.2.1.length : Int) - (g.2.2.length : Int) < 0
    · rw [decide_eq_true c2, cond_true]; omega
    · rw [decide_eq_false c2, cond_false]; omega
theorem loop (xs : List GmT) (f : Nat) (hx : xs.length ≤ 9223372036854775807) (hs : gms.short.sp 9223372036854775807 xs = true) : ∀ (d i n : Nat) (l : Int), i + d = xs.length → d < n → 0 ≤ l → l ≤ 9223372036854775807 →
    L f n (mkS 27 [(0, .ro (.recs [0, 0, 1, 1] (gfs.sv xs)) xs.length 4), (1, .int .i64 l), (4, .int .i64 0), (5, .int .i64 (i : Int))] []) = some (.int .i64 (gms.szl.sv (xs.drop i) l), []) := by
  intro d
  induction d with
  | zero =>
    intro i n l hi hn h0 h1
    obtain ⟨n, rfl⟩ : ∃ k, n = k + 1 := ⟨n - 1, by omega⟩
    obtain rfl : i = xs.length := by omega
    rw [round, List.drop_of_length_le (Nat.le_refl _)]
    simp -implicitDefEqProofs (disch := omega) only [take_one, set_one, decide_eq_true, decide_eq_false, IntWalk.i64_in, beqT, beqF, bneT, bneF, nat_succ, ← Int.natCast_mul, ← Int.natCast_add, Int.toNat_natCast, Int.zero_mul, Int.zero_add, Int.add_zero, Nat.zero_add, Nat.add_zero, Nat.zero_mul, List.length_singleton, List.length_append, List.length_nil, List.length_cons, List.take_length, List.drop_zero, List.replicate_zero, List.take_nil, List.nil_append, Nat.reduceBEq, Nat.reduceMul, Nat.reduceLeDiff, eq_self, and_self, true_and, and_true, decide_true, decide_false, Bool.and_self, Bool.or_self, Bool.and_true, Bool.true_and, Bool.and_false, Bool.false_and, Bool.or_true, Bool.true_or, Bool.or_false, Bool.false_or, Bool.not_true, Bool.not_false, cond_true, cond_false]
    rfl
  | succ d ih =>
    intro i n l hi hn h0 h1
    obtain ⟨n, rfl⟩ : ∃ k, n = k + 1 := ⟨n - 1, by omega⟩
    have hlt : i < xs.length := by omega
    obtain ⟨r1, r2, r3, r4⟩ := gfs_rec hlt
    obtain ⟨s1, s2⟩ := gms.short_at hs hlt
    have ft := gfs_fit xs
    have le := sz1_le (g := gg xs i) h0
    have ez := gms.sz1.sv.eq_1 (gg xs i) l
    rw [gg_drop hlt, gms.szl.sv, round]
    simp -implicitDefEqProofs only [Int.toNat_natCast, mulN_eq, addL_eq, Nat.zero_add, Nat.reduceAdd, Nat.add_zero, r1, r2, r3, r4]
    rw [← ez]
    generalize gms.sz1.sv (gg xs i) l = z at *
    by_cases hz : z < 0
    · simp -implicitDefEqProofs (disch := omega) only [s1, s2, ft, beq_self_eq_true, h0, h1, take_one, set_one, decide_eq_true, decide_eq_false, IntWalk.i64_in, beqT, beqF, bneT, bneF, nat_succ, ← Int.natCast_mul, ← Int.natCast_add, Int.toNat_natCast, Int.zero_mul, Int.zero_add, Int.add_zero, Nat.zero_add, Nat.add_zero, Nat.zero_mul, List.length_singleton, List.length_append, List.length_nil, List.length_cons, List.take_length, List.drop_zero, List.replicate_zero, List.take_nil, List.nil_append, Nat.reduceBEq, Nat.reduceMul, Nat.reduceLeDiff, eq_self, and_self, true_and, and_true, decide_true, decide_false, Bool.and_self, Bool.or_self, Bool.and_true, Bool.true_and, Bool.and_false, Bool.false_and, Bool.or_true, Bool.true_or, Bool.or_false, Bool.false_or, Bool.not_true, Bool.not_false, cond_true, cond_false]
    · have g := ih (i + 1) n z (by omega) (by omega) (by omega) (by omega)
      simp -implicitDefEqProofs (disch := omega) only [s1, s2, ft, beq_self_eq_true, h0, h1, take_one, set_one, decide_eq_true, decide_eq_false, IntWalk.i64_in, beqT, beqF, bneT, bneF, nat_succ, ← Int.natCast_mul, ← Int.natCast_add, Int.toNat_natCast, Int.zero_mul, Int.zero_add, Int.add_zero, Nat.zero_add, Nat.add_zero, Nat.zero_mul, List.length_singleton, List.length_append, List.length_nil, List.length_cons, List.take_length, List.drop_zero, List.replicate_zero, List.take_nil, List.nil_append, Nat.reduceBEq, Nat.reduceMul, Nat.reduceLeDiff, eq_self, and_self, true_and, and_true, decide_true, decide_false, Bool.and_self, Bool.or_self, Bool.and_true, Bool.true_and, Bool.and_false, Bool.false_and, Bool.or_true, Bool.true_or, Bool.or_false, Bool.false_or, Bool.not_true, Bool.not_false, cond_true, cond_false]
      exact g
theorem run : ∀ args v new, R args = some (true, v, new) → ∃ fuel, runFn Try.prog (orc [⟨28, szGame.R⟩]) hd Dr.std none fuel (bodyOf Try.f6) 27 [4] args [] = some (v, new) := by
  intro args v new h
  unfold R at h
  split at h
  · rename_i fs m l
    simp only [Option.some.injEq, Prod.mk.injEq, Bool.and_eq_true, decide_eq_true_eq, Bool.not_eq_true'] at h
    obtain ⟨⟨⟨hl, hs, hsh⟩, h1, h2, h3⟩, rfl, rfl⟩ := h
    obtain ⟨xs, rfl⟩ : ∃ xs, fs = gfs.sv xs := ⟨_, (gsh_eq hs).symm⟩
    rw [(gsh_of xs).2] at *
    rw [gfs_len] at hl
    obtain rfl : m = xs.length := by omega
    obtain ⟨F, hF⟩ : ∃ F : Nat, F = xs.length + 1 := ⟨_, rfl⟩
    refine ⟨F, ?_⟩
    rw [start]
    unfold gms.sz.sv
    by_cases c : l - (xs.length : Int) < 0
    · simp -implicitDefEqProofs (disch := omega) only [take_one, set_one, decide_eq_true, decide_eq_false, IntWalk.i64_in, beqT, beqF, bneT, bneF, nat_succ, ← Int.natCast_mul, ← Int.natCast_add, Int.toNat_natCast, Int.zero_mul, Int.zero_add, Int.add_zero, Nat.zero_add, Nat.add_zero, Nat.zero_mul, List.length_singleton, List.length_append, List.length_nil, List.length_cons, List.take_length, List.drop_zero, List.replicate_zero, List.take_nil, List.nil_append, Nat.reduceBEq, Nat.reduceMul, Nat.reduceLeDiff, eq_self, and_self, true_and, and_true, decide_true, decide_false, Bool.and_self, Bool.or_self, Bool.and_true, Bool.true_and, Bool.and_false, Bool.false_and, Bool.or_true, Bool.true_or, Bool.or_false, Bool.false_or, Bool.not_true, Bool.not_false, cond_true, cond_false]
    · have g := loop xs F h1 hsh xs.length 0 F (l - (xs.length : Int)) (by omega) (by omega) (by omega) (by omega)
      rw [List.drop_zero] at g
      simp -implicitDefEqProofs (disch := omega) only [take_one, set_one, decide_eq_true, decide_eq_false, IntWalk.i64_in, beqT, beqF, bneT, bneF, nat_succ, ← Int.natCast_mul, ← Int.natCast_add, Int.toNat_natCast, Int.zero_mul, Int.zero_add, Int.add_zero, Nat.zero_add, Nat.add_zero, Nat.zero_mul, List.length_singleton, List.length_append, List.length_nil, List.length_cons, List.take_length, List.drop_zero, List.replicate_zero, List.take_nil, List.nil_append, Nat.reduceBEq, Nat.reduceMul, Nat.reduceLeDiff, eq_self, and_self, true_and, and_true, decide_true, decide_false, Bool.and_self, Bool.or_self, Bool.and_true, Bool.true_and, Bool.and_false, Bool.false_and, Bool.or_true, Bool.true_or, Bool.or_false, Bool.false_or, Bool.not_true, Bool.not_false, cond_true, cond_false]
      exact g
  · cases h
theorem ok : EntOk Try.prog ⟨6, R⟩ :=
  ent_okA mixed (A := (orc [⟨28, szGame.R⟩])) (orc_ok (by simp only [List.mem_cons, List.not_mem_nil, or_false, forall_eq_or_imp, forall_eq]; exact szGame.ok)) Try.func6 (by kernel_rfl) (by kernel_rfl) (n := 27) (ts := [4]) (hd := hd) (dr := Dr.std) (cut := none) (by kernel_rfl) (by kernel_rfl) (by kernel_rfl) run
end szGameS

namespace eqGameS
def R : List AVal → Option (Bool × AVal × List Blk)
  | [.ro (.recs [0, 0, 1, 1] fs) m 4, .ro (.recs sh gs) k 4] => some (decide (fs.length = m * 4) && (gsh.sp fs && (gms.short.sp 4611686018427387904 (gof.sv fs))) && decide (m ≤ 4611686018427387904 ∧ k = m ∧ sh = [0, 0, 1, 1] ∧ gof.sv gs = gof.sv fs ∧ gs.length = k * 4 ∧ gsh.sp gs = true), .bool true, [])
  | _ => none
def hd : Nat → Head := fun _ => ⟨[0, 1, 4, 5], none⟩
noncomputable def L (f n : Nat) (s : State) := loopAt Try.prog (orc [⟨35, eqGame.R⟩]) hd Dr.std 0 f (bodyOf Try.f11) 0 [true, true, false, true] (retK Try.prog [4] 0 none) n s
theorem start (fs gs : List Fld) (m k : Nat) (f : Nat) :
  runFn Try.prog (orc [⟨35, eqGame.R⟩]) hd Dr.std none f (bodyOf Try.f11) 27 [4] [.ro (.recs [0, 0, 1, 1] fs) m 4, .ro (.recs [0, 0, 1, 1] gs) k 4] []
  = (bif (↑m : Int) != (↑k : Int) then some (AVal.bool false, []) else L f f (mkS (27 : Nat) [((0 : Nat), AVal.ro (Cont.recs [(0 : Nat), (0 : Nat), (1 : Nat), (1 : Nat)] fs) m (4 : Nat)), ((1 : Nat), AVal.ro (Cont.recs [(0 : Nat), (0 : Nat), (1 : Nat), (1 : Nat)] gs) k (4 : Nat)), ((4 : Nat), AVal.bool false), ((5 : Nat), AVal.int IntKind.i64 (0 : Int))] [])) := by kernel_rfl
theorem round (fs gs : List Fld) (m k i : Nat) (f n : Nat) :
  L f (n + 1) (mkS 27 [(0, .ro (.recs [0, 0, 1, 1] fs) m 4), (1, .ro (.recs [0, 0, 1, 1] gs) k 4), (4, .bool false), (5, .int .i64 i)] [])
  = (bif decide ((↑i : Int) < (↑m : Int)) then bif true && (true && (recfit.sp [(0 : Nat), (0 : Nat), (1 : Nat), (1 : Nat)] fs && (decide ((0 : Int) ≤ (↑i : Int)) && decide ((↑i : Int) < (↑m : Int))))) then bif true && (true && (recfit.sp [(0 : Nat), (0 : Nat), (1 : Nat), (1 : Nat)] gs && (decide ((0 : Int) ≤ (↑i : Int)) && decide ((↑i : Int) < (↑k : Int))))) then bif decide ((recL.sv fs (addL ((↑i : Int).toNat * nat_lit 4) ((0 : Nat) + (1 : Nat) + (1 : Nat)))).length ≤ (recL.sv fs (addL ((↑i : Int).toNat * nat_lit 4) ((0 : Nat) + (1 : Nat) + (1 : Nat)))).length ∧ (recL.sv gs (addL ((↑i : Int).toNat * nat_lit 4) ((0 : Nat) + (1 : Nat) + (1 : Nat)))).length ≤ (recL.sv gs (addL ((↑i : Int).toNat * nat_lit 4) ((0 : Nat) + (1 : Nat) + (1 : Nat)))).length ∧ (recL.sv fs (addL ((↑i : Int).toNat * nat_lit 4) ((0 : Nat) + (1 : Nat) + (1 : Nat)))).length ≤ (4611686018427387904 : Nat) ∧ (recL.sv fs (addL ((↑i : Int).toNat * nat_lit 4) ((0 : Nat) + (1 : Nat) + (1 : Nat) + (1 : Nat)))).length ≤ (recL.sv fs (addL ((↑i : Int).toNat * nat_lit 4) ((0 : Nat) + (1 : Nat) + (1 : Nat) + (1 : Nat)))).length ∧ (recL.sv gs (addL ((↑i : Int).toNat * nat_lit 4) ((0 : Nat) + (1 : Nat) + (1 : Nat) + (1 : Nat)))).length ≤ (recL.sv gs (addL ((↑i : Int).toNat * nat_lit 4) ((0 : Nat) + (1 : Nat) + (1 : Nat) + (1 : Nat)))).length ∧ (recL.sv fs (addL ((↑i : Int).toNat * nat_lit 4) ((0 : Nat) + (1 : Nat) + (1 : Nat) + (1 : Nat)))).length ≤ (4611686018427387904 : Nat)) && (true && (true && (true && (true && true))) && (true && (true && (true && (true && true))) && true) || true && true) then bif !(decide (recN.sv fs (addL ((↑i : Int).toNat * (4 : Nat)) (0 : Nat)) = recN.sv gs (addL ((↑i : Int).toNat * (4 : Nat)) (0 : Nat))) && (decide (recN.sv fs (addL ((↑i : Int).toNat * (4 : Nat)) (1 : Nat)) = recN.sv gs (addL ((↑i : Int).toNat * (4 : Nat)) (1 : Nat))) && (decide (List.take (recL.sv fs (addL ((↑i : Int).toNat * (4 : Nat)) (2 : Nat))).length (recL.sv fs (addL ((↑i : Int).toNat * (4 : Nat)) (2 : Nat))) = List.take (recL.sv gs (addL ((↑i : Int).toNat * (4 : Nat)) (2 : Nat))).length (recL.sv gs (addL ((↑i : Int).toNat * (4 : Nat)) (2 : Nat)))) && decide (List.take (recL.sv fs (addL ((↑i : Int).toNat * (4 : Nat)) (3 : Nat))).length (recL.sv fs (addL ((↑i : Int).toNat * (4 : Nat)) (3 : Nat))) = List.take (recL.sv gs (addL ((↑i : Int).toNat * (4 : Nat)) (3 : Nat))).length (recL.sv gs (addL ((↑i : Int).toNat * (4 : Nat)) (3 : Nat))))))) then some (AVal.bool false, []) else L f n (mkS (27 : Nat) [((0 : Nat), AVal.ro (Cont.recs [(0 : Nat), (0 : Nat), (1 : Nat), (1 : Nat)] fs) m (4 : Nat)), ((1 : Nat), AVal.ro (Cont.recs [(0 : Nat), (0 : Nat), (1 : Nat), (1 : Nat)] gs) k (4 : Nat)), ((4 : Nat), AVal.bool false), ((5 : Nat), AVal.int IntKind.i64 (IntKind.i64.wrap ((↑i : Int) + (1 : Int))))] []) else none else none else none else some (AVal.bool true, [])) := by kernel_rfl
theorem loop (xs : List GmT) (f : Nat) (hx : xs.length ≤ 4611686018427387904) (hs : gms.short.sp 4611686018427387904 xs = true) : ∀ (d i n : Nat), i + d = xs.length → d < n →
    L f n (mkS 27 [(0, .ro (.recs [0, 0, 1, 1] (gfs.sv xs)) xs.length 4), (1, .ro (.recs [0, 0, 1, 1] (gfs.sv xs)) xs.length 4), (4, .bool false), (5, .int .i64 (i : Int))] []) = some (.bool true, []) := by
  intro d
  induction d with
  | zero =>
    intro i n hi hn
    obtain ⟨n, rfl⟩ : ∃ k, n = k + 1 := ⟨n - 1, by omega⟩
    obtain rfl : i = xs.length := by omega
    rw [round]
    simp -implicitDefEqProofs (disch := omega) only [take_one, set_one, decide_eq_true, decide_eq_false, IntWalk.i64_in, beqT, beqF, bneT, bneF, nat_succ, ← Int.natCast_mul, ← Int.natCast_add, Int.toNat_natCast, Int.zero_mul, Int.zero_add, Int.add_zero, Nat.zero_add, Nat.add_zero, Nat.zero_mul, List.length_singleton, List.length_append, List.length_nil, List.length_cons, List.take_length, List.drop_zero, List.replicate_zero, List.take_nil, List.nil_append, Nat.reduceBEq, Nat.reduceMul, Nat.reduceLeDiff, eq_self, and_self, true_and, and_true, decide_true, decide_false, Bool.and_self, Bool.or_self, Bool.and_true, Bool.true_and, Bool.and_false, Bool.false_and, Bool.or_true, Bool.true_or, Bool.or_false, Bool.false_or, Bool.not_true, Bool.not_false, cond_true, cond_false]
  | succ d ih =>
    intro i n hi hn
    obtain ⟨n, rfl⟩ : ∃ k, n = k + 1 := ⟨n - 1, by omega⟩
    have hlt : i < xs.length := by omega
    have g := ih (i + 1) n (by omega) (by omega)
    obtain ⟨r1, r2, r3, r4⟩ := gfs_rec hlt
    obtain ⟨s1, s2⟩ := gms.short_at hs hlt
    have ft := gfs_fit xs
    rw [round]
    simp -implicitDefEqProofs (disch := omega) only [r1, r2, r3, r4, s1, s2, ft, addL_eq, mulN_eq, beq_self_eq_true, Nat.le_refl, take_one, set_one, decide_eq_true, decide_eq_false, IntWalk.i64_in, beqT, beqF, bneT, bneF, nat_succ, ← Int.natCast_mul, ← Int.natCast_add, Int.toNat_natCast, Int.zero_mul, Int.zero_add, Int.add_zero, Nat.zero_add, Nat.add_zero, Nat.zero_mul, List.length_singleton, List.length_append, List.length_nil, List.length_cons, List.take_length, List.drop_zero, List.replicate_zero, List.take_nil, List.nil_append, Nat.reduceBEq, Nat.reduceMul, Nat.reduceLeDiff, eq_self, and_self, true_and, and_true, decide_true, decide_false, Bool.and_self, Bool.or_self, Bool.and_true, Bool.true_and, Bool.and_false, Bool.false_and, Bool.or_true, Bool.true_or, Bool.or_false, Bool.false_or, Bool.not_true, Bool.not_false, cond_true, cond_false]
    exact g
theorem run : ∀ args v new, R args = some (true, v, new) → ∃ fuel, runFn Try.prog (orc [⟨35, eqGame.R⟩]) hd Dr.std none fuel (bodyOf Try.f11) 27 [4] args [] = some (v, new) := by
  intro args v new h
  unfold R at h
  split at h
  · rename_i fs m sh gs k
    simp only [Option.some.injEq, Prod.mk.injEq, Bool.and_eq_true, decide_eq_true_eq, Bool.not_eq_true'] at h
    obtain ⟨⟨⟨hl, hs, hsh⟩, h1, rfl, rfl, h4, h5, h6⟩, rfl, rfl⟩ := h
    have e : gs = fs := by rw [← gsh_eq h6, h4, gsh_eq hs]
    subst e
    obtain ⟨xs, rfl⟩ : ∃ xs, gs = gfs.sv xs := ⟨_, (gsh_eq hs).symm⟩
    rw [(gsh_of xs).2] at *
    rw [gfs_len] at hl
    obtain rfl : k = xs.length := by omega
    obtain ⟨F, hF⟩ : ∃ F : Nat, F = xs.length + 1 := ⟨_, rfl⟩
    refine ⟨F, ?_⟩
    rw [start]
    have g := loop xs F h1 hsh xs.length 0 F (by omega) (by omega)
    have nn := bne_self_eq_false ((xs.length : Nat) : Int)
    simp -implicitDefEqProofs (disch := omega) only [nn, take_one, set_one, decide_eq_true, decide_eq_false, IntWalk.i64_in, beqT, beqF, bneT, bneF, nat_succ, ← Int.natCast_mul, ← Int.natCast_add, Int.toNat_natCast, Int.zero_mul, Int.zero_add, Int.add_zero, Nat.zero_add, Nat.add_zero, Nat.zero_mul, List.length_singleton, List.length_append, List.length_nil, List.length_cons, List.take_length, List.drop_zero, List.replicate_zero, List.take_nil, List.nil_append, Nat.reduceBEq, Nat.reduceMul, Nat.reduceLeDiff, eq_self, and_self, true_and, and_true, decide_true, decide_false, Bool.and_self, Bool.or_self, Bool.and_true, Bool.true_and, Bool.and_false, Bool.false_and, Bool.or_true, Bool.true_or, Bool.or_false, Bool.false_or, Bool.not_true, Bool.not_false, cond_true, cond_false]
    exact g
  · cases h
theorem ok : EntOk Try.prog ⟨11, R⟩ :=
  ent_okA mixed (A := (orc [⟨35, eqGame.R⟩])) (orc_ok (by simp only [List.mem_cons, List.not_mem_nil, or_false, forall_eq_or_imp, forall_eq]; exact eqGame.ok)) Try.func11 (by kernel_rfl) (by kernel_rfl) (n := 27) (ts := [4]) (hd := hd) (dr := Dr.std) (cut := none) (by kernel_rfl) (by kernel_rfl) (by kernel_rfl) run
end eqGameS

namespace kGame
def R : List AVal → Option (Bool × AVal × Nat)
  | [.agg [.int .i64 u, .int .i64 r, .ro (.ints .i64 ws) mw 1, .ro (.ints .i64 cs) mc 1]] => some (decide (mw ≤ ws.length ∧ mc ≤ cs.length ∧ mw ≤ 1048576 ∧ mc ≤ 1048576), .agg [.int .i64 u, .int .i64 r, .bun 0 (.ints .i64 (ws.take mw)) mw, .bun 1 (.ints .i64 (cs.take mc)) mc], 2)
  | _ => none
def C : XC := ⟨[⟨39, kInt64S.R⟩], []⟩
theorem Cok : XCok Try.prog C := ⟨by simp only [C, List.mem_cons, List.not_mem_nil, or_false, forall_eq]; exact kInt64S.ok, by simp [C]⟩
theorem go (u r : Int) (ws cs : List Int) (mw mc : Nat) :
  runFnX Try.prog (orc []) C (fun _ => []) Dr.std 0 (bodyOf Try.f32) 19 [.cell 2 56] [.agg [.int .i64 u, .int .i64 r, .ro (.ints .i64 ws) mw 1, .ro (.ints .i64 cs) mc 1]] [] 0
  = (bif true && true then bif true && true then bif true && true then bif decide (mw ≤ ws.length ∧ mw ≤ (1048576 : Nat)) && true then bif true && true then bif decide (mc ≤ cs.length ∧ mc ≤ (1048576 : Nat)) && true then bif true && true && (true && true && (true && true && (true && true && true))) then bif true && true && (true && true && (true && true && (true && true && true))) && true then some (AVal.agg [AVal.int IntKind.i64 u, AVal.int IntKind.i64 r, AVal.bun (0 : Nat) (Cont.ints IntKind.i64 (List.take mw ws)) mw, AVal.bun (1 : Nat) (Cont.ints IntKind.i64 (List.take mc cs)) mc], [{ c := BC.cells [AVal.int IntKind.i64 u, AVal.int IntKind.i64 r, AVal.ro (Cont.ints IntKind.i64 ws) mw (1 : Nat), AVal.ro (Cont.ints IntKind.i64 cs) mc (1 : Nat)], ver := (0 : Nat) }, { c := BC.cells [AVal.int IntKind.i64 u, AVal.int IntKind.i64 r, AVal.bun (0 : Nat) (Cont.ints IntKind.i64 (List.take mw ws)) mw, AVal.bun (1 : Nat) (Cont.ints IntKind.i64 (List.take mc cs)) mc], ver := (0 : Nat) }, { c := BC.cells [AVal.int IntKind.i64 u, AVal.int IntKind.i64 r, AVal.bun (0 : Nat) (Cont.ints IntKind.i64 (List.take mw ws)) mw, AVal.bun (1 : Nat) (Cont.ints IntKind.i64 (List.take mc cs)) mc], ver := (0 : Nat) }], (2 : Nat)) else none else none else none else none else none else none else none else none) := by kernel_rfl
theorem ok : KOk Try.prog ⟨32, R⟩ := by
  refine ⟨toGame.ok.1, fun args u n h0 w cargs hargs => ?_⟩
  have h : R args = some (true, u, n) := h0
  unfold R at h
  split at h
  case h_2 => cases h
  rename_i u r ws mw cs mc
  simp only [Option.some.injEq, Prod.mk.injEq, Bool.and_eq_true, decide_eq_true_eq] at h
  obtain ⟨⟨h1, h2, h3, h4⟩, rfl, rfl⟩ := h
  have hrun := go u r ws cs mw mc
  simp only [h1, h2, h3, h4, Nat.add_zero, Nat.zero_add, and_self, decide_true, decide_false, Bool.and_self, Bool.or_self, Bool.and_true, Bool.or_true, Bool.true_and, Bool.false_and, cond_true, cond_false] at hrun
  refine (fnX_sound (X := []) mixed (A := orc []) (orc_ok (by simp)) Cok Try.func32 (by kernel_rfl) (n := 19) (ts := [.cell 2 56]) (by kernel_rfl) (by kernel_rfl) (by kernel_rfl) hrun hargs (sim_nil w) (kept_nil _ _)).mono fun e w' ⟨c, he, F1, ρ, hv, S, k⟩ => ⟨c, he, F1, k.env, k.len, fun b hb => ⟨?_, (@Sim.forb F1 _ _ _ S b hb).1⟩, ?_, k.mv⟩
  · rcases k.fb b hb with h | h
    · exact h
    · cases h
  · exact @VR.cut F1 ρ _ w' _ _ 0 hv rfl
end kGame

theorem set4_at {us : List AVal} {i : Nat} (a b c d : AVal) (h : i * 4 + 3 < us.length) :
    ((((us.set (i * 4) a).set (i * 4 + 1) b).set (i * 4 + 1 + 1) c).set (i * 4 + 1 + 1 + 1) d)[i * 4]? = some a ∧ ((((us.set (i * 4) a).set (i * 4 + 1) b).set (i * 4 + 1 + 1) c).set (i * 4 + 1 + 1 + 1) d)[i * 4 + 1]? = some b ∧
    ((((us.set (i * 4) a).set (i * 4 + 1) b).set (i * 4 + 1 + 1) c).set (i * 4 + 1 + 1 + 1) d)[i * 4 + 2]? = some c ∧ ((((us.set (i * 4) a).set (i * 4 + 1) b).set (i * 4 + 1 + 1) c).set (i * 4 + 1 + 1 + 1) d)[i * 4 + 3]? = some d ∧
    ∀ p, p < i * 4 → ((((us.set (i * 4) a).set (i * 4 + 1) b).set (i * 4 + 1 + 1) c).set (i * 4 + 1 + 1 + 1) d)[p]? = us[p]? := by
  refine ⟨?_, ?_, ?_, ?_, fun p hp => ?_⟩
  · rw [List.getElem?_set_ne (by omega), List.getElem?_set_ne (by omega), List.getElem?_set_ne (by omega), List.getElem?_set_self (by omega)]
  · rw [List.getElem?_set_ne (by omega), List.getElem?_set_ne (by omega), List.getElem?_set_self (by simp; omega)]
  · rw [List.getElem?_set_ne (by omega), List.getElem?_set_self (by simp; omega)]
  · rw [List.getElem?_set_self (by simp; omega)]
  · rw [List.getElem?_set_ne (by omega), List.getElem?_set_ne (by omega), List.getElem?_set_ne (by omega), List.getElem?_set_ne (by omega)]
/-- Cells of games with lists that are held. -/
def gcell (xs : List GmT) (us : List AVal) (j : Nat) : Prop := us[j * 4]? = some (.int .i64 (gg xs j).1.1) ∧ us[j * 4 + 1]? = some (.int .i64 (gg xs j).1.2) ∧ us[j * 4 + 2]? = some (.bun (j * 2) (.ints .i64 (gg xs j).2.1) (gg xs j).2.1.length) ∧ us[j * 4 + 3]? = some (.bun (j * 2 + 1) (.ints .i64 (gg xs j).2.2) (gg xs j).2.2.length)
namespace kGameS
def R : List AVal → Option (Bool × AVal × Nat)
  | [.ro (.recs [0, 0, 1, 1] fs) m 4] => some (decide (fs.length = m * 4) && (gsh.sp fs && (gms.short.sp 1048576 (gof.sv fs))) && decide (m ≤ 1048576), .bun 0 (.recs [0, 0, 1, 1] fs) m, 1)
  | _ => none
def C : XC := ⟨[⟨32, kGame.R⟩], []⟩
theorem Cok : XCok Try.prog C := ⟨by simp only [C, List.mem_cons, List.not_mem_nil, or_false, forall_eq]; exact kGame.ok, by simp [C]⟩
def hd : Nat → List Nat := fun _ => [0, 3, 4]
noncomputable def L (f n : Nat) (x : SX) := loopX Try.prog (orc []) C hd Dr.std f (bodyOf Try.f8) 0 [true, true, false, true] (retX Try.prog [2]) n x
theorem start (fs : List Fld) (m : Nat) (f : Nat) :
  runFnX Try.prog (orc []) C hd Dr.std f (bodyOf Try.f8) 23 [2] [.ro (.recs [0, 0, 1, 1] fs) m 4] [] 0
  = (bif (↑m : Int) == (↑m : Int) && (decide ((0 : Int) ≤ (↑m : Int)) && (decide ((↑m : Int) * (64 : Int) ≤ (140737488355328 : Int)) && decide ((↑m : Int) ≤ (4611686018427387904 : Int)))) then L f f (mkX (23 : Nat) [((0 : Nat), AVal.ro (Cont.recs [(0 : Nat), (0 : Nat), (1 : Nat), (1 : Nat)] fs) m (4 : Nat)), ((3 : Nat), AVal.own (0 : Nat) (0 : Nat) (↑m : Int).toNat (0 : Nat) (4 : Nat)), ((4 : Nat), AVal.int IntKind.i64 (0 : Int))] [{ c := BC.cells (topN.sv ((↑m : Int).toNat * (4 : Nat))), ver := (0 : Nat) }] (0 : Nat)) else none) := by kernel_rfl
theorem round (fs : List Fld) (us : List AVal) (m i q : Nat) (f n : Nat) :
  L f (n + 1) (mkX 23 [(0, .ro (.recs [0, 0, 1, 1] fs) m 4), (3, .own 0 0 m 0 4), (4, .int .i64 i)] [⟨.cells us, 0⟩] q)
  = (bif decide ((↑i : Int) < (↑m : Int)) then bif true && (true && (recfit.sp [(0 : Nat), (0 : Nat), (1 : Nat), (1 : Nat)] fs && (decide ((0 : Int) ≤ (↑i : Int)) && decide ((↑i : Int) < (↑m : Int))))) then bif decide ((recL.sv fs (addL ((↑i : Int).toNat * nat_lit 4) ((0 : Nat) + (1 : Nat) + (1 : Nat)))).length ≤ (recL.sv fs (addL ((↑i : Int).toNat * nat_lit 4) ((0 : Nat) + (1 : Nat) + (1 : Nat)))).length ∧ (recL.sv fs (addL ((↑i : Int).toNat * nat_lit 4) ((0 : Nat) + (1 : Nat) + (1 : Nat) + (1 : Nat)))).length ≤ (recL.sv fs (addL ((↑i : Int).toNat * nat_lit 4) ((0 : Nat) + (1 : Nat) + (1 : Nat) + (1 : Nat)))).length ∧ (recL.sv fs (addL ((↑i : Int).toNat * nat_lit 4) ((0 : Nat) + (1 : Nat) + (1 : Nat)))).length ≤ (1048576 : Nat) ∧ (recL.sv fs (addL ((↑i : Int).toNat * nat_lit 4) ((0 : Nat) + (1 : Nat) + (1 : Nat) + (1 : Nat)))).length ≤ (1048576 : Nat)) && (true && (true && (true && (true && true)))) then bif true && (decide ((0 : Int) ≤ (↑i : Int)) && decide ((↑i : Int) < (↑m : Int))) then bif true && (true && (true && decide ((↑i : Int).toNat * (4 : Nat) < hlen us) && (true && decide ((↑i : Int).toNat * (4 : Nat) + (1 : Nat) < hlen (upd us ((↑i : Int).toNat * (4 : Nat)) (AVal.int IntKind.i64 (recN.sv fs (addL ((↑i : Int).toNat * (4 : Nat)) (0 : Nat)))))) && (true && decide ((↑i : Int).toNat * (4 : Nat) + (1 : Nat) + (1 : Nat) < hlen (upd (upd us ((↑i : Int).toNat * (4 : Nat)) (AVal.int IntKind.i64 (recN.sv fs (addL ((↑i : Int).toNat * (4 : Nat)) (0 : Nat))))) ((↑i : Int).toNat * (4 : Nat) + (1 : Nat)) (AVal.int IntKind.i64 (recN.sv fs (addL ((↑i : Int).toNat * (4 : Nat)) (1 : Nat)))))) && (true && decide ((↑i : Int).toNat * (4 : Nat) + (1 : Nat) + (1 : Nat) + (1 : Nat) < hlen (upd (upd (upd us ((↑i : Int).toNat * (4 : Nat)) (AVal.int IntKind.i64 (recN.sv fs (addL ((↑i : Int).toNat * (4 : Nat)) (0 : Nat))))) ((↑i : Int).toNat * (4 : Nat) + (1 : Nat)) (AVal.int IntKind.i64 (recN.sv fs (addL ((↑i : Int).toNat * (4 : Nat)) (1 : Nat))))) ((↑i : Int).toNat * (4 : Nat) + (1 : Nat) + (1 : Nat)) (AVal.bun (q + (0 : Nat)) (Cont.ints IntKind.i64 (List.take (recL.sv fs (addL ((↑i : Int).toNat * (4 : Nat)) (2 : Nat))).length (recL.sv fs (addL ((↑i : Int).toNat * (4 : Nat)) (2 : Nat))))) (recL.sv fs (addL ((↑i : Int).toNat * (4 : Nat)) (2 : Nat))).length))) && true))))) then L f n (mkX (23 : Nat) [((0 : Nat), AVal.ro (Cont.recs [(0 : Nat), (0 : Nat), (1 : Nat), (1 : Nat)] fs) m (4 : Nat)), ((3 : Nat), AVal.own (0 : Nat) (0 : Nat) m (0 : Nat) (4 : Nat)), ((4 : Nat), AVal.int IntKind.i64 (IntKind.i64.wrap ((↑i : Int) + (1 : Int))))] [{ c := BC.cells (upd (upd (upd (upd us ((↑i : Int).toNat * (4 : Nat)) (AVal.int IntKind.i64 (recN.sv fs (addL ((↑i : Int).toNat * (4 : Nat)) (0 : Nat))))) ((↑i : Int).toNat * (4 : Nat) + (1 : Nat)) (AVal.int IntKind.i64 (recN.sv fs (addL ((↑i : Int).toNat * (4 : Nat)) (1 : Nat))))) ((↑i : Int).toNat * (4 : Nat) + (1 : Nat) + (1 : Nat)) (AVal.bun (q + (0 : Nat)) (Cont.ints IntKind.i64 (List.take (recL.sv fs (addL ((↑i : Int).toNat * (4 : Nat)) (2 : Nat))).length (recL.sv fs (addL ((↑i : Int).toNat * (4 : Nat)) (2 : Nat))))) (recL.sv fs (addL ((↑i : Int).toNat * (4 : Nat)) (2 : Nat))).length)) ((↑i : Int).toNat * (4 : Nat) + (1 : Nat) + (1 : Nat) + (1 : Nat)) (AVal.bun (q + (1 : Nat)) (Cont.ints IntKind.i64 (List.take (recL.sv fs (addL ((↑i : Int).toNat * (4 : Nat)) (3 : Nat))).length (recL.sv fs (addL ((↑i : Int).toNat * (4 : Nat)) (3 : Nat))))) (recL.sv fs (addL ((↑i : Int).toNat * (4 : Nat)) (3 : Nat))).length)), ver := (0 : Nat) }] (q + (2 : Nat))) else none else none else none else none else some (AVal.own (0 : Nat) (0 : Nat) m (0 : Nat) (4 : Nat), [{ c := BC.cells us, ver := (0 : Nat) }], q)) := by kernel_rfl
theorem loop (xs : List GmT) (f : Nat) (hx : xs.length ≤ 1048576) (hs : gms.short.sp 1048576 xs = true) : ∀ (d i n : Nat) (us : List AVal), i + d = xs.length → d < n → us.length = xs.length * 4 → (∀ j, j < i → gcell xs us j) →
    ∃ us' : List AVal, L f n (mkX 23 [(0, .ro (.recs [0, 0, 1, 1] (gfs.sv xs)) xs.length 4), (3, .own 0 0 xs.length 0 4), (4, .int .i64 (i : Int))] [⟨.cells us, 0⟩] (i * 2)) = some (.own 0 0 xs.length 0 4, [⟨.cells us', 0⟩], xs.length * 2) ∧ ∀ j, j < xs.length → gcell xs us' j := by
  intro d
  induction d with
  | zero =>
    intro i n us hi hn hl hj
    obtain ⟨n, rfl⟩ : ∃ k, n = k + 1 := ⟨n - 1, by omega⟩
    obtain rfl : i = xs.length := by omega
    refine ⟨us, ?_, hj⟩
    rw [round]
    simp -implicitDefEqProofs (disch := omega) only [take_one, set_one, decide_eq_true, decide_eq_false, IntWalk.i64_in, beqT, beqF, bneT, bneF, nat_succ, ← Int.natCast_mul, ← Int.natCast_add, Int.toNat_natCast, Int.zero_mul, Int.zero_add, Int.add_zero, Nat.zero_add, Nat.add_zero, Nat.zero_mul, List.length_singleton, List.length_append, List.length_nil, List.length_cons, List.take_length, List.drop_zero, List.replicate_zero, List.take_nil, List.nil_append, Nat.reduceBEq, Nat.reduceMul, Nat.reduceLeDiff, eq_self, and_self, true_and, and_true, decide_true, decide_false, Bool.and_self, Bool.or_self, Bool.and_true, Bool.true_and, Bool.and_false, Bool.false_and, Bool.or_true, Bool.true_or, Bool.or_false, Bool.false_or, Bool.not_true, Bool.not_false, cond_true, cond_false]
  | succ d ih =>
    intro i n us hi hn hl hj
    obtain ⟨n, rfl⟩ : ∃ k, n = k + 1 := ⟨n - 1, by omega⟩
    have hlt : i < xs.length := by omega
    obtain ⟨r1, r2, r3, r4⟩ := gfs_rec hlt
    obtain ⟨s1, s2⟩ := gms.short_at hs hlt
    have ft := gfs_fit xs
    obtain ⟨w1, w2, w3, w4, w5⟩ := set4_at (us := us) (i := i) (.int .i64 (gg xs i).1.1) (.int .i64 (gg xs i).1.2) (.bun (i * 2) (.ints .i64 (gg xs i).2.1) (gg xs i).2.1.length) (.bun (i * 2 + 1) (.ints .i64 (gg xs i).2.2) (gg xs i).2.2.length) (by omega)
    obtain ⟨us', g1, g2⟩ := ih (i + 1) n ((((us.set (i * 4) (.int .i64 (gg xs i).1.1)).set (i * 4 + 1) (.int .i64 (gg xs i).1.2)).set (i * 4 + 1 + 1) (.bun (i * 2) (.ints .i64 (gg xs i).2.1) (gg xs i).2.1.length)).set (i * 4 + 1 + 1 + 1) (.bun (i * 2 + 1) (.ints .i64 (gg xs i).2.2) (gg xs i).2.2.length)) (by omega) (by omega) (by simp only [List.length_set]; exact hl) (fun j hjl => by
      by_cases e : j = i
      · subst e; exact ⟨w1, w2, w3, w4⟩
      · obtain ⟨k1, k2, k3, k4⟩ := hj j (by omega)
        exact ⟨(w5 _ (by omega)).trans k1, (w5 _ (by omega)).trans k2, (w5 _ (by omega)).trans k3, (w5 _ (by omega)).trans k4⟩)
    refine ⟨us', ?_, g2⟩
    have e2 : (i + 1) * 2 = i * 2 + 2 := by omega
    rw [e2] at g1
    rw [← g1, round]
    simp -implicitDefEqProofs (disch := omega) only [r1, r2, r3, r4, s1, s2, ft, addL_eq, mulN_eq, beq_self_eq_true, Nat.le_refl, hlen_eq, upd_eq, List.length_set, hl, take_one, set_one, decide_eq_true, decide_eq_false, IntWalk.i64_in, beqT, beqF, bneT, bneF, nat_succ, ← Int.natCast_mul, ← Int.natCast_add, Int.toNat_natCast, Int.zero_mul, Int.zero_add, Int.add_zero, Nat.zero_add, Nat.add_zero, Nat.zero_mul, List.length_singleton, List.length_append, List.length_nil, List.length_cons, List.take_length, List.drop_zero, List.replicate_zero, List.take_nil, List.nil_append, Nat.reduceBEq, Nat.reduceMul, Nat.reduceLeDiff, eq_self, and_self, true_and, and_true, decide_true, decide_false, Bool.and_self, Bool.or_self, Bool.and_true, Bool.true_and, Bool.and_false, Bool.false_and, Bool.or_true, Bool.true_or, Bool.or_false, Bool.false_or, Bool.not_true, Bool.not_false, cond_true, cond_false]
theorem ok : KOk Try.prog ⟨8, R⟩ := by
  refine ⟨⟨_, Try.func8, by kernel_rfl, by kernel_rfl⟩, fun args u n h0 w cargs hargs => ?_⟩
  have h : R args = some (true, u, n) := h0
  unfold R at h
  split at h
  case h_2 => cases h
  rename_i fs m
  simp only [Option.some.injEq, Prod.mk.injEq, Bool.and_eq_true, decide_eq_true_eq] at h
  obtain ⟨⟨⟨hl, hs, hsh⟩, hm⟩, rfl, rfl⟩ := h
  obtain ⟨xs, rfl⟩ : ∃ xs, fs = gfs.sv xs := ⟨_, (gsh_eq hs).symm⟩
  rw [(gsh_of xs).2] at hsh
  have hlen := gfs_len xs
  obtain rfl : m = xs.length := by omega
  obtain ⟨F, hF⟩ : ∃ F : Nat, F = xs.length + 1 := ⟨_, rfl⟩
  obtain ⟨us', g1, g2⟩ := loop xs F hm hsh xs.length 0 F (topN.sv (xs.length * 4)) (by omega) (by omega) (by simp [topN.sv]) (fun j hj => by omega)
  have hrun : runFnX Try.prog (orc []) C hd Dr.std F (bodyOf Try.f8) 23 [2] [.ro (.recs [0, 0, 1, 1] (gfs.sv xs)) xs.length 4] [] 0 = some (.own 0 0 xs.length 0 4, [⟨.cells us', 0⟩], xs.length * 2) := by
    rw [start, ← g1]
    simp -implicitDefEqProofs (disch := omega) only [beq_self_eq_true, Int.toNat_natCast, take_one, set_one, decide_eq_true, decide_eq_false, IntWalk.i64_in, beqT, beqF, bneT, bneF, nat_succ, ← Int.natCast_mul, ← Int.natCast_add, Int.toNat_natCast, Int.zero_mul, Int.zero_add, Int.add_zero, Nat.zero_add, Nat.add_zero, Nat.zero_mul, List.length_singleton, List.length_append, List.length_nil, List.length_cons, List.take_length, List.drop_zero, List.replicate_zero, List.take_nil, List.nil_append, Nat.reduceBEq, Nat.reduceMul, Nat.reduceLeDiff, eq_self, and_self, true_and, and_true, decide_true, decide_false, Bool.and_self, Bool.or_self, Bool.and_true, Bool.true_and, Bool.and_false, Bool.false_and, Bool.or_true, Bool.true_or, Bool.or_false, Bool.false_or, Bool.not_true, Bool.not_false, cond_true, cond_false]
    try rfl
  refine (fnX_sound (X := []) mixed (A := orc []) (orc_ok (by simp)) Cok Try.func8 (by kernel_rfl) (n := 23) (ts := [2]) (by kernel_rfl) (by kernel_rfl) (by kernel_rfl) hrun hargs (sim_nil w)
    (kept_nil _ _)).mono fun e w' ⟨c, he, hv⟩ => ⟨c, he, ?_⟩
  refine held_recs (sh := [0, 0, 1, 1]) (fun p => if p % 4 = 2 then p / 4 * 2 else if p % 4 = 3 then p / 4 * 2 + 1 else xs.length * 2 + p) (by rw [hlen]; rfl) (fun p q hp hq hpq => ?_) (fun p fd hp => ?_) hv
  · rw [hlen] at hp hq
    split <;> split <;> (try split) <;> (try split) <;> omega
  · have hlt : p < xs.length * 4 := by rw [← hlen]; exact (List.getElem?_eq_some_iff.1 hp).1
    obtain ⟨k1, k2, k3, k4⟩ := g2 (p / 4) (by omega)
    obtain ⟨q1, q2, q3, q4⟩ := gfs_at xs (p / 4) (by omega)
    have hm4 : p % 4 = 0 ∨ p % 4 = 1 ∨ p % 4 = 2 ∨ p % 4 = 3 := by omega
    rcases hm4 with h | h | h | h
    · rw [show p / 4 * 4 = p by omega] at k1 q1
      rw [q1] at hp; simp only [Option.some.injEq] at hp; subst hp
      simp only [h]; exact k1
    · rw [show p / 4 * 4 + 1 = p by omega] at k2 q2
      rw [q2] at hp; simp only [Option.some.injEq] at hp; subst hp
      simp only [h]; exact k2
    · rw [show p / 4 * 4 + 2 = p by omega] at k3 q3
      rw [q3] at hp; simp only [Option.some.injEq] at hp; subst hp
      simp only [h]; exact k3
    · rw [show p / 4 * 4 + 3 = p by omega] at k4 q4
      rw [q4] at hp; simp only [Option.some.injEq] at hp; subst hp
      simp only [h]; exact k4
end kGameS

namespace mGameS
def C : XC := ⟨[], [⟨13, mInt64S.ix, mInt64S.R⟩]⟩
theorem Cok : XCok Try.prog C := ⟨by simp [C], by simp only [C, List.mem_cons, List.not_mem_nil, or_false, forall_eq]; exact mInt64S.ok⟩
def hd : Nat → List Nat := fun _ => [0, 1, 5]
noncomputable def L (f n : Nat) (x : SX) := loopX Try.prog (orc []) C hd Dr.std f (bodyOf Try.f12) 0 [true, false, true] (retX Try.prog [4]) n x
theorem start (vs : List AVal) (m q : Nat) (k : Int) (f : Nat) :
  runFnX Try.prog (orc []) C hd Dr.std f (bodyOf Try.f12) 41 [4] [.own 0 0 m 0 4, .int .i64 k] [⟨.cells vs, 0⟩] q
  = (L f f (mkX (41 : Nat) [((0 : Nat), AVal.own (0 : Nat) (0 : Nat) m (0 : Nat) (4 : Nat)), ((1 : Nat), AVal.int IntKind.i64 k), ((5 : Nat), AVal.int IntKind.i64 (0 : Int))] [{ c := BC.cells vs, ver := (0 : Nat) }] q)) := by kernel_rfl
theorem round (us : List AVal) (m i q : Nat) (k : Int) (f n : Nat) :
  L f (n + 1) (mkX 41 [(0, .own 0 0 m 0 4), (1, .int .i64 k), (5, .int .i64 i)] [⟨.cells us, 0⟩] q)
  = (bif decide ((↑i : Int) < (↑m : Int)) then bif true && (decide ((0 : Int) ≤ (↑i : Int)) && decide ((↑i : Int) < (↑m : Int))) then bif true && (true && (true && decide ((↑i : Int).toNat * (4 : Nat) + (0 : Nat) < hlen us) && true)) then bif true && (decide ((0 : Int) ≤ (↑i : Int)) && decide ((↑i : Int) < (↑m : Int))) then bif true && (true && (true && decide ((↑i : Int).toNat * (4 : Nat) + (1 : Nat) < hlen (upd us ((↑i : Int).toNat * (4 : Nat) + (0 : Nat)) (AVal.int IntKind.i64 k))) && true)) then bif true && (decide ((0 : Int) ≤ (↑i : Int)) && decide ((↑i : Int) < (↑m : Int))) then bif true && (gaK (upd (upd us ((↑i : Int).toNat * nat_lit 4 + (0 : Nat)) (AVal.int IntKind.i64 k)) ((↑i : Int).toNat * nat_lit 4 + (1 : Nat)) (AVal.int IntKind.i64 (IntKind.i64.wrap (k + (1 : Int))))) ((↑i : Int).toNat * nat_lit 4 + (2 : Nat))).1 then bif bi.sp (gaK (upd (upd us ((↑i : Int).toNat * nat_lit 4 + (0 : Nat)) (AVal.int IntKind.i64 k)) ((↑i : Int).toNat * nat_lit 4 + (1 : Nat)) (AVal.int IntKind.i64 (IntKind.i64.wrap (k + (1 : Int))))) ((↑i : Int).toNat * nat_lit 4 + (2 : Nat))).2 && decide ((0 : Int) ≤ IntKind.i64.wrap (IntKind.i64.wrap (k + (1 : Int)) + (1 : Int)) ∧ IntKind.i64.wrap (IntKind.i64.wrap (k + (1 : Int)) + (1 : Int)) ≤ (1000000000 : Int)) then bif true && (decide ((0 : Int) ≤ (↑i : Int)) && decide ((↑i : Int) < (↑m : Int))) then bif true && (gaK (AVal.mapB.mapBs (drp (mInt64S.ix (gaK (upd (upd us ((↑i : Int).toNat * nat_lit 4 + (0 : Nat)) (AVal.int IntKind.i64 k)) ((↑i : Int).toNat * nat_lit 4 + (1 : Nat)) (AVal.int IntKind.i64 (IntKind.i64.wrap (k + (1 : Int))))) ((↑i : Int).toNat * nat_lit 4 + (2 : Nat))).2)) (upd (upd us ((↑i : Int).toNat * nat_lit 4 + (0 : Nat)) (AVal.int IntKind.i64 k)) ((↑i : Int).toNat * nat_lit 4 + (1 : Nat)) (AVal.int IntKind.i64 (IntKind.i64.wrap (k + (1 : Int)))))) ((↑i : Int).toNat * nat_lit 4 + (3 : Nat))).1 then bif bi.sp (gaK (AVal.mapB.mapBs (drp (mInt64S.ix (gaK (upd (upd us ((↑i : Int).toNat * nat_lit 4 + (0 : Nat)) (AVal.int IntKind.i64 k)) ((↑i : Int).toNat * nat_lit 4 + (1 : Nat)) (AVal.int IntKind.i64 (IntKind.i64.wrap (k + (1 : Int))))) ((↑i : Int).toNat * nat_lit 4 + (2 : Nat))).2)) (upd (upd us ((↑i : Int).toNat * nat_lit 4 + (0 : Nat)) (AVal.int IntKind.i64 k)) ((↑i : Int).toNat * nat_lit 4 + (1 : Nat)) (AVal.int IntKind.i64 (IntKind.i64.wrap (k + (1 : Int)))))) ((↑i : Int).toNat * nat_lit 4 + (3 : Nat))).2 && decide ((0 : Int) ≤ IntKind.i64.wrap (IntKind.i64.wrap (k + (1 : Int)) + (1 : Int)) + (↑(bm.sv (gaK (upd (upd us ((↑i : Int).toNat * nat_lit 4 + (0 : Nat)) (AVal.int IntKind.i64 k)) ((↑i : Int).toNat * nat_lit 4 + (1 : Nat)) (AVal.int IntKind.i64 (IntKind.i64.wrap (k + (1 : Int))))) ((↑i : Int).toNat * nat_lit 4 + (2 : Nat))).2) : Int) ∧ IntKind.i64.wrap (IntKind.i64.wrap (k + (1 : Int)) + (1 : Int)) + (↑(bm.sv (gaK (upd (upd us ((↑i : Int).toNat * nat_lit 4 + (0 : Nat)) (AVal.int IntKind.i64 k)) ((↑i : Int).toNat * nat_lit 4 + (1 : Nat)) (AVal.int IntKind.i64 (IntKind.i64.wrap (k + (1 : Int))))) ((↑i : Int).toNat * nat_lit 4 + (2 : Nat))).2) : Int) ≤ (1000000000 : Int)) then L f n (mkX (41 : Nat) [((0 : Nat), AVal.own (0 : Nat) (0 : Nat) m (0 : Nat) (4 : Nat)), ((1 : Nat), AVal.int IntKind.i64 (IntKind.i64.wrap (IntKind.i64.wrap (k + (1 : Int)) + (1 : Int)) + (↑(bm.sv (gaK (upd (upd us ((↑i : Int).toNat * nat_lit 4 + (0 : Nat)) (AVal.int IntKind.i64 k)) ((↑i : Int).toNat * nat_lit 4 + (1 : Nat)) (AVal.int IntKind.i64 (IntKind.i64.wrap (k + (1 : Int))))) ((↑i : Int).toNat * nat_lit 4 + (2 : Nat))).2) : Int) + (↑(bm.sv (gaK (AVal.mapB.mapBs (drp (mInt64S.ix (gaK (upd (upd us ((↑i : Int).toNat * nat_lit 4 + (0 : Nat)) (AVal.int IntKind.i64 k)) ((↑i : Int).toNat * nat_lit 4 + (1 : Nat)) (AVal.int IntKind.i64 (IntKind.i64.wrap (k + (1 : Int))))) ((↑i : Int).toNat * nat_lit 4 + (2 : Nat))).2)) (upd (upd us ((↑i : Int).toNat * nat_lit 4 + (0 : Nat)) (AVal.int IntKind.i64 k)) ((↑i : Int).toNat * nat_lit 4 + (1 : Nat)) (AVal.int IntKind.i64 (IntKind.i64.wrap (k + (1 : Int)))))) ((↑i : Int).toNat * nat_lit 4 + (3 : Nat))).2) : Int))), ((5 : Nat), AVal.int IntKind.i64 (IntKind.i64.wrap ((↑i : Int) + (1 : Int))))] [{ c := BC.cells (AVal.mapB.mapBs (drp (mInt64S.ix (gaK (AVal.mapB.mapBs (drp (mInt64S.ix (gaK (upd (upd us ((↑i : Int).toNat * nat_lit 4 + (0 : Nat)) (AVal.int IntKind.i64 k)) ((↑i : Int).toNat * nat_lit 4 + (1 : Nat)) (AVal.int IntKind.i64 (IntKind.i64.wrap (k + (1 : Int))))) ((↑i : Int).toNat * nat_lit 4 + (2 : Nat))).2)) (upd (upd us ((↑i : Int).toNat * nat_lit 4 + (0 : Nat)) (AVal.int IntKind.i64 k)) ((↑i : Int).toNat * nat_lit 4 + (1 : Nat)) (AVal.int IntKind.i64 (IntKind.i64.wrap (k + (1 : Int)))))) ((↑i : Int).toNat * nat_lit 4 + (3 : Nat))).2)) (AVal.mapB.mapBs (drp (mInt64S.ix (gaK (upd (upd us ((↑i : Int).toNat * nat_lit 4 + (0 : Nat)) (AVal.int IntKind.i64 k)) ((↑i : Int).toNat * nat_lit 4 + (1 : Nat)) (AVal.int IntKind.i64 (IntKind.i64.wrap (k + (1 : Int))))) ((↑i : Int).toNat * nat_lit 4 + (2 : Nat))).2)) (upd (upd us ((↑i : Int).toNat * (4 : Nat) + (0 : Nat)) (AVal.int IntKind.i64 k)) ((↑i : Int).toNat * (4 : Nat) + (1 : Nat)) (AVal.int IntKind.i64 (IntKind.i64.wrap (k + (1 : Int))))))), ver := (0 : Nat) }] q) else none else none else none else none else none else none else none else none else none else none else some (AVal.int IntKind.i64 k, [{ c := BC.cells us, ver := (0 : Nat) }], q)) := by kernel_rfl
theorem bi_bun (i : Nat) (r : List Int) (h : r.length ≤ 4611686018427387904) : bi.sp (.bun i (.ints .i64 r) r.length) = true := by simp [bi.sp, h]
theorem bm_bun (i : Nat) (c : Cont) (n : Nat) : bm.sv (.bun i c n) = n := rfl
theorem ix_bun (i : Nat) (c : Cont) (n : Nat) : mInt64S.ix (.bun i c n) = [i] := rfl
def cell (xs : List GmT) (us : List AVal) (j : Nat) : Prop := us[j * 4 + 2]? = some (.bun (j * 4 + 2) (.ints .i64 (gg xs j).2.1) (gg xs j).2.1.length) ∧ us[j * 4 + 3]? = some (.bun (j * 4 + 3) (.ints .i64 (gg xs j).2.2) (gg xs j).2.2.length)
theorem drp_at {us : List AVal} {p i : Nat} {c : Cont} {n : Nat} (h : us[p]? = some (.bun i c n)) {j : Nat} (hj : j ≠ i) : (AVal.mapB.mapBs (drp [j]) us)[p]? = some (.bun i c n) := by
  rw [mapBs_eq, List.getElem?_map, h]
  have : (i == j) = false := by rw [beq_eq_false_iff_ne]; omega
  simp [AVal.mapB, drp, hasN, eqN_eq, this]
theorem loop (xs : List GmT) (q f : Nat) (hx : xs.length ≤ 1048576) (hs : gms.short.sp 4611686018427387904 xs = true) : ∀ (d i n : Nat) (k : Int) (us : List AVal), i + d = xs.length → d < n → us.length = xs.length * 4 → (∀ j, i ≤ j → j < xs.length → cell xs us j) → 0 ≤ k → k + (gms.tt.sv (xs.drop i) : Int) ≤ 1000000000 →
    ∃ us' : List AVal, L f n (mkX 41 [(0, .own 0 0 xs.length 0 4), (1, .int .i64 k), (5, .int .i64 (i : Int))] [⟨.cells us, 0⟩] q) = some (.int .i64 (k + (gms.tt.sv (xs.drop i) : Int)), [⟨.cells us', 0⟩], q) := by
  intro d
  induction d with
  | zero =>
    intro i n k us hi hn hl hj hk ht
    obtain ⟨n, rfl⟩ : ∃ k, n = k + 1 := ⟨n - 1, by omega⟩
    obtain rfl : i = xs.length := by omega
    refine ⟨us, ?_⟩
    have e0 : k + ((gms.tt.sv [] : Nat) : Int) = k := Int.add_zero k
    rw [round, List.drop_of_length_le (Nat.le_refl _), e0]
    simp -implicitDefEqProofs (disch := omega) only [take_one, set_one, decide_eq_true, decide_eq_false, IntWalk.i64_in, beqT, beqF, bneT, bneF, nat_succ, ← Int.natCast_mul, ← Int.natCast_add, Int.toNat_natCast, Int.zero_mul, Int.zero_add, Int.add_zero, Nat.zero_add, Nat.add_zero, Nat.zero_mul, List.length_singleton, List.length_append, List.length_nil, List.length_cons, List.take_length, List.drop_zero, List.replicate_zero, List.take_nil, List.nil_append, Nat.reduceBEq, Nat.reduceMul, Nat.reduceLeDiff, eq_self, and_self, true_and, and_true, decide_true, decide_false, Bool.and_self, Bool.or_self, Bool.and_true, Bool.true_and, Bool.and_false, Bool.false_and, Bool.or_true, Bool.true_or, Bool.or_false, Bool.false_or, Bool.not_true, Bool.not_false, cond_true, cond_false]
  | succ d ih =>
    intro i n k us hi hn hl hj hk ht
    obtain ⟨n, rfl⟩ : ∃ k, n = k + 1 := ⟨n - 1, by omega⟩
    have hlt : i < xs.length := by omega
    obtain ⟨s1, s2⟩ := gms.short_at hs hlt
    obtain ⟨c1, c2⟩ := hj i (Nat.le_refl _) hlt
    have ed : (gms.tt.sv (xs.drop i) : Int) = 2 + ((gg xs i).2.1.length : Int) + ((gg xs i).2.2.length : Int) + (gms.tt.sv (xs.drop (i + 1)) : Int) := by
      rw [gg_drop hlt, gms.tt.sv]; omega
    rw [ed] at ht ⊢
    have b1 := bi_bun (i * 4 + 2) (gg xs i).2.1 s1
    have b2 := bi_bun (i * 4 + 3) (gg xs i).2.2 s2
    have w1 : IntKind.i64.wrap (k + 1) = k + 1 := IntWalk.i64_in _ (by omega)
    have w2 : IntKind.i64.wrap (k + 1 + 1) = k + 1 + 1 := IntWalk.i64_in _ (by omega)
    let W : List AVal := (us.set (i * 4) (.int .i64 k)).set (i * 4 + 1) (.int .i64 (k + 1))
    have hW : ∀ p, i * 4 + 1 < p → W[p]? = us[p]? := fun p hp => by
      show ((us.set (i * 4) _).set (i * 4 + 1) _)[p]? = _
      rw [List.getElem?_set_ne (by omega), List.getElem?_set_ne (by omega)]
    have g1 : gaK W (i * 4 + 2) = (true, .bun (i * 4 + 2) (.ints .i64 (gg xs i).2.1) (gg xs i).2.1.length) := gaK_nth (by rw [nth_eq, hW _ (by omega)]; exact c1)
    have g2 : gaK (AVal.mapB.mapBs (drp [i * 4 + 2]) W) (i * 4 + 3) = (true, .bun (i * 4 + 3) (.ints .i64 (gg xs i).2.2) (gg xs i).2.2.length) := gaK_nth (by rw [nth_eq]; exact drp_at (by rw [hW _ (by omega)]; exact c2) (by omega))
    obtain ⟨us', g⟩ := ih (i + 1) n (k + 1 + 1 + ((gg xs i).2.1.length : Int) + ((gg xs i).2.2.length : Int)) (AVal.mapB.mapBs (drp [i * 4 + 3]) (AVal.mapB.mapBs (drp [i * 4 + 2]) W)) (by omega) (by omega) (by simp only [mapBs_eq, List.length_map, W, List.length_set]; exact hl) (fun j h1 h2 => by
      obtain ⟨k1, k2⟩ := hj j (by omega) h2
      exact ⟨drp_at (drp_at (by rw [hW _ (by omega)]; exact k1) (by omega)) (by omega), drp_at (drp_at (by rw [hW _ (by omega)]; exact k2) (by omega)) (by omega)⟩) (by omega) (by omega)
    refine ⟨us', ?_⟩
    have e : k + (2 + ((gg xs i).2.1.length : Int) + ((gg xs i).2.2.length : Int) + (gms.tt.sv (xs.drop (i + 1)) : Int)) = k + 1 + 1 + ((gg xs i).2.1.length : Int) + ((gg xs i).2.2.length : Int) + (gms.tt.sv (xs.drop (i + 1)) : Int) := by omega
    rw [e, ← g, round]
    simp -implicitDefEqProofs only [Int.toNat_natCast, Nat.add_zero, upd_eq, w1, w2]
    have eW : (us.set (i * 4) (.int .i64 k)).set (i * 4 + 1) (.int .i64 (k + 1)) = W := rfl
    rw [eW]
    simp -implicitDefEqProofs only [g1, ix_bun, bm_bun, b1]
    simp -implicitDefEqProofs only [g2, ix_bun, bm_bun, b2]
    simp -implicitDefEqProofs (disch := omega) only [hlen_eq, List.length_set, hl, take_one, set_one, decide_eq_true, decide_eq_false, IntWalk.i64_in, beqT, beqF, bneT, bneF, nat_succ, ← Int.natCast_mul, ← Int.natCast_add, Int.toNat_natCast, Int.zero_mul, Int.zero_add, Int.add_zero, Nat.zero_add, Nat.add_zero, Nat.zero_mul, List.length_singleton, List.length_append, List.length_nil, List.length_cons, List.take_length, List.drop_zero, List.replicate_zero, List.take_nil, List.nil_append, Nat.reduceBEq, Nat.reduceMul, Nat.reduceLeDiff, eq_self, and_self, true_and, and_true, decide_true, decide_false, Bool.and_self, Bool.or_self, Bool.and_true, Bool.true_and, Bool.and_false, Bool.false_and, Bool.or_true, Bool.true_or, Bool.or_false, Bool.false_or, Bool.not_true, Bool.not_false, cond_true, cond_false]
def R (x : AVal) (k : Int) : Option (Bool × Int) := match x with
  | .bun _ (.recs sh fs) m => some (decide (sh = [0, 0, 1, 1] ∧ fs.length = m * 4 ∧ m ≤ 1048576 ∧ 0 ≤ k ∧ k + (gms.tt.sv (gof.sv fs) : Int) ≤ 1000000000) && (gsh.sp fs && gms.short.sp 4611686018427387904 (gof.sv fs)), k + (gms.tt.sv (gof.sv fs) : Int))
  | _ => none
def ix (x : AVal) : List Nat := match x with
  | .bun i _ _ => [i]
  | _ => []
theorem ok : MOk Try.prog ⟨12, ix, R⟩ := by
  refine ⟨⟨_, Try.func12, by kernel_rfl, by kernel_rfl⟩, fun x k r h0 Fb ρ H w c S E hv => ?_⟩
  have h : R x k = some (true, r) := h0
  unfold R at h
  split at h
  case h_2 => cases h
  rename_i i sh fs m
  simp only [Option.some.injEq, Prod.mk.injEq, Bool.and_eq_true, decide_eq_true_eq] at h
  obtain ⟨⟨⟨rfl, hl, h2, h3, h4⟩, hs, hsh⟩, rfl⟩ := h
  obtain ⟨xs, rfl⟩ : ∃ xs, fs = gfs.sv xs := ⟨_, (gsh_eq hs).symm⟩
  rw [(gsh_of xs).2] at *
  have hlen := gfs_len xs
  obtain rfl : m = xs.length := by omega
  obtain ⟨b, B, F1, he, S1, A1, K1⟩ := open_recs (sh := [0, 0, 1, 1]) E (by rw [hlen]; rfl) hv k
  rw [hlen] at S1 A1 K1
  obtain ⟨F, hF⟩ : ∃ F : Nat, F = xs.length + 1 := ⟨_, rfl⟩
  obtain ⟨us', g1⟩ := loop xs (xs.length * 4) F h2 hsh xs.length 0 F k ((List.range (xs.length * 4)).map fun p => ((gfs.sv xs).getD p (.num 0)).hold p) (by omega) (by omega) (by simp) (fun j _ hj => by
    obtain ⟨q1, q2, q3, q4⟩ := gfs_at xs j hj
    constructor
    · rw [List.getElem?_map, List.getElem?_range (by omega), Option.map_some, List.getD_eq_getElem?_getD, q3]; rfl
    · rw [List.getElem?_map, List.getElem?_range (by omega), Option.map_some, List.getD_eq_getElem?_getD, q4]; rfl) h3 (by simpa using h4)
  rw [List.drop_zero] at g1
  have hrun := start ((List.range (xs.length * 4)).map fun p => ((gfs.sv xs).getD p (.num 0)).hold p) xs.length (xs.length * 4) k F
  rw [show ((0 : Nat) : Int) = 0 from rfl] at g1
  rw [g1] at hrun
  refine (fnX_sound (X := B) mixed (A := orc []) (orc_ok (by simp)) Cok Try.func12 (by kernel_rfl) (n := 41) (ts := [4]) (by kernel_rfl) (by kernel_rfl) (by kernel_rfl) hrun A1 S1 K1).mono fun e w' ⟨c', he', hv'⟩ => ?_
  obtain ⟨F2, ρ2, v2, S2, K2⟩ := hv'
  cases v2
  refine ⟨he', K2.mv.os, K2.mv.tape, K2.mv.output, K2.mv.size, fun y hy hn => K2.mv.frame y hy fun hm => hn ?_⟩
  exact List.mem_flatMap.2 ⟨i, by simp [ix], by rw [he]; exact hm⟩
end mGameS
end Go.Proofs.Ythecninmmojkgaa.Ab
