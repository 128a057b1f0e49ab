/-
  Functions: lists of wishes: made, marked, compared, measured.
-/
import Derived.Test.YthecninmmojkgaaFnIG
namespace Go.Proofs.Ythecninmmojkgaa.Ab
open Go
set_option linter.unusedVariables false
set_option linter.unusedSimpArgs false
set_option maxRecDepth 100000

-- numbers
namespace szWishesS
def R : List AVal → Option (Bool × AVal × List Blk)
  | [.ro (.recs [2, 2] fs) m 2, .int .i64 l] => some (decide (fs.length = m * 2) && (wsh.sp fs && (wss.short.sp 9223372036854775807 (wof.sv fs))) && decide (m ≤ 9223372036854775807 ∧ 0 ≤ l ∧ l ≤ 4611686018427387904), .int .i64 (wss.sz.sv (wof.sv fs) l), [])
  | _ => none
def hd : Nat → Head := fun _ => ⟨[0, 1, 4, 5], none⟩
noncomputable def L (f n : Nat) (s : State) := loopAt Try.prog (orc [⟨42, szWishes.R⟩]) hd Dr.std 0 f (bodyOf Try.f22) 0 [true, true, true, false, true] (retK Try.prog [4] 0 none) n s
theorem start (fs : List Fld) (m : Nat) (l : Int) (f : Nat) :
  runFn Try.prog (orc [⟨42, szWishes.R⟩]) hd Dr.std none f (bodyOf Try.f22) 27 [4] [.ro (.recs [2, 2] fs) m 2, .int .i64 l] []
  = (bif decide (IntKind.i64.wrap (l - (↑m : Int)) < (0 : Int)) then some (AVal.int IntKind.i64 (-1 : Int), []) else L f f (mkS (27 : Nat) [((0 : Nat), AVal.ro (Cont.recs [(2 : Nat), (2 : Nat)] fs) m (2 : Nat)), ((1 : Nat), AVal.int IntKind.i64 (IntKind.i64.wrap (l - (↑m : Int)))), ((4 : Nat), AVal.int IntKind.i64 (0 : Int)), ((5 : Nat), AVal.int IntKind.i64 (0 : Int))] [])) := by kernel_rfl
theorem round (fs : List Fld) (m i : Nat) (l : Int) (f n : Nat) :
  L f (n + 1) (mkS 27 [(0, .ro (.recs [2, 2] fs) m 2), (1, .int .i64 l), (4, .int .i64 0), (5, .int .i64 i)] [])
  = (bif decide ((↑i : Int) < (↑m : Int)) then bif true && (true && (recfit.sp [(2 : Nat), (2 : Nat)] fs && (decide ((0 : Int) ≤ (↑i : Int)) && decide ((↑i : Int) < (↑m : Int))))) then bif decide ((recR.sv fs (addL ((↑i : Int).toNat * nat_lit 2) (0 : Nat))).length = (recR.sv fs (addL ((↑i : Int).toNat * nat_lit 2) (0 : Nat))).length ∧ (recR.sv fs (addL ((↑i : Int).toNat * nat_lit 2) (0 : Nat))).length ≤ (9223372036854775807 : Nat) ∧ (recR.sv fs (addL ((↑i : Int).toNat * nat_lit 2) ((0 : Nat) + (1 : Nat)))).length = (recR.sv fs (addL ((↑i : Int).toNat * nat_lit 2) ((0 : Nat) + (1 : Nat)))).length ∧ (recR.sv fs (addL ((↑i : Int).toNat * nat_lit 2) ((0 : Nat) + (1 : Nat)))).length ≤ (9223372036854775807 : Nat) ∧ (0 : Int) ≤ l ∧ l ≤ (4611686018427387904 : Int)) && (short.sp (9223372036854775807 : Nat) (recR.sv fs (addL ((↑i : Int).toNat * (2 : Nat)) (0 : Nat))) && short.sp (9223372036854775807 : Nat) (recR.sv fs (addL ((↑i : Int).toNat * (2 : Nat)) (1 : Nat)))) && (true && (true && true) && (true && true) || true && true) then bif decide (sw.sv (recR.sv fs (addL ((↑i : Int).toNat * (2 : Nat)) (0 : Nat))) (recR.sv fs (addL ((↑i : Int).toNat * (2 : Nat)) (1 : Nat))) l < (0 : Int)) then some (AVal.int IntKind.i64 (-1 : Int), []) else L f n (mkS (27 : Nat) [((0 : Nat), AVal.ro (Cont.recs [(2 : Nat), (2 : Nat)] fs) m (2 : Nat)), ((1 : Nat), AVal.int IntKind.i64 (sw.sv (recR.sv fs (addL ((↑i : Int).toNat * (2 : Nat)) (0 : Nat))) (recR.sv fs (addL ((↑i : Int).toNat * (2 : Nat)) (1 : Nat))) l)), ((4 : Nat), AVal.int IntKind.i64 (0 : Int)), ((5 : Nat), AVal.int IntKind.i64 (IntKind.i64.wrap ((↑i : Int) + (1 : Int))))] []) else none else none else some (AVal.int IntKind.i64 l, [])) := by kernel_rfl
theorem sw_le {ls rs : List (List Int)} {l : Int} (h : 0 ≤ l) : sw.sv ls rs l ≤ l := by
  have h1 := szs_lt (xs := ls) h
  unfold sw.sv
  by_cases c1 : szs.sv ls l < 0
  · rw [decide_eq_true c1, cond_true]; omega
  · rw [decide_eq_false c1, cond_false]
    have h2 := szs_lt (xs := rs) (l := szs.sv ls l) (by omega)
    by_cases c2 : szs.sv rs (szs.sv ls l) < 0
    · rw [decide_eq_true c2, cond_true]; omega
    · rw [decide_eq_false c2, cond_false]; omega
theorem loop (xs : List WsT) (f : Nat) (hx : xs.length ≤ 9223372036854775807) (hs : wss.short.sp 9223372036854775807 xs = true) : ∀ (d i n : Nat) (l : Int), i + d = xs.length → d < n → 0 ≤ l → l ≤ 4611686018427387904 →
    L f n (mkS 27 [(0, .ro (.recs [2, 2] (wfs.sv xs)) xs.length 2), (1, .int .i64 l), (4, .int .i64 0), (5, .int .i64 (i : Int))] []) = some (.int .i64 (wss.szl.sv (xs.drop i) l), []) := by
  intro d
  induction d with
  | zero =>
    intro i n l hi hn h0 h1
    obtain ⟨n, rfl⟩ : ∃ k, n = k + 1 := ⟨n - 1, by omega⟩
    obtain rfl : i = xs.length := by omega
    rw [round, List.drop_of_length_le (Nat.le_refl _)]
    simp -implicitDefEqProofs (disch := omega) only [take_one, set_one, decide_eq_true, decide_eq_false, IntWalk.i64_in, beqT, beqF, bneT, bneF, nat_succ, ← Int.natCast_mul, ← Int.natCast_add, Int.toNat_natCast, Int.zero_mul, Int.zero_add, Int.add_zero, Nat.zero_add, Nat.add_zero, Nat.zero_mul, List.length_singleton, List.length_append, List.length_nil, List.length_cons, List.take_length, List.drop_zero, List.replicate_zero, List.take_nil, List.nil_append, Nat.reduceBEq, Nat.reduceMul, Nat.reduceLeDiff, eq_self, and_self, true_and, and_true, decide_true, decide_false, Bool.and_self, Bool.or_self, Bool.and_true, Bool.true_and, Bool.and_false, Bool.false_and, Bool.or_true, Bool.true_or, Bool.or_false, Bool.false_or, Bool.not_true, Bool.not_false, cond_true, cond_false]
    rfl
  | succ d ih =>
    intro i n l hi hn h0 h1
    obtain ⟨n, rfl⟩ : ∃ k, n = k + 1 := ⟨n - 1, by omega⟩
    have hlt : i < xs.length := by omega
    obtain ⟨r1, r2⟩ := wfs_rec hlt
    obtain ⟨s1, s2, s3, s4⟩ := wss.short_at hs hlt
    have ft := wfs_fit xs
    have le := sw_le (ls := (wg xs i).1) (rs := (wg xs i).2) h0
    rw [wg_drop hlt, wss.szl.sv, round]
    simp -implicitDefEqProofs only [Int.toNat_natCast, mulN_eq, addL_eq, Nat.zero_add, Nat.reduceAdd, Nat.add_zero, r1, r2]
    generalize sw.sv (wg xs i).1 (wg xs i).2 l = z at *
    by_cases hz : z < 0
    · simp -implicitDefEqProofs (disch := omega) only [s1, s2, s3, s4, ft, beq_self_eq_true, h0, h1, Nat.le_refl, take_one, set_one, decide_eq_true, decide_eq_false, IntWalk.i64_in, beqT, beqF, bneT, bneF, nat_succ, ← Int.natCast_mul, ← Int.natCast_add, Int.toNat_natCast, Int.zero_mul, Int.zero_add, Int.add_zero, Nat.zero_add, Nat.add_zero, Nat.zero_mul, List.length_singleton, List.length_append, List.length_nil, List.length_cons, List.take_length, List.drop_zero, List.replicate_zero, List.take_nil, List.nil_append, Nat.reduceBEq, Nat.reduceMul, Nat.reduceLeDiff, eq_self, and_self, true_and, and_true, decide_true, decide_false, Bool.and_self, Bool.or_self, Bool.and_true, Bool.true_and, Bool.and_false, Bool.false_and, Bool.or_true, Bool.true_or, Bool.or_false, Bool.false_or, Bool.not_true, Bool.not_false, cond_true, cond_false]
    · have g := ih (i + 1) n z (by omega) (by omega) (by omega) (by omega)
      simp -implicitDefEqProofs (disch := omega) only [s1, s2, s3, s4, ft, beq_self_eq_true, h0, h1, Nat.le_refl, take_one, set_one, decide_eq_true, decide_eq_false, IntWalk.i64_in, beqT, beqF, bneT, bneF, nat_succ, ← Int.natCast_mul, ← Int.natCast_add, Int.toNat_natCast, Int.zero_mul, Int.zero_add, Int.add_zero, Nat.zero_add, Nat.add_zero, Nat.zero_mul, List.length_singleton, List.length_append, List.length_nil, List.length_cons, List.take_length, List.drop_zero, List.replicate_zero, List.take_nil, List.nil_append, Nat.reduceBEq, Nat.reduceMul, Nat.reduceLeDiff, eq_self, and_self, true_and, and_true, decide_true, decide_false, Bool.and_self, Bool.or_self, Bool.and_true, Bool.true_and, Bool.and_false, Bool.false_and, Bool.or_true, Bool.true_or, Bool.or_false, Bool.false_or, Bool.not_true, Bool.not_false, cond_true, cond_false]
      exact g
theorem run : ∀ args v new, R args = some (true, v, new) → ∃ fuel, runFn Try.prog (orc [⟨42, szWishes.R⟩]) hd Dr.std none fuel (bodyOf Try.f22) 27 [4] args [] = some (v, new) := by
  intro args v new h
  unfold R at h
  split at h
  · rename_i fs m l
    simp only [Option.some.injEq, Prod.mk.injEq, Bool.and_eq_true, decide_eq_true_eq, Bool.not_eq_true'] at h
    obtain ⟨⟨⟨hl, hs, hsh⟩, h1, h2, h3⟩, rfl, rfl⟩ := h
    obtain ⟨xs, rfl⟩ : ∃ xs, fs = wfs.sv xs := ⟨_, (wsh_eq hs).symm⟩
    rw [(wsh_of xs).2] at *
    rw [wfs_len] at hl
    obtain rfl : m = xs.length := by omega
    obtain ⟨F, hF⟩ : ∃ F : Nat, F = xs.length + 1 := ⟨_, rfl⟩
    refine ⟨F, ?_⟩
    rw [start]
    unfold wss.sz.sv
    by_cases c : l - (xs.length : Int) < 0
    · simp -implicitDefEqProofs (disch := omega) only [take_one, set_one, decide_eq_true, decide_eq_false, IntWalk.i64_in, beqT, beqF, bneT, bneF, nat_succ, ← Int.natCast_mul, ← Int.natCast_add, Int.toNat_natCast, Int.zero_mul, Int.zero_add, Int.add_zero, Nat.zero_add, Nat.add_zero, Nat.zero_mul, List.length_singleton, List.length_append, List.length_nil, List.length_cons, List.take_length, List.drop_zero, List.replicate_zero, List.take_nil, List.nil_append, Nat.reduceBEq, Nat.reduceMul, Nat.reduceLeDiff, eq_self, and_self, true_and, and_true, decide_true, decide_false, Bool.and_self, Bool.or_self, Bool.and_true, Bool.true_and, Bool.and_false, Bool.false_and, Bool.or_true, Bool.true_or, Bool.or_false, Bool.false_or, Bool.not_true, Bool.not_false, cond_true, cond_false]
    · have g := loop xs F h1 hsh xs.length 0 F (l - (xs.length : Int)) (by omega) (by omega) (by omega) (by omega)
      rw [List.drop_zero] at g
      simp -implicitDefEqProofs (disch := omega) only [take_one, set_one, decide_eq_true, decide_eq_false, IntWalk.i64_in, beqT, beqF, bneT, bneF, nat_succ, ← Int.natCast_mul, ← Int.natCast_add, Int.toNat_natCast, Int.zero_mul, Int.zero_add, Int.add_zero, Nat.zero_add, Nat.add_zero, Nat.zero_mul, List.length_singleton, List.length_append, List.length_nil, List.length_cons, List.take_length, List.drop_zero, List.replicate_zero, List.take_nil, List.nil_append, Nat.reduceBEq, Nat.reduceMul, Nat.reduceLeDiff, eq_self, and_self, true_and, and_true, decide_true, decide_false, Bool.and_self, Bool.or_self, Bool.and_true, Bool.true_and, Bool.and_false, Bool.false_and, Bool.or_true, Bool.true_or, Bool.or_false, Bool.false_or, Bool.not_true, Bool.not_false, cond_true, cond_false]
      exact g
  · cases h
theorem ok : EntOk Try.prog ⟨22, R⟩ :=
  ent_okA mixed (A := (orc [⟨42, szWishes.R⟩])) (orc_ok (by simp only [List.mem_cons, List.not_mem_nil, or_false, forall_eq_or_imp, forall_eq]; exact szWishes.ok)) Try.func22 (by kernel_rfl) (by kernel_rfl) (n := 27) (ts := [4]) (hd := hd) (dr := Dr.std) (cut := none) (by kernel_rfl) (by kernel_rfl) (by kernel_rfl) run
end szWishesS

namespace eqWishesS
def R : List AVal → Option (Bool × AVal × List Blk)
  | [.ro (.recs [2, 2] fs) m 2, .ro (.recs sh gs) k 2] => some (decide (fs.length = m * 2) && (wsh.sp fs && (wss.short.sp 4611686018427387904 (wof.sv fs))) && decide (m ≤ 4611686018427387904 ∧ k = m ∧ sh = [2, 2] ∧ wof.sv gs = wof.sv fs ∧ gs.length = k * 2 ∧ wsh.sp gs = true), .bool true, [])
  | _ => none
def hd : Nat → Head := fun _ => ⟨[0, 1, 4, 5], none⟩
noncomputable def L (f n : Nat) (s : State) := loopAt Try.prog (orc [⟨46, eqWishes.R⟩]) hd Dr.std 0 f (bodyOf Try.f26) 0 [true, true, false, true] (retK Try.prog [4] 0 none) n s
theorem start (fs gs : List Fld) (m k : Nat) (f : Nat) :
  runFn Try.prog (orc [⟨46, eqWishes.R⟩]) hd Dr.std none f (bodyOf Try.f26) 27 [4] [.ro (.recs [2, 2] fs) m 2, .ro (.recs [2, 2] gs) k 2] []
  = (bif (↑m : Int) != (↑k : Int) then some (AVal.bool false, []) else L f f (mkS (27 : Nat) [((0 : Nat), AVal.ro (Cont.recs [(2 : Nat), (2 : Nat)] fs) m (2 : Nat)), ((1 : Nat), AVal.ro (Cont.recs [(2 : Nat), (2 : Nat)] gs) k (2 : Nat)), ((4 : Nat), AVal.bool false), ((5 : Nat), AVal.int IntKind.i64 (0 : Int))] [])) := by kernel_rfl
theorem round (fs gs : List Fld) (m k i : Nat) (f n : Nat) :
  L f (n + 1) (mkS 27 [(0, .ro (.recs [2, 2] fs) m 2), (1, .ro (.recs [2, 2] gs) k 2), (4, .bool false), (5, .int .i64 i)] [])
  = (bif decide ((↑i : Int) < (↑m : Int)) then bif true && (true && (recfit.sp [(2 : Nat), (2 : Nat)] fs && (decide ((0 : Int) ≤ (↑i : Int)) && decide ((↑i : Int) < (↑m : Int))))) then bif true && (true && (recfit.sp [(2 : Nat), (2 : Nat)] gs && (decide ((0 : Int) ≤ (↑i : Int)) && decide ((↑i : Int) < (↑k : Int))))) then bif decide ((recR.sv fs (addL ((↑i : Int).toNat * nat_lit 2) (0 : Nat))).length = (recR.sv fs (addL ((↑i : Int).toNat * nat_lit 2) (0 : Nat))).length ∧ (recR.sv fs (addL ((↑i : Int).toNat * nat_lit 2) ((0 : Nat) + (1 : Nat)))).length = (recR.sv fs (addL ((↑i : Int).toNat * nat_lit 2) ((0 : Nat) + (1 : Nat)))).length ∧ (recR.sv gs (addL ((↑i : Int).toNat * nat_lit 2) (0 : Nat))).length = (recR.sv fs (addL ((↑i : Int).toNat * nat_lit 2) (0 : Nat))).length ∧ (recR.sv gs (addL ((↑i : Int).toNat * nat_lit 2) ((0 : Nat) + (1 : Nat)))).length = (recR.sv fs (addL ((↑i : Int).toNat * nat_lit 2) ((0 : Nat) + (1 : Nat)))).length ∧ (recR.sv fs (addL ((↑i : Int).toNat * nat_lit 2) (0 : Nat))).length ≤ (4611686018427387904 : Nat) ∧ (recR.sv fs (addL ((↑i : Int).toNat * nat_lit 2) ((0 : Nat) + (1 : Nat)))).length ≤ (4611686018427387904 : Nat) ∧ recR.sv gs (addL ((↑i : Int).toNat * nat_lit 2) (0 : Nat)) = recR.sv fs (addL ((↑i : Int).toNat * nat_lit 2) (0 : Nat)) ∧ recR.sv gs (addL ((↑i : Int).toNat * nat_lit 2) ((0 : Nat) + (1 : Nat))) = recR.sv fs (addL ((↑i : Int).toNat * nat_lit 2) ((0 : Nat) + (1 : Nat)))) && (short.sp (4611686018427387904 : Nat) (recR.sv fs (addL ((↑i : Int).toNat * (2 : Nat)) (0 : Nat))) && short.sp (4611686018427387904 : Nat) (recR.sv fs (addL ((↑i : Int).toNat * (2 : Nat)) (1 : Nat)))) && (true && (true && true) && (true && (true && true) && true) || true && true) then L f n (mkS (27 : Nat) [((0 : Nat), AVal.ro (Cont.recs [(2 : Nat), (2 : Nat)] fs) m (2 : Nat)), ((1 : Nat), AVal.ro (Cont.recs [(2 : Nat), (2 : Nat)] gs) k (2 : Nat)), ((4 : Nat), AVal.bool false), ((5 : Nat), AVal.int IntKind.i64 (IntKind.i64.wrap ((↑i : Int) + (1 : Int))))] []) else none else none else none else some (AVal.bool true, [])) := by kernel_rfl
theorem loop (xs : List WsT) (f : Nat) (hx : xs.length ≤ 4611686018427387904) (hs : wss.short.sp 4611686018427387904 xs = true) : ∀ (d i n : Nat), i + d = xs.length → d < n →
    L f n (mkS 27 [(0, .ro (.recs [2, 2] (wfs.sv xs)) xs.length 2), (1, .ro (.recs [2, 2] (wfs.sv xs)) xs.length 2), (4, .bool false), (5, .int .i64 (i : Int))] []) = some (.bool true, []) := by
  intro d
  induction d with
  | zero =>
    intro i n hi hn
    obtain ⟨n, rfl⟩ : ∃ k, n = k + 1 := ⟨n - 1, by omega⟩
    obtain rfl : i = xs.length := by omega
    rw [round]
    simp -implicitDefEqProofs (disch := omega) only [take_one, set_one, decide_eq_true, decide_eq_false, IntWalk.i64_in, beqT, beqF, bneT, bneF, nat_succ, ← Int.natCast_mul, ← Int.natCast_add, Int.toNat_natCast, Int.zero_mul, Int.zero_add, Int.add_zero, Nat.zero_add, Nat.add_zero, Nat.zero_mul, List.length_singleton, List.length_append, List.length_nil, List.length_cons, List.take_length, List.drop_zero, List.replicate_zero, List.take_nil, List.nil_append, Nat.reduceBEq, Nat.reduceMul, Nat.reduceLeDiff, eq_self, and_self, true_and, and_true, decide_true, decide_false, Bool.and_self, Bool.or_self, Bool.and_true, Bool.true_and, Bool.and_false, Bool.false_and, Bool.or_true, Bool.true_or, Bool.or_false, Bool.false_or, Bool.not_true, Bool.not_false, cond_true, cond_false]
  | succ d ih =>
    intro i n hi hn
    obtain ⟨n, rfl⟩ : ∃ k, n = k + 1 := ⟨n - 1, by omega⟩
    have hlt : i < xs.length := by omega
    have g := ih (i + 1) n (by omega) (by omega)
    obtain ⟨r1, r2⟩ := wfs_rec hlt
    obtain ⟨s1, s2, s3, s4⟩ := wss.short_at hs hlt
    have ft := wfs_fit xs
    rw [round]
    simp -implicitDefEqProofs (disch := omega) only [r1, r2, s1, s2, s3, s4, ft, addL_eq, mulN_eq, beq_self_eq_true, Nat.le_refl, take_one, set_one, decide_eq_true, decide_eq_false, IntWalk.i64_in, beqT, beqF, bneT, bneF, nat_succ, ← Int.natCast_mul, ← Int.natCast_add, Int.toNat_natCast, Int.zero_mul, Int.zero_add, Int.add_zero, Nat.zero_add, Nat.add_zero, Nat.zero_mul, List.length_singleton, List.length_append, List.length_nil, List.length_cons, List.take_length, List.drop_zero, List.replicate_zero, List.take_nil, List.nil_append, Nat.reduceBEq, Nat.reduceMul, Nat.reduceLeDiff, eq_self, and_self, true_and, and_true, decide_true, decide_false, Bool.and_self, Bool.or_self, Bool.and_true, Bool.true_and, Bool.and_false, Bool.false_and, Bool.or_true, Bool.true_or, Bool.or_false, Bool.false_or, Bool.not_true, Bool.not_false, cond_true, cond_false]
    exact g
theorem run : ∀ args v new, R args = some (true, v, new) → ∃ fuel, runFn Try.prog (orc [⟨46, eqWishes.R⟩]) hd Dr.std none fuel (bodyOf Try.f26) 27 [4] args [] = some (v, new) := by
  intro args v new h
  unfold R at h
  split at h
  · rename_i fs m sh gs k
    simp only [Option.some.injEq, Prod.mk.injEq, Bool.and_eq_true, decide_eq_true_eq, Bool.not_eq_true'] at h
    obtain ⟨⟨⟨hl, hs, hsh⟩, h1, rfl, rfl, h4, h5, h6⟩, rfl, rfl⟩ := h
    have e : gs = fs := by rw [← wsh_eq h6, h4, wsh_eq hs]
    subst e
    obtain ⟨xs, rfl⟩ : ∃ xs, gs = wfs.sv xs := ⟨_, (wsh_eq hs).symm⟩
    rw [(wsh_of xs).2] at *
    rw [wfs_len] at hl
    obtain rfl : k = xs.length := by omega
    obtain ⟨F, hF⟩ : ∃ F : Nat, F = xs.length + 1 := ⟨_, rfl⟩
    refine ⟨F, ?_⟩
    rw [start]
    have g := loop xs F h1 hsh xs.length 0 F (by omega) (by omega)
    have nn := bne_self_eq_false ((xs.length : Nat) : Int)
    simp -implicitDefEqProofs (disch := omega) only [nn, take_one, set_one, decide_eq_true, decide_eq_false, IntWalk.i64_in, beqT, beqF, bneT, bneF, nat_succ, ← Int.natCast_mul, ← Int.natCast_add, Int.toNat_natCast, Int.zero_mul, Int.zero_add, Int.add_zero, Nat.zero_add, Nat.add_zero, Nat.zero_mul, List.length_singleton, List.length_append, List.length_nil, List.length_cons, List.take_length, List.drop_zero, List.replicate_zero, List.take_nil, List.nil_append, Nat.reduceBEq, Nat.reduceMul, Nat.reduceLeDiff, eq_self, and_self, true_and, and_true, decide_true, decide_false, Bool.and_self, Bool.or_self, Bool.and_true, Bool.true_and, Bool.and_false, Bool.false_and, Bool.or_true, Bool.true_or, Bool.or_false, Bool.false_or, Bool.not_true, Bool.not_false, cond_true, cond_false]
    exact g
  · cases h
theorem ok : EntOk Try.prog ⟨26, R⟩ :=
  ent_okA mixed (A := (orc [⟨46, eqWishes.R⟩])) (orc_ok (by simp only [List.mem_cons, List.not_mem_nil, or_false, forall_eq_or_imp, forall_eq]; exact eqWishes.ok)) Try.func26 (by kernel_rfl) (by kernel_rfl) (n := 27) (ts := [4]) (hd := hd) (dr := Dr.std) (cut := none) (by kernel_rfl) (by kernel_rfl) (by kernel_rfl) run
end eqWishesS

theorem set2_at {us : List AVal} {i : Nat} (a b : AVal) (h : i * 2 + 1 < us.length) :
    ((us.set (i * 2) a).set (i * 2 + 1) b)[i * 2]? = some a ∧ ((us.set (i * 2) a).set (i * 2 + 1) b)[i * 2 + 1]? = some b ∧ ∀ p, p < i * 2 → ((us.set (i * 2) a).set (i * 2 + 1) b)[p]? = us[p]? := by
  refine ⟨?_, ?_, fun p hp => ?_⟩
  · rw [List.getElem?_set_ne (by omega), List.getElem?_set_self (by omega)]
  · rw [List.getElem?_set_self (by simp; omega)]
  · rw [List.getElem?_set_ne (by omega), List.getElem?_set_ne (by omega)]
/-- Cells of wishes with lists that are held. -/
def wcell (xs : List WsT) (us : List AVal) (j : Nat) : Prop := us[j * 2]? = some (.bun (j * 2) (.rows .i64 (wg xs j).1) (wg xs j).1.length) ∧ us[j * 2 + 1]? = some (.bun (j * 2 + 1) (.rows .i64 (wg xs j).2) (wg xs j).2.length)
namespace kWishesS
def R : List AVal → Option (Bool × AVal × Nat)
  | [.ro (.recs [2, 2] fs) m 2] => some (decide (fs.length = m * 2) && (wsh.sp fs && (wss.short.sp 1048576 (wof.sv fs))) && decide (m ≤ 1048576), .bun 0 (.recs [2, 2] fs) m, 1)
  | _ => none
def C : XC := ⟨[⟨44, kWishes.R⟩], [], []⟩
theorem Cok : XCok Try.prog C := ⟨by simp only [C, List.mem_cons, List.not_mem_nil, or_false, forall_eq]; exact kWishes.ok, by simp [C], by simp [C]⟩
def hd : Nat → List Nat := fun _ => [0, 3, 4]
noncomputable def L (f n : Nat) (x : SX) := loopX Try.prog (orc []) C hd Dr.std f (bodyOf Try.f24) 0 [true, true, false, true] (retX Try.prog [2]) n x
theorem start (fs : List Fld) (m : Nat) (f : Nat) :
  runFnX Try.prog (orc []) C hd Dr.std f (bodyOf Try.f24) 23 [2] [.ro (.recs [2, 2] fs) m 2] [] 0
  = (bif (↑m : Int) == (↑m : Int) && (decide ((0 : Int) ≤ (↑m : Int)) && (decide ((↑m : Int) * (48 : Int) ≤ (140737488355328 : Int)) && decide ((↑m : Int) ≤ (4611686018427387904 : Int)))) then L f f (mkX (23 : Nat) [((0 : Nat), AVal.ro (Cont.recs [(2 : Nat), (2 : Nat)] fs) m (2 : Nat)), ((3 : Nat), AVal.own (0 : Nat) (0 : Nat) (↑m : Int).toNat (0 : Nat) (2 : Nat)), ((4 : Nat), AVal.int IntKind.i64 (0 : Int))] [{ c := BC.cells (topN.sv ((↑m : Int).toNat * (2 : Nat))), ver := (0 : Nat) }] (0 : Nat)) else none) := by kernel_rfl
theorem round (fs : List Fld) (us : List AVal) (m i q : Nat) (f n : Nat) :
  L f (n + 1) (mkX 23 [(0, .ro (.recs [2, 2] fs) m 2), (3, .own 0 0 m 0 2), (4, .int .i64 i)] [⟨.cells us, 0⟩] q)
  = (bif decide ((↑i : Int) < (↑m : Int)) then bif true && (true && (recfit.sp [(2 : Nat), (2 : Nat)] fs && (decide ((0 : Int) ≤ (↑i : Int)) && decide ((↑i : Int) < (↑m : Int))))) then bif decide ((recR.sv fs (addL ((↑i : Int).toNat * nat_lit 2) (0 : Nat))).length = (recR.sv fs (addL ((↑i : Int).toNat * nat_lit 2) (0 : Nat))).length ∧ (recR.sv fs (addL ((↑i : Int).toNat * nat_lit 2) (0 : Nat))).length ≤ (1048576 : Nat) ∧ (recR.sv fs (addL ((↑i : Int).toNat * nat_lit 2) ((0 : Nat) + (1 : Nat)))).length = (recR.sv fs (addL ((↑i : Int).toNat * nat_lit 2) ((0 : Nat) + (1 : Nat)))).length ∧ (recR.sv fs (addL ((↑i : Int).toNat * nat_lit 2) ((0 : Nat) + (1 : Nat)))).length ≤ (1048576 : Nat)) && (short.sp (1048576 : Nat) (recR.sv fs (addL ((↑i : Int).toNat * (2 : Nat)) (0 : Nat))) && short.sp (1048576 : Nat) (recR.sv fs (addL ((↑i : Int).toNat * (2 : Nat)) (1 : Nat)))) && (true && (true && true)) then bif true && (decide ((0 : Int) ≤ (↑i : Int)) && decide ((↑i : Int) < (↑m : Int))) then bif true && (true && (true && decide ((↑i : Int).toNat * (2 : Nat) < hlen us) && (true && decide ((↑i : Int).toNat * (2 : Nat) + (1 : Nat) < hlen (upd us ((↑i : Int).toNat * (2 : Nat)) (AVal.bun (q + (0 : Nat)) (Cont.rows IntKind.i64 (recR.sv fs (addL ((↑i : Int).toNat * (2 : Nat)) (0 : Nat)))) (recR.sv fs (addL ((↑i : Int).toNat * (2 : Nat)) (0 : Nat))).length))) && true))) then L f n (mkX (23 : Nat) [((0 : Nat), AVal.ro (Cont.recs [(2 : Nat), (2 : Nat)] fs) m (2 : Nat)), ((3 : Nat), AVal.own (0 : Nat) (0 : Nat) m (0 : Nat) (2 : Nat)), ((4 : Nat), AVal.int IntKind.i64 (IntKind.i64.wrap ((↑i : Int) + (1 : Int))))] [{ c := BC.cells (upd (upd us ((↑i : Int).toNat * (2 : Nat)) (AVal.bun (q + (0 : Nat)) (Cont.rows IntKind.i64 (recR.sv fs (addL ((↑i : Int).toNat * (2 : Nat)) (0 : Nat)))) (recR.sv fs (addL ((↑i : Int).toNat * (2 : Nat)) (0 : Nat))).length)) ((↑i : Int).toNat * (2 : Nat) + (1 : Nat)) (AVal.bun (q + (1 : Nat)) (Cont.rows IntKind.i64 (recR.sv fs (addL ((↑i : Int).toNat * (2 : Nat)) (1 : Nat)))) (recR.sv fs (addL ((↑i : Int).toNat * (2 : Nat)) (1 : Nat))).length)), ver := (0 : Nat) }] (q + (2 : Nat))) else none else none else none else none else some (AVal.own (0 : Nat) (0 : Nat) m (0 : Nat) (2 : Nat), [{ c := BC.cells us, ver := (0 : Nat) }], q)) := by kernel_rfl
theorem loop (xs : List WsT) (f : Nat) (hx : xs.length ≤ 1048576) (hs : wss.short.sp 1048576 xs = true) : ∀ (d i n : Nat) (us : List AVal), i + d = xs.length → d < n → us.length = xs.length * 2 → (∀ j, j < i → wcell xs us j) →
    ∃ us' : List AVal, L f n (mkX 23 [(0, .ro (.recs [2, 2] (wfs.sv xs)) xs.length 2), (3, .own 0 0 xs.length 0 2), (4, .int .i64 (i : Int))] [⟨.cells us, 0⟩] (i * 2)) = some (.own 0 0 xs.length 0 2, [⟨.cells us', 0⟩], xs.length * 2) ∧ ∀ j, j < xs.length → wcell xs us' j := by
  intro d
  induction d with
  | zero =>
    intro i n us hi hn hl hj
    obtain ⟨n, rfl⟩ : ∃ k, n = k + 1 := ⟨n - 1, by omega⟩
    obtain rfl : i = xs.length := by omega
    refine ⟨us, ?_, hj⟩
    rw [round]
    simp -implicitDefEqProofs (disch := omega) only [take_one, set_one, decide_eq_true, decide_eq_false, IntWalk.i64_in, beqT, beqF, bneT, bneF, nat_succ, ← Int.natCast_mul, ← Int.natCast_add, Int.toNat_natCast, Int.zero_mul, Int.zero_add, Int.add_zero, Nat.zero_add, Nat.add_zero, Nat.zero_mul, List.length_singleton, List.length_append, List.length_nil, List.length_cons, List.take_length, List.drop_zero, List.replicate_zero, List.take_nil, List.nil_append, Nat.reduceBEq, Nat.reduceMul, Nat.reduceLeDiff, eq_self, and_self, true_and, and_true, decide_true, decide_false, Bool.and_self, Bool.or_self, Bool.and_true, Bool.true_and, Bool.and_false, Bool.false_and, Bool.or_true, Bool.true_or, Bool.or_false, Bool.false_or, Bool.not_true, Bool.not_false, cond_true, cond_false]
  | succ d ih =>
    intro i n us hi hn hl hj
    obtain ⟨n, rfl⟩ : ∃ k, n = k + 1 := ⟨n - 1, by omega⟩
    have hlt : i < xs.length := by omega
    obtain ⟨r1, r2⟩ := wfs_rec hlt
    obtain ⟨s1, s2, s3, s4⟩ := wss.short_at hs hlt
    have ft := wfs_fit xs
    obtain ⟨w1, w2, w5⟩ := set2_at (us := us) (i := i) (.bun (i * 2) (.rows .i64 (wg xs i).1) (wg xs i).1.length) (.bun (i * 2 + 1) (.rows .i64 (wg xs i).2) (wg xs i).2.length) (by omega)
    obtain ⟨us', g1, g2⟩ := ih (i + 1) n ((us.set (i * 2) (.bun (i * 2) (.rows .i64 (wg xs i).1) (wg xs i).1.length)).set (i * 2 + 1) (.bun (i * 2 + 1) (.rows .i64 (wg xs i).2) (wg xs i).2.length)) (by omega) (by omega) (by simp only [List.length_set]; exact hl) (fun j hjl => by
      by_cases e : j = i
      · subst e; exact ⟨w1, w2⟩
      · obtain ⟨k1, k2⟩ := hj j (by omega)
        exact ⟨(w5 _ (by omega)).trans k1, (w5 _ (by omega)).trans k2⟩)
    refine ⟨us', ?_, g2⟩
    have e2 : (i + 1) * 2 = i * 2 + 2 := by omega
    rw [e2] at g1
    rw [← g1, round]
    simp -implicitDefEqProofs (disch := omega) only [r1, r2, s1, s2, s3, s4, ft, addL_eq, mulN_eq, beq_self_eq_true, Nat.le_refl, hlen_eq, upd_eq, List.length_set, hl, take_one, set_one, decide_eq_true, decide_eq_false, IntWalk.i64_in, beqT, beqF, bneT, bneF, nat_succ, ← Int.natCast_mul, ← Int.natCast_add, Int.toNat_natCast, Int.zero_mul, Int.zero_add, Int.add_zero, Nat.zero_add, Nat.add_zero, Nat.zero_mul, List.length_singleton, List.length_append, List.length_nil, List.length_cons, List.take_length, List.drop_zero, List.replicate_zero, List.take_nil, List.nil_append, Nat.reduceBEq, Nat.reduceMul, Nat.reduceLeDiff, eq_self, and_self, true_and, and_true, decide_true, decide_false, Bool.and_self, Bool.or_self, Bool.and_true, Bool.true_and, Bool.and_false, Bool.false_and, Bool.or_true, Bool.true_or, Bool.or_false, Bool.false_or, Bool.not_true, Bool.not_false, cond_true, cond_false]
theorem ok : KOk Try.prog ⟨24, R⟩ := by
  refine ⟨⟨_, Try.func24, by kernel_rfl, by kernel_rfl⟩, fun args u n h0 w cargs hargs => ?_⟩
  have h : R args = some (true, u, n) := h0
  unfold R at h
  split at h
  case h_2 => cases h
  rename_i fs m
  simp only [Option.some.injEq, Prod.mk.injEq, Bool.and_eq_true, decide_eq_true_eq] at h
  obtain ⟨⟨⟨hl, hs, hsh⟩, hm⟩, rfl, rfl⟩ := h
  obtain ⟨xs, rfl⟩ : ∃ xs, fs = wfs.sv xs := ⟨_, (wsh_eq hs).symm⟩
  rw [(wsh_of xs).2] at hsh
  have hlen := wfs_len xs
  obtain rfl : m = xs.length := by omega
  obtain ⟨F, hF⟩ : ∃ F : Nat, F = xs.length + 1 := ⟨_, rfl⟩
  obtain ⟨us', g1, g2⟩ := loop xs F hm hsh xs.length 0 F (topN.sv (xs.length * 2)) (by omega) (by omega) (by simp [topN.sv]) (fun j hj => by omega)
  have hrun : runFnX Try.prog (orc []) C hd Dr.std F (bodyOf Try.f24) 23 [2] [.ro (.recs [2, 2] (wfs.sv xs)) xs.length 2] [] 0 = some (.own 0 0 xs.length 0 2, [⟨.cells us', 0⟩], xs.length * 2) := by
    rw [start, ← g1]
    simp -implicitDefEqProofs (disch := omega) only [beq_self_eq_true, Int.toNat_natCast, take_one, set_one, decide_eq_true, decide_eq_false, IntWalk.i64_in, beqT, beqF, bneT, bneF, nat_succ, ← Int.natCast_mul, ← Int.natCast_add, Int.toNat_natCast, Int.zero_mul, Int.zero_add, Int.add_zero, Nat.zero_add, Nat.add_zero, Nat.zero_mul, List.length_singleton, List.length_append, List.length_nil, List.length_cons, List.take_length, List.drop_zero, List.replicate_zero, List.take_nil, List.nil_append, Nat.reduceBEq, Nat.reduceMul, Nat.reduceLeDiff, eq_self, and_self, true_and, and_true, decide_true, decide_false, Bool.and_self, Bool.or_self, Bool.and_true, Bool.true_and, Bool.and_false, Bool.false_and, Bool.or_true, Bool.true_or, Bool.or_false, Bool.false_or, Bool.not_true, Bool.not_false, cond_true, cond_false]
    try rfl
  refine (fnX_sound (X := []) mixed (A := orc []) (orc_ok (by simp)) Cok Try.func24 (by kernel_rfl) (n := 23) (ts := [2]) (by kernel_rfl) (by kernel_rfl) (by kernel_rfl) hrun hargs (sim_nil w)
    (kept_nil _ _)).mono fun e w' ⟨c, he, hv⟩ => ⟨c, he, ?_⟩
  refine held_recs (sh := [2, 2]) (fun p => p) (by rw [hlen]; rfl) (fun p q hp hq hpq => hpq) (fun p fd hp => ?_) hv
  have hlt : p < xs.length * 2 := by rw [← hlen]; exact (List.getElem?_eq_some_iff.1 hp).1
  obtain ⟨k1, k2⟩ := g2 (p / 2) (by omega)
  obtain ⟨q1, q2⟩ := wfs_at xs (p / 2) (by omega)
  have hm2 : p % 2 = 0 ∨ p % 2 = 1 := by omega
  rcases hm2 with h | h
  · rw [show p / 2 * 2 = p by omega] at k1 q1
    rw [q1] at hp; simp only [Option.some.injEq] at hp; subst hp
    exact k1
  · rw [show p / 2 * 2 + 1 = p by omega] at k2 q2
    rw [q2] at hp; simp only [Option.some.injEq] at hp; subst hp
    exact k2
end kWishesS

/-- What is said of lists that are held. -/
def br.sp (x : AVal) : Bool := match x with
  | .bun _ (.rows .i64 xs) m => decide (m = xs.length ∧ m ≤ 1048576)
  | _ => false
def bt.sv (x : AVal) : Int := match x with
  | .bun _ (.rows .i64 xs) _ => (tot.sv xs : Int)
  | _ => 0
namespace uInt64SS
def R (x : AVal) (k : Int) : Option (Bool × Int) := some (br.sp x && decide (0 ≤ k ∧ k + bt.sv x ≤ 1000000000), k + bt.sv x)
def ix (x : AVal) : List Nat := [bn.sv x]
theorem ok : MOk Try.prog ⟨20, ix, R⟩ := by
  refine ⟨mInt64SS.ok.1, fun x k r h Fb ρ H w c S E hv => ?_⟩
  simp only [R, Option.some.injEq, Prod.mk.injEq, Bool.and_eq_true, decide_eq_true_eq] at h
  obtain ⟨⟨h1, h2⟩, rfl⟩ := h
  unfold br.sp at h1
  split at h1
  · rename_i i xs m
    simp only [decide_eq_true_eq] at h1
    exact mInt64SS.ok.2 _ k _ (by simp only [mInt64SS.R, h1.1, h1.1 ▸ h1.2, h2.1, show k + (tot.sv xs : Int) ≤ 1000000000 from h2.2, and_self, decide_true]; rfl) Fb ρ H w c S E hv
  · cases h1
end uInt64SS
namespace mWishesS
def C : XC := ⟨[], [⟨20, uInt64SS.ix, uInt64SS.R⟩], []⟩
theorem Cok : XCok Try.prog C := ⟨by simp [C], by simp only [C, List.mem_cons, List.not_mem_nil, or_false, forall_eq]; exact uInt64SS.ok, by simp [C]⟩
def hd : Nat → List Nat := fun _ => [0, 1, 5]
noncomputable def L (f n : Nat) (x : SX) := loopX Try.prog (orc []) C hd Dr.std f (bodyOf Try.f27) 0 [true, false, true] (retX Try.prog [4]) n x
theorem start (vs : List AVal) (m q : Nat) (k : Int) (f : Nat) :
  runFnX Try.prog (orc []) C hd Dr.std f (bodyOf Try.f27) 27 [4] [.own 0 0 m 0 2, .int .i64 k] [⟨.cells vs, 0⟩] q
  = (L f f (mkX (27 : Nat) [((0 : Nat), AVal.own (0 : Nat) (0 : Nat) m (0 : Nat) (2 : Nat)), ((1 : Nat), AVal.int IntKind.i64 k), ((5 : Nat), AVal.int IntKind.i64 (0 : Int))] [{ c := BC.cells vs, ver := (0 : Nat) }] q)) := by kernel_rfl
theorem round (us : List AVal) (m i q : Nat) (k : Int) (f n : Nat) :
  L f (n + 1) (mkX 27 [(0, .own 0 0 m 0 2), (1, .int .i64 k), (5, .int .i64 i)] [⟨.cells us, 0⟩] q)
  = (bif decide ((↑i : Int) < (↑m : Int)) then bif true && (decide ((0 : Int) ≤ (↑i : Int)) && decide ((↑i : Int) < (↑m : Int))) then bif true && (gaK us ((↑i : Int).toNat * nat_lit 2 + (0 : Nat))).1 then bif br.sp (gaK us ((↑i : Int).toNat * nat_lit 2 + (0 : Nat))).2 && decide ((0 : Int) ≤ k ∧ k + bt.sv (gaK us ((↑i : Int).toNat * nat_lit 2 + (0 : Nat))).2 ≤ (1000000000 : Int)) then bif true && (decide ((0 : Int) ≤ (↑i : Int)) && decide ((↑i : Int) < (↑m : Int))) then bif true && (gaK (AVal.mapB.mapBs (drp (uInt64SS.ix (gaK us ((↑i : Int).toNat * nat_lit 2 + (0 : Nat))).2)) us) ((↑i : Int).toNat * nat_lit 2 + (1 : Nat))).1 then bif br.sp (gaK (AVal.mapB.mapBs (drp (uInt64SS.ix (gaK us ((↑i : Int).toNat * nat_lit 2 + (0 : Nat))).2)) us) ((↑i : Int).toNat * nat_lit 2 + (1 : Nat))).2 && decide ((0 : Int) ≤ k + bt.sv (gaK us ((↑i : Int).toNat * nat_lit 2 + (0 : Nat))).2 ∧ k + bt.sv (gaK us ((↑i : Int).toNat * nat_lit 2 + (0 : Nat))).2 + bt.sv (gaK (AVal.mapB.mapBs (drp (uInt64SS.ix (gaK us ((↑i : Int).toNat * nat_lit 2 + (0 : Nat))).2)) us) ((↑i : Int).toNat * nat_lit 2 + (1 : Nat))).2 ≤ (1000000000 : Int)) then L f n (mkX (27 : Nat) [((0 : Nat), AVal.own (0 : Nat) (0 : Nat) m (0 : Nat) (2 : Nat)), ((1 : Nat), AVal.int IntKind.i64 (k + bt.sv (gaK us ((↑i : Int).toNat * nat_lit 2 + (0 : Nat))).2 + bt.sv (gaK (AVal.mapB.mapBs (drp (uInt64SS.ix (gaK us ((↑i : Int).toNat * nat_lit 2 + (0 : Nat))).2)) us) ((↑i : Int).toNat * nat_lit 2 + (1 : Nat))).2)), ((5 : Nat), AVal.int IntKind.i64 (IntKind.i64.wrap ((↑i : Int) + (1 : Int))))] [{ c := BC.cells (AVal.mapB.mapBs (drp (uInt64SS.ix (gaK (AVal.mapB.mapBs (drp (uInt64SS.ix (gaK us ((↑i : Int).toNat * nat_lit 2 + (0 : Nat))).2)) us) ((↑i : Int).toNat * nat_lit 2 + (1 : Nat))).2)) (AVal.mapB.mapBs (drp (uInt64SS.ix (gaK us ((↑i : Int).toNat * nat_lit 2 + (0 : Nat))).2)) us)), ver := (0 : Nat) }] q) else none else none else none else none else none else none else some (AVal.int IntKind.i64 k, [{ c := BC.cells us, ver := (0 : Nat) }], q)) := by kernel_rfl
theorem br_bun (i : Nat) (r : List (List Int)) (h : r.length ≤ 1048576) : br.sp (.bun i (.rows .i64 r) r.length) = true := by simp [br.sp, h]
theorem bt_bun (i : Nat) (r : List (List Int)) (n : Nat) : bt.sv (.bun i (.rows .i64 r) n) = (tot.sv r : Int) := rfl
theorem ix_bun (i : Nat) (c : Cont) (n : Nat) : uInt64SS.ix (.bun i c n) = [i] := rfl
def cell (xs : List WsT) (us : List AVal) (j : Nat) : Prop := us[j * 2]? = some (.bun (j * 2) (.rows .i64 (wg xs j).1) (wg xs j).1.length) ∧ us[j * 2 + 1]? = some (.bun (j * 2 + 1) (.rows .i64 (wg xs j).2) (wg xs j).2.length)
theorem drp_at {us : List AVal} {p i : Nat} {c : Cont} {n : Nat} (h : us[p]? = some (.bun i c n)) {j : Nat} (hj : j ≠ i) : (AVal.mapB.mapBs (drp [j]) us)[p]? = some (.bun i c n) := by
  rw [mapBs_eq, List.getElem?_map, h]
  have : (i == j) = false := by rw [beq_eq_false_iff_ne]; omega
  simp [AVal.mapB, drp, hasN, eqN_eq, this]
theorem loop (xs : List WsT) (q f : Nat) (hx : xs.length ≤ 1048576) (hs : wss.short.sp 1048576 xs = true) : ∀ (d i n : Nat) (k : Int) (us : List AVal), i + d = xs.length → d < n → us.length = xs.length * 2 → (∀ j, i ≤ j → j < xs.length → cell xs us j) → 0 ≤ k → k + (wss.tt.sv (xs.drop i) : Int) ≤ 1000000000 →
    ∃ us' : List AVal, L f n (mkX 27 [(0, .own 0 0 xs.length 0 2), (1, .int .i64 k), (5, .int .i64 (i : Int))] [⟨.cells us, 0⟩] q) = some (.int .i64 (k + (wss.tt.sv (xs.drop i) : Int)), [⟨.cells us', 0⟩], q) := by
  intro d
  induction d with
  | zero =>
    intro i n k us hi hn hl hj hk ht
    obtain ⟨n, rfl⟩ : ∃ k, n = k + 1 := ⟨n - 1, by omega⟩
    obtain rfl : i = xs.length := by omega
    refine ⟨us, ?_⟩
    have e0 : k + ((wss.tt.sv [] : Nat) : Int) = k := Int.add_zero k
    rw [round, List.drop_of_length_le (Nat.le_refl _), e0]
    simp -implicitDefEqProofs (disch := omega) only [take_one, set_one, decide_eq_true, decide_eq_false, IntWalk.i64_in, beqT, beqF, bneT, bneF, nat_succ, ← Int.natCast_mul, ← Int.natCast_add, Int.toNat_natCast, Int.zero_mul, Int.zero_add, Int.add_zero, Nat.zero_add, Nat.add_zero, Nat.zero_mul, List.length_singleton, List.length_append, List.length_nil, List.length_cons, List.take_length, List.drop_zero, List.replicate_zero, List.take_nil, List.nil_append, Nat.reduceBEq, Nat.reduceMul, Nat.reduceLeDiff, eq_self, and_self, true_and, and_true, decide_true, decide_false, Bool.and_self, Bool.or_self, Bool.and_true, Bool.true_and, Bool.and_false, Bool.false_and, Bool.or_true, Bool.true_or, Bool.or_false, Bool.false_or, Bool.not_true, Bool.not_false, cond_true, cond_false]
  | succ d ih =>
    intro i n k us hi hn hl hj hk ht
    obtain ⟨n, rfl⟩ : ∃ k, n = k + 1 := ⟨n - 1, by omega⟩
    have hlt : i < xs.length := by omega
    obtain ⟨s1, s2, s3, s4⟩ := wss.short_at hs hlt
    obtain ⟨c1, c2⟩ := hj i (Nat.le_refl _) hlt
    have ed : (wss.tt.sv (xs.drop i) : Int) = (tot.sv (wg xs i).1 : Int) + (tot.sv (wg xs i).2 : Int) + (wss.tt.sv (xs.drop (i + 1)) : Int) := by
      rw [wg_drop hlt, wss.tt.sv]; omega
    rw [ed] at ht ⊢
    have b1 := br_bun (i * 2) (wg xs i).1 s1
    have b2 := br_bun (i * 2 + 1) (wg xs i).2 s2
    have g1 : gaK us (i * 2) = (true, .bun (i * 2) (.rows .i64 (wg xs i).1) (wg xs i).1.length) := gaK_nth (by rw [nth_eq]; exact c1)
    have g2 : gaK (AVal.mapB.mapBs (drp [i * 2]) us) (i * 2 + 1) = (true, .bun (i * 2 + 1) (.rows .i64 (wg xs i).2) (wg xs i).2.length) := gaK_nth (by rw [nth_eq]; exact drp_at c2 (by omega))
    obtain ⟨us', g⟩ := ih (i + 1) n (k + (tot.sv (wg xs i).1 : Int) + (tot.sv (wg xs i).2 : Int)) (AVal.mapB.mapBs (drp [i * 2 + 1]) (AVal.mapB.mapBs (drp [i * 2]) us)) (by omega) (by omega) (by simp only [mapBs_eq, List.length_map]; exact hl) (fun j h1 h2 => by
      obtain ⟨k1, k2⟩ := hj j (by omega) h2
      exact ⟨drp_at (drp_at k1 (by omega)) (by omega), drp_at (drp_at k2 (by omega)) (by omega)⟩) (by omega) (by omega)
    refine ⟨us', ?_⟩
    have e : k + ((tot.sv (wg xs i).1 : Int) + (tot.sv (wg xs i).2 : Int) + (wss.tt.sv (xs.drop (i + 1)) : Int)) = k + (tot.sv (wg xs i).1 : Int) + (tot.sv (wg xs i).2 : Int) + (wss.tt.sv (xs.drop (i + 1)) : Int) := by omega
    rw [e, ← g, round]
    simp -implicitDefEqProofs only [Int.toNat_natCast, Nat.add_zero]
    simp -implicitDefEqProofs only [g1, ix_bun, bt_bun, b1]
    simp -implicitDefEqProofs only [g2, ix_bun, bt_bun, b2]
    simp -implicitDefEqProofs (disch := omega) only [hlen_eq, List.length_set, hl, take_one, set_one, decide_eq_true, decide_eq_false, IntWalk.i64_in, beqT, beqF, bneT, bneF, nat_succ, ← Int.natCast_mul, ← Int.natCast_add, Int.toNat_natCast, Int.zero_mul, Int.zero_add, Int.add_zero, Nat.zero_add, Nat.add_zero, Nat.zero_mul, List.length_singleton, List.length_append, List.length_nil, List.length_cons, List.take_length, List.drop_zero, List.replicate_zero, List.take_nil, List.nil_append, Nat.reduceBEq, Nat.reduceMul, Nat.reduceLeDiff, eq_self, and_self, true_and, and_true, decide_true, decide_false, Bool.and_self, Bool.or_self, Bool.and_true, Bool.true_and, Bool.and_false, Bool.false_and, Bool.or_true, Bool.true_or, Bool.or_false, Bool.false_or, Bool.not_true, Bool.not_false, cond_true, cond_false]
def R (x : AVal) (k : Int) : Option (Bool × Int) := match x with
  | .bun _ (.recs sh fs) m => some (decide (sh = [2, 2] ∧ fs.length = m * 2 ∧ m ≤ 1048576 ∧ 0 ≤ k ∧ k + (wss.tt.sv (wof.sv fs) : Int) ≤ 1000000000) && (wsh.sp fs && wss.short.sp 1048576 (wof.sv fs)), k + (wss.tt.sv (wof.sv fs) : Int))
  | _ => none
def ix (x : AVal) : List Nat := match x with
  | .bun i _ _ => [i]
  | _ => []
theorem ok : MOk Try.prog ⟨27, ix, R⟩ := by
  refine ⟨⟨_, Try.func27, by kernel_rfl, by kernel_rfl⟩, fun x k r h0 Fb ρ H w c S E hv => ?_⟩
  have h : R x k = some (true, r) := h0
  unfold R at h
  split at h
  case h_2 => cases h
  rename_i i sh fs m
  simp only [Option.some.injEq, Prod.mk.injEq, Bool.and_eq_true, decide_eq_true_eq] at h
  obtain ⟨⟨⟨rfl, hl, h2, h3, h4⟩, hs, hsh⟩, rfl⟩ := h
  obtain ⟨xs, rfl⟩ : ∃ xs, fs = wfs.sv xs := ⟨_, (wsh_eq hs).symm⟩
  rw [(wsh_of xs).2] at *
  have hlen := wfs_len xs
  obtain rfl : m = xs.length := by omega
  obtain ⟨b, B, F1, he, S1, A1, K1⟩ := open_recs (sh := [2, 2]) E (by rw [hlen]; rfl) hv k
  rw [hlen] at S1 A1 K1
  obtain ⟨F, hF⟩ : ∃ F : Nat, F = xs.length + 1 := ⟨_, rfl⟩
  obtain ⟨us', g1⟩ := loop xs (xs.length * 2) F h2 hsh xs.length 0 F k ((List.range (xs.length * 2)).map fun p => ((wfs.sv xs).getD p (.num 0)).hold p) (by omega) (by omega) (by simp) (fun j _ hj => by
    obtain ⟨q1, q2⟩ := wfs_at xs j hj
    constructor
    · rw [List.getElem?_map, List.getElem?_range (by omega), Option.map_some, List.getD_eq_getElem?_getD, q1]; rfl
    · rw [List.getElem?_map, List.getElem?_range (by omega), Option.map_some, List.getD_eq_getElem?_getD, q2]; rfl) h3 (by simpa using h4)
  rw [List.drop_zero] at g1
  have hrun := start ((List.range (xs.length * 2)).map fun p => ((wfs.sv xs).getD p (.num 0)).hold p) xs.length (xs.length * 2) k F
  rw [show ((0 : Nat) : Int) = 0 from rfl] at g1
  rw [g1] at hrun
  refine (fnX_sound (X := B) mixed (A := orc []) (orc_ok (by simp)) Cok Try.func27 (by kernel_rfl) (n := 27) (ts := [4]) (by kernel_rfl) (by kernel_rfl) (by kernel_rfl) hrun A1 S1 K1).mono fun e w' ⟨c', he', hv'⟩ => ?_
  obtain ⟨F2, ρ2, v2, S2, K2⟩ := hv'
  cases v2
  refine ⟨he', K2.mv.os, K2.mv.tape, K2.mv.output, K2.mv.size, fun y hy hn => K2.mv.frame y hy fun hm => hn ?_⟩
  exact List.mem_flatMap.2 ⟨i, by simp [ix], by rw [he]; exact hm⟩
end mWishesS
end Go.Proofs.Ythecninmmojkgaa.Ab
