/-
  Functions: sets that could do better alone: the reference.
-/
import Derived.Test.YtkoongajnnaeoaaFnHG
import Derived.Test.YtkoongajnnaeoaaAbWk
namespace Go.Proofs.Ytkoongajnnaeoaa.Ab
open Go
set_option linter.unusedVariables false
set_option linter.unusedSimpArgs false
set_option maxRecDepth 100000

namespace hse
/-- A match, and a set. -/
def mt.sp (M : List Int) : Bool := M.all fun x => decide (0 ≤ x) && decide (x < (M.length : Int))
def st.sp (set : List Int) (n : Nat) : Bool := (set.all fun x => decide (0 ≤ x) && decide (x < (n : Int))) && decide set.Nodup
theorem mt_ok {M : List Int} (h : mt.sp M = true) {n : Nat} (hl : M.length = n) : ∀ i, i < n → 0 ≤ gz M i ∧ gz M i < (n : Int) := by
  intro i hi
  have := List.all_eq_true.1 h _ (gz_mem (l := M) (j := i) (by omega))
  simp only [Bool.and_eq_true, decide_eq_true_eq] at this
  rw [hl] at this
  exact this
theorem st_ok {set : List Int} {n : Nat} (h : st.sp set n = true) : Set set n := by
  simp only [st.sp, Bool.and_eq_true, decide_eq_true_eq, List.all_eq_true] at h
  exact ⟨h.1, h.2⟩
theorem st_of {set : List Int} {n : Nat} (s : Set set n) : st.sp set n = true := by
  simp only [st.sp, Bool.and_eq_true, decide_eq_true_eq, List.all_eq_true]
  exact ⟨s.ran, s.nd⟩
theorem set_len {set : List Int} {n : Nat} (s : Set set n) : set.length ≤ n := pigeon n set s.nd s.ran
theorem fr_back {fr : List Bool} {h : Nat} (hl : h < fr.length) (hb : gb fr h = true) : (fr.set h false).set h true = fr := by
  rw [List.set_set]
  refine List.ext_getElem (by simp) fun j h1 h2 => ?_
  rw [List.getElem_set]
  by_cases e : h = j
  · subst e; rw [if_pos rfl, ← isAll.gb_eq hl, hb]
  · rw [if_neg e]
end hse

namespace l05Better
def R (N : Nat) : List AVal → Heap → Option (Bool × AVal × Heap)
  | [.ro (.rows .i64 W) m 1, .ro (.ints .i64 M) mm 1, .own 0 0 q 0 1, .int .i64 k, .own 1 0 n 0 1, .bool b], [⟨.typ (.ints .i64 set), 0⟩, ⟨.typ (.bools fr), 0⟩] => some (decide (m = W.length ∧ mm = M.length ∧ M.length = m ∧ q = set.length ∧ n = m ∧ fr.length = m ∧ 0 ≤ k ∧ k ≤ (q : Int) ∧ (q : Int) - k < (N : Int)) && (hse.sp W && (hse.mt.sp M && hse.st.sp set m)), .bool (hse.bq.sp W M set (q - k.toNat) k.toNat fr b), [⟨.typ (.ints .i64 set), 0⟩, ⟨.typ (.bools fr), 0⟩])
  | _, _ => none
def hd : Nat → Head := fun _ => ⟨[0, 1, 2, 3, 4, 5, 12, 13, 14, 15], none⟩
noncomputable def L (N f n : Nat) (s : State) := loopAt Try.prog (orcW [⟨106, R N⟩] [⟨151, l05Place.R⟩]) hd Dr.std 2 f (bodyOf Try.f106) 0 [true, true, true, true, false, true] (retK Try.prog [12] 2 none) n s
theorem start (W : List (List Int)) (M set : List Int) (q n N : Nat) (k : Int) (fr : List Bool) (b : Bool) (f : Nat) :
  runFn Try.prog (orcW [⟨106, R N⟩] [⟨151, l05Place.R⟩]) hd Dr.std none f (bodyOf Try.f106) 73 [12] [.ro (.rows .i64 W) W.length 1, .ro (.ints .i64 M) M.length 1, .own 0 0 q 0 1, .int .i64 k, .own 1 0 n 0 1, .bool b] [⟨.typ (.ints .i64 set), 0⟩, ⟨.typ (.bools fr), 0⟩]
  = (bif true && (true && true) then bif k == (↑q : Int) then some (AVal.bool b, [{ c := BC.typ (Cont.ints IntKind.i64 set), ver := (0 : Nat) }, { c := BC.typ (Cont.bools fr), ver := (0 : Nat) }]) else bif true && (decide ((0 : Int) ≤ k) && decide (k < (↑q : Int))) then bif true && decide (k.toNat < set.length) then bif true && (decide ((0 : Int) ≤ gz set k.toNat) && decide (gz set k.toNat < (↑W.length : Int))) then bif decide ((gz set k.toNat).toNat < W.length) then bif true && (decide ((0 : Int) ≤ k) && decide (k < (↑q : Int))) then bif true && decide (k.toNat < set.length) then bif true && (decide ((0 : Int) ≤ gz set k.toNat) && decide (gz set k.toNat < (↑M.length : Int))) then bif decide ((gz set k.toNat).toNat < M.length) then bif decide ((gr W (gz set k.toNat).toNat).length = (gr W (gz set k.toNat).toNat).length ∧ (gr W (gz set k.toNat).toNat).length ≤ (4611686018427387904 : Nat)) && (true && (true && true) || true && true) then L N f f (mkS (73 : Nat) [((0 : Nat), AVal.ro (Cont.rows IntKind.i64 W) W.length (1 : Nat)), ((1 : Nat), AVal.ro (Cont.ints IntKind.i64 M) M.length (1 : Nat)), ((2 : Nat), AVal.own (0 : Nat) (0 : Nat) q (0 : Nat) (1 : Nat)), ((3 : Nat), AVal.int IntKind.i64 k), ((4 : Nat), AVal.own (1 : Nat) (0 : Nat) n (0 : Nat) (1 : Nat)), ((5 : Nat), AVal.bool b), ((12 : Nat), AVal.bool false), ((13 : Nat), AVal.ro (Cont.ints IntKind.i64 (gr W (gz set k.toNat).toNat)) (gr W (gz set k.toNat).toNat).length (1 : Nat)), ((14 : Nat), AVal.int IntKind.i64 (pl.sv (gz M (gz set k.toNat).toNat) (gr W (gz set k.toNat).toNat))), ((15 : Nat), AVal.int IntKind.i64 (0 : Int))] [{ c := BC.typ (Cont.ints IntKind.i64 set), ver := (0 : Nat) }, { c := BC.typ (Cont.bools fr), ver := (0 : Nat) }]) else none else none else none else none else none else none else none else none else none else none) := by kernel_rfl
theorem round (W : List (List Int)) (M set r : List Int) (q n N k : Nat) (ow : Nat) (j : Nat) (fr : List Bool) (b : Bool) (f c : Nat) :
  L N f (c + 1) (mkS 73 [(0, .ro (.rows .i64 W) W.length 1), (1, .ro (.ints .i64 M) M.length 1), (2, .own 0 0 q 0 1), (3, .int .i64 k), (4, .own 1 0 n 0 1), (5, .bool b), (12, .bool false), (13, .ro (.ints .i64 r) r.length 1), (14, .int .i64 ow), (15, .int .i64 j)] [⟨.typ (.ints .i64 set), 0⟩, ⟨.typ (.bools fr), 0⟩])
  = (bif decide ((↑j : Int) ≤ (↑ow : Int)) then bif true && (decide ((0 : Int) ≤ (↑j : Int)) && decide ((↑j : Int) < (↑r.length : Int))) then bif decide ((↑j : Int).toNat < r.length) then bif true && (decide ((0 : Int) ≤ gz r (↑j : Int).toNat) && decide (gz r (↑j : Int).toNat < (↑n : Int))) then bif true && decide ((gz r (↑j : Int).toNat).toNat < fr.length) then bif !gb fr (gz r (↑j : Int).toNat).toNat then L N f c (mkS (73 : Nat) [((0 : Nat), AVal.ro (Cont.rows IntKind.i64 W) W.length (1 : Nat)), ((1 : Nat), AVal.ro (Cont.ints IntKind.i64 M) M.length (1 : Nat)), ((2 : Nat), AVal.own (0 : Nat) (0 : Nat) q (0 : Nat) (1 : Nat)), ((3 : Nat), AVal.int IntKind.i64 (↑k : Int)), ((4 : Nat), AVal.own (1 : Nat) (0 : Nat) n (0 : Nat) (1 : Nat)), ((5 : Nat), AVal.bool b), ((12 : Nat), AVal.bool false), ((13 : Nat), AVal.ro (Cont.ints IntKind.i64 r) r.length (1 : Nat)), ((14 : Nat), AVal.int IntKind.i64 (↑ow : Int)), ((15 : Nat), AVal.int IntKind.i64 (IntKind.i64.wrap ((↑j : Int) + (1 : Int))))] [{ c := BC.typ (Cont.ints IntKind.i64 set), ver := (0 : Nat) }, { c := BC.typ (Cont.bools fr), ver := (0 : Nat) }]) else bif true && (decide ((0 : Int) ≤ gz r (↑j : Int).toNat) && decide (gz r (↑j : Int).toNat < (↑n : Int))) then bif true && (true && (decide ((gz r (↑j : Int).toNat).toNat < fr.length) && true)) then bif b then bif decide (W.length = W.length ∧ M.length = M.length ∧ M.length = W.length ∧ q = set.length ∧ n = W.length ∧ (fr.set (gz r (↑j : Int).toNat).toNat false).length = W.length ∧ (0 : Int) ≤ IntKind.i64.wrap ((↑k : Int) + (1 : Int)) ∧ IntKind.i64.wrap ((↑k : Int) + (1 : Int)) ≤ (↑q : Int) ∧ (↑q : Int) - IntKind.i64.wrap ((↑k : Int) + (1 : Int)) < (↑N : Int)) && (hse.sp W && (hse.mt.sp M && hse.st.sp set W.length)) && (true && (true && (true && true))) then bif true && (decide ((0 : Int) ≤ gz r (↑j : Int).toNat) && decide (gz r (↑j : Int).toNat < (↑n : Int))) then bif true && (true && (decide ((gz r (↑j : Int).toNat).toNat < (fr.set (gz r (↑j : Int).toNat).toNat false).length) && true)) then bif hse.bq.sp W M set (q - (IntKind.i64.wrap ((↑k : Int) + (1 : Int))).toNat) (IntKind.i64.wrap ((↑k : Int) + (1 : Int))).toNat (fr.set (gz r (↑j : Int).toNat).toNat false) true then some (AVal.bool true, [{ c := BC.typ (Cont.ints IntKind.i64 set), ver := (0 : Nat) }, { c := BC.typ (Cont.bools ((fr.set (gz r (↑j : Int).toNat).toNat false).set (gz r (↑j : Int).toNat).toNat true)), ver := (0 : Nat) }]) else L N f c (mkS (73 : Nat) [((0 : Nat), AVal.ro (Cont.rows IntKind.i64 W) W.length (1 : Nat)), ((1 : Nat), AVal.ro (Cont.ints IntKind.i64 M) M.length (1 : Nat)), ((2 : Nat), AVal.own (0 : Nat) (0 : Nat) q (0 : Nat) (1 : Nat)), ((3 : Nat), AVal.int IntKind.i64 (↑k : Int)), ((4 : Nat), AVal.own (1 : Nat) (0 : Nat) n (0 : Nat) (1 : Nat)), ((5 : Nat), AVal.bool b), ((12 : Nat), AVal.bool false), ((13 : Nat), AVal.ro (Cont.ints IntKind.i64 r) r.length (1 : Nat)), ((14 : Nat), AVal.int IntKind.i64 (↑ow : Int)), ((15 : Nat), AVal.int IntKind.i64 (IntKind.i64.wrap ((↑j : Int) + (1 : Int))))] [{ c := BC.typ (Cont.ints IntKind.i64 set), ver := (0 : Nat) }, { c := BC.typ (Cont.bools ((fr.set (gz r (↑j : Int).toNat).toNat false).set (gz r (↑j : Int).toNat).toNat true)), ver := (0 : Nat) }]) else none else none else none else bif decide (W.length = W.length ∧ M.length = M.length ∧ M.length = W.length ∧ q = set.length ∧ n = W.length ∧ (fr.set (gz r (↑j : Int).toNat).toNat false).length = W.length ∧ (0 : Int) ≤ IntKind.i64.wrap ((↑k : Int) + (1 : Int)) ∧ IntKind.i64.wrap ((↑k : Int) + (1 : Int)) ≤ (↑q : Int) ∧ (↑q : Int) - IntKind.i64.wrap ((↑k : Int) + (1 : Int)) < (↑N : Int)) && (hse.sp W && (hse.mt.sp M && hse.st.sp set W.length)) && (true && (true && (true && true))) then bif true && (decide ((0 : Int) ≤ gz r (↑j : Int).toNat) && decide (gz r (↑j : Int).toNat < (↑n : Int))) then bif true && (true && (decide ((gz r (↑j : Int).toNat).toNat < (fr.set (gz r (↑j : Int).toNat).toNat false).length) && true)) then bif hse.bq.sp W M set (q - (IntKind.i64.wrap ((↑k : Int) + (1 : Int))).toNat) (IntKind.i64.wrap ((↑k : Int) + (1 : Int))).toNat (fr.set (gz r (↑j : Int).toNat).toNat false) (decide ((↑j : Int) < (↑ow : Int))) then some (AVal.bool true, [{ c := BC.typ (Cont.ints IntKind.i64 set), ver := (0 : Nat) }, { c := BC.typ (Cont.bools ((fr.set (gz r (↑j : Int).toNat).toNat false).set (gz r (↑j : Int).toNat).toNat true)), ver := (0 : Nat) }]) else L N f c (mkS (73 : Nat) [((0 : Nat), AVal.ro (Cont.rows IntKind.i64 W) W.length (1 : Nat)), ((1 : Nat), AVal.ro (Cont.ints IntKind.i64 M) M.length (1 : Nat)), ((2 : Nat), AVal.own (0 : Nat) (0 : Nat) q (0 : Nat) (1 : Nat)), ((3 : Nat), AVal.int IntKind.i64 (↑k : Int)), ((4 : Nat), AVal.own (1 : Nat) (0 : Nat) n (0 : Nat) (1 : Nat)), ((5 : Nat), AVal.bool b), ((12 : Nat), AVal.bool false), ((13 : Nat), AVal.ro (Cont.ints IntKind.i64 r) r.length (1 : Nat)), ((14 : Nat), AVal.int IntKind.i64 (↑ow : Int)), ((15 : Nat), AVal.int IntKind.i64 (IntKind.i64.wrap ((↑j : Int) + (1 : Int))))] [{ c := BC.typ (Cont.ints IntKind.i64 set), ver := (0 : Nat) }, { c := BC.typ (Cont.bools ((fr.set (gz r (↑j : Int).toNat).toNat false).set (gz r (↑j : Int).toNat).toNat true)), ver := (0 : Nat) }]) else none else none else none else none else none else none else none else none else none else some (AVal.bool false, [{ c := BC.typ (Cont.ints IntKind.i64 set), ver := (0 : Nat) }, { c := BC.typ (Cont.bools fr), ver := (0 : Nat) }])) := by kernel_rfl
theorem loop (W : List (List Int)) (M set : List Int) (q N D k n f : Nat) (fr : List Bool) (b : Bool) (v : hse.V W n) (hW : W.length = n) (hs : hse.sp W = true) (hm : hse.mt.sp M = true) (hl : M.length = n) (hst : hse.st.sp set n = true) (hq : q = set.length) (hfr : fr.length = n) (hk : k + (D + 1) = q) (hN : D < N) : ∀ (d j c : Nat), j + d = hse.ow W M set k + 1 → d < c →
    L N f c (mkS 73 [(0, .ro (.rows .i64 W) W.length 1), (1, .ro (.ints .i64 M) M.length 1), (2, .own 0 0 q 0 1), (3, .int .i64 ((k : Nat) : Int)), (4, .own 1 0 n 0 1), (5, .bool b), (12, .bool false), (13, .ro (.ints .i64 (hse.row W set k)) (hse.row W set k).length 1), (14, .int .i64 (((hse.ow W M set k) : Nat) : Int)), (15, .int .i64 ((j : Nat) : Int))] [⟨.typ (.ints .i64 set), 0⟩, ⟨.typ (.bools fr), 0⟩]) = some (.bool (hse.lb (fun j => gb fr (gz (hse.row W set k) j).toNat && hse.bq.sp W M set D (k + 1) (fr.set (gz (hse.row W set k) j).toNat false) (b || decide (j < hse.ow W M set k))) d j), [⟨.typ (.ints .i64 set), 0⟩, ⟨.typ (.bools fr), 0⟩]) := by
  have h8 := v.h8
  have s := hse.st_ok hst
  have hM := hse.mt_ok hm hl
  obtain ⟨o1, o2, o3⟩ := hse.ow_ok v hM s (k := k) (by omega)
  have hks := s.ran _ (gz_mem (l := set) (j := k) (by omega))
  have rl : (hse.row W set k).length = n := v.rl (gz set k).toNat (by omega)
  have sl := hse.set_len s
  have hst2 : hse.st.sp set W.length = true := by rw [hW]; exact hst
  intro d
  induction d with
  | zero =>
    intro j c hj hc
    obtain ⟨c, rfl⟩ : ∃ x, c = x + 1 := ⟨c - 1, by omega⟩
    rw [round, hse.lb]
    simp -implicitDefEqProofs (disch := omega) only [take_one, set_one, decide_eq_true, decide_eq_false, IntWalk.i64_in, beqT, beqF, bneT, bneF, nat_succ, ← Int.natCast_mul, ← Int.natCast_add, Int.toNat_natCast, Int.zero_mul, Int.zero_add, Int.add_zero, Nat.zero_add, Nat.add_zero, Nat.zero_mul, List.length_singleton, List.length_append, List.length_nil, List.length_cons, List.take_length, List.drop_zero, List.replicate_zero, List.take_nil, List.nil_append, Nat.reduceBEq, Nat.reduceMul, Nat.reduceLeDiff, eq_self, and_self, true_and, and_true, decide_true, decide_false, Bool.and_self, Bool.or_self, Bool.and_true, Bool.true_and, Bool.and_false, Bool.false_and, Bool.or_true, Bool.true_or, Bool.or_false, Bool.false_or, Bool.not_true, Bool.not_false, cond_true, cond_false]
  | succ d ih =>
    intro j c hj hc
    obtain ⟨c, rfl⟩ : ∃ x, c = x + 1 := ⟨c - 1, by omega⟩
    have g := ih (j + 1) c (by omega) (by omega)
    have hx : 0 ≤ gz (hse.row W set k) j ∧ gz (hse.row W set k) j < (n : Int) := v.get (i := (gz set k).toNat) (k := j) (by omega) (by omega)
    have eD : q - (k + 1) = D := by omega
    rw [round, hse.lb]
    cases hb : gb fr (gz (hse.row W set k) j).toNat
    · rw [Bool.false_and, Bool.false_or]
      simp -implicitDefEqProofs (disch := omega) only [hb, take_one, set_one, decide_eq_true, decide_eq_false, IntWalk.i64_in, beqT, beqF, bneT, bneF, nat_succ, ← Int.natCast_mul, ← Int.natCast_add, Int.toNat_natCast, Int.zero_mul, Int.zero_add, Int.add_zero, Nat.zero_add, Nat.add_zero, Nat.zero_mul, List.length_singleton, List.length_append, List.length_nil, List.length_cons, List.take_length, List.drop_zero, List.replicate_zero, List.take_nil, List.nil_append, Nat.reduceBEq, Nat.reduceMul, Nat.reduceLeDiff, eq_self, and_self, true_and, and_true, decide_true, decide_false, Bool.and_self, Bool.or_self, Bool.and_true, Bool.true_and, Bool.and_false, Bool.false_and, Bool.or_true, Bool.true_or, Bool.or_false, Bool.false_or, Bool.not_true, Bool.not_false, cond_true, cond_false]
      exact g
    · have hback := hse.fr_back (by omega) hb
      rw [Bool.true_and]
      cases b
      · rw [Bool.false_or]
        by_cases c2 : j < hse.ow W M set k
        · rw [decide_eq_true c2]
          simp -implicitDefEqProofs (disch := omega) only [hb, hs, hm, hst2, eD, hback, List.length_set, take_one, set_one, decide_eq_true, decide_eq_false, IntWalk.i64_in, beqT, beqF, bneT, bneF, nat_succ, ← Int.natCast_mul, ← Int.natCast_add, Int.toNat_natCast, Int.zero_mul, Int.zero_add, Int.add_zero, Nat.zero_add, Nat.add_zero, Nat.zero_mul, List.length_singleton, List.length_append, List.length_nil, List.length_cons, List.take_length, List.drop_zero, List.replicate_zero, List.take_nil, List.nil_append, Nat.reduceBEq, Nat.reduceMul, Nat.reduceLeDiff, eq_self, and_self, true_and, and_true, decide_true, decide_false, Bool.and_self, Bool.or_self, Bool.and_true, Bool.true_and, Bool.and_false, Bool.false_and, Bool.or_true, Bool.true_or, Bool.or_false, Bool.false_or, Bool.not_true, Bool.not_false, cond_true, cond_false]
          cases hse.bq.sp W M set D (k + 1) (fr.set (gz (hse.row W set k) j).toNat false) true
          · exact g
          · rfl
        · rw [decide_eq_false c2]
          simp -implicitDefEqProofs (disch := omega) only [hb, hs, hm, hst2, eD, hback, List.length_set, take_one, set_one, decide_eq_true, decide_eq_false, IntWalk.i64_in, beqT, beqF, bneT, bneF, nat_succ, ← Int.natCast_mul, ← Int.natCast_add, Int.toNat_natCast, Int.zero_mul, Int.zero_add, Int.add_zero, Nat.zero_add, Nat.add_zero, Nat.zero_mul, List.length_singleton, List.length_append, List.length_nil, List.length_cons, List.take_length, List.drop_zero, List.replicate_zero, List.take_nil, List.nil_append, Nat.reduceBEq, Nat.reduceMul, Nat.reduceLeDiff, eq_self, and_self, true_and, and_true, decide_true, decide_false, Bool.and_self, Bool.or_self, Bool.and_true, Bool.true_and, Bool.and_false, Bool.false_and, Bool.or_true, Bool.true_or, Bool.or_false, Bool.false_or, Bool.not_true, Bool.not_false, cond_true, cond_false]
          cases hse.bq.sp W M set D (k + 1) (fr.set (gz (hse.row W set k) j).toNat false) false
          · exact g
          · rfl
      · rw [Bool.true_or]
        simp -implicitDefEqProofs (disch := omega) only [hb, hs, hm, hst2, eD, hback, List.length_set, take_one, set_one, decide_eq_true, decide_eq_false, IntWalk.i64_in, beqT, beqF, bneT, bneF, nat_succ, ← Int.natCast_mul, ← Int.natCast_add, Int.toNat_natCast, Int.zero_mul, Int.zero_add, Int.add_zero, Nat.zero_add, Nat.add_zero, Nat.zero_mul, List.length_singleton, List.length_append, List.length_nil, List.length_cons, List.take_length, List.drop_zero, List.replicate_zero, List.take_nil, List.nil_append, Nat.reduceBEq, Nat.reduceMul, Nat.reduceLeDiff, eq_self, and_self, true_and, and_true, decide_true, decide_false, Bool.and_self, Bool.or_self, Bool.and_true, Bool.true_and, Bool.and_false, Bool.false_and, Bool.or_true, Bool.true_or, Bool.or_false, Bool.false_or, Bool.not_true, Bool.not_false, cond_true, cond_false]
        cases hse.bq.sp W M set D (k + 1) (fr.set (gz (hse.row W set k) j).toNat false) true
        · exact g
        · rfl
theorem run (N : Nat) : ∀ args H v new, R (N + 1) args H = some (true, v, new) → ∃ fuel, runFn Try.prog (orcW [⟨106, R N⟩] [⟨151, l05Place.R⟩]) hd Dr.std none fuel (bodyOf Try.f106) 73 [12] args H = some (v, new) := by
  intro args H v new h
  unfold R at h
  split at h
  · rename_i W m M mm q k n b set fr
    simp only [Option.some.injEq, Prod.mk.injEq, Bool.and_eq_true, decide_eq_true_eq] at h
    obtain ⟨⟨⟨rfl, rfl, h1, rfl, rfl, h2, h3, h4, h5⟩, hs, hm, hst⟩, rfl, rfl⟩ := h
    obtain ⟨k, rfl⟩ : ∃ x : Nat, k = x := ⟨k.toNat, by omega⟩
    have v := hse.valid hs
    have h8 := v.h8
    have s := hse.st_ok hst
    have hM := hse.mt_ok hm h1
    have sl := hse.set_len s
    obtain ⟨F, hF⟩ : ∃ F : Nat, F = 200 := ⟨200, rfl⟩
    refine ⟨F, ?_⟩
    rw [start, Int.toNat_natCast]
    by_cases c : k = set.length
    · have e : set.length - k = 0 := by omega
      rw [e]
      simp -implicitDefEqProofs (disch := omega) only [take_one, set_one, decide_eq_true, decide_eq_false, IntWalk.i64_in, beqT, beqF, bneT, bneF, nat_succ, ← Int.natCast_mul, ← Int.natCast_add, Int.toNat_natCast, Int.zero_mul, Int.zero_add, Int.add_zero, Nat.zero_add, Nat.add_zero, Nat.zero_mul, List.length_singleton, List.length_append, List.length_nil, List.length_cons, List.take_length, List.drop_zero, List.replicate_zero, List.take_nil, List.nil_append, Nat.reduceBEq, Nat.reduceMul, Nat.reduceLeDiff, eq_self, and_self, true_and, and_true, decide_true, decide_false, Bool.and_self, Bool.or_self, Bool.and_true, Bool.true_and, Bool.and_false, Bool.false_and, Bool.or_true, Bool.true_or, Bool.or_false, Bool.false_or, Bool.not_true, Bool.not_false, cond_true, cond_false]
      rfl
    · obtain ⟨D, hD⟩ : ∃ D, set.length - k = D + 1 := ⟨set.length - k - 1, by omega⟩
      obtain ⟨o1, o2, o3⟩ := hse.ow_ok v hM s (k := k) (by omega)
      have hks := s.ran _ (gz_mem (l := set) (j := k) (by omega))
      have rl : (hse.row W set k).length = W.length := v.rl (gz set k).toNat (by omega)
      have g := loop W M set set.length N D k W.length F fr b v rfl hs hm h1 hst rfl h2 (by omega) (by omega) (hse.ow W M set k + 1) 0 F (by omega) (by omega)
      have er : gr W (gz set k).toNat = hse.row W set k := rfl
      rw [hD, hse.bq.sp]
      simp -implicitDefEqProofs (disch := omega) only [er, o3, take_one, set_one, decide_eq_true, decide_eq_false, IntWalk.i64_in, beqT, beqF, bneT, bneF, nat_succ, ← Int.natCast_mul, ← Int.natCast_add, Int.toNat_natCast, Int.zero_mul, Int.zero_add, Int.add_zero, Nat.zero_add, Nat.add_zero, Nat.zero_mul, List.length_singleton, List.length_append, List.length_nil, List.length_cons, List.take_length, List.drop_zero, List.replicate_zero, List.take_nil, List.nil_append, Nat.reduceBEq, Nat.reduceMul, Nat.reduceLeDiff, eq_self, and_self, true_and, and_true, decide_true, decide_false, Bool.and_self, Bool.or_self, Bool.and_true, Bool.true_and, Bool.and_false, Bool.false_and, Bool.or_true, Bool.true_or, Bool.or_false, Bool.false_or, Bool.not_true, Bool.not_false, cond_true, cond_false]
      exact g
  · cases h
theorem run0 : ∀ args H v new, R 0 args H = some (true, v, new) → ∃ fuel, runFn Try.prog (orc [⟨151, l05Place.R⟩]) hd Dr.std none fuel (bodyOf Try.f106) 73 [12] args H = some (v, new) := by
  intro args H v new h
  unfold R at h
  split at h
  · simp only [Option.some.injEq, Prod.mk.injEq, decide_eq_true_eq, Bool.and_eq_true] at h
    obtain ⟨⟨⟨h1, h2, h3, h4, h5, h6, h7, h8, h9⟩, _⟩, _⟩ := h
    exact absurd h9 (by omega)
  · cases h
theorem ok : ∀ N, EntWOk Try.prog ⟨106, R N⟩ := by
  intro N
  induction N with
  | zero => exact entw_ok mixed (A := (orc [⟨151, l05Place.R⟩])) (orc_ok (by simp only [List.mem_cons, List.not_mem_nil, or_false, forall_eq_or_imp, forall_eq]; exact l05Place.ok)) Try.func106 (by kernel_rfl) (by kernel_rfl) (n := 73) (ts := [12]) (hd := hd) (dr := Dr.std) (cut := none) (by kernel_rfl) (by kernel_rfl) (by kernel_rfl) run0
  | succ N ih => exact entw_ok mixed (A := (orcW [⟨106, R N⟩] [⟨151, l05Place.R⟩])) (orcW_ok (by simp only [List.mem_cons, List.not_mem_nil, or_false, forall_eq_or_imp, forall_eq]; exact ih) (by simp only [List.mem_cons, List.not_mem_nil, or_false, forall_eq_or_imp, forall_eq]; exact l05Place.ok)) Try.func106 (by kernel_rfl) (by kernel_rfl) (n := 73) (ts := [12]) (hd := hd) (dr := Dr.std) (cut := none) (by kernel_rfl) (by kernel_rfl) (by kernel_rfl) (run N)
end l05Better

end Go.Proofs.Ytkoongajnnaeoaa.Ab
