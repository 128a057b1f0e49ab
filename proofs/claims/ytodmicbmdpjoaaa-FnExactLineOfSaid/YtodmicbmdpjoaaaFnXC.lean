/-
  Functions: lines, and how long all wait.
-/
import Derived.Test.YtodmicbmdpjoaaaFnXB
namespace Go.Proofs.Ytodmicbmdpjoaaa.Ab
open Go
set_option linter.unusedVariables false
set_option linter.unusedSimpArgs false
set_option maxRecDepth 100000

namespace iLineOf_t
def R : List AVal → Option (Bool × AVal × List Blk)
  | [.ro (.ints .i64 xs) m 1, .ro (.ints .i64 ys) k 1, .int .i64 d] => some (decide (m ≤ xs.length ∧ m ≤ 4611686018427387904 ∧ k ≤ ys.length ∧ k ≤ 4611686018427387904) && ln.sp (xs.take m) (ys.take k) d, .tup [.own 0 0 (ln.sv (xs.take m) (ys.take k) d).length 0 1, .bool true], [⟨.typ (.ints .i64 (ln.sv (xs.take m) (ys.take k) d)), 0⟩])
  | _ => none
theorem go (xs ys : List Int) (m k : Nat) (d : Int) :
  runFn Try.prog (orc [⟨40, isLine.R⟩, ⟨41, iLine.R⟩]) hd0 Dr.std none 0 (bodyOf Try.f13) 17 [6, 7] [.ro (.ints .i64 xs) m 1, .ro (.ints .i64 ys) k 1, .int .i64 d] []
  = (bif decide (m ≤ xs.length ∧ m ≤ (4611686018427387904 : Nat) ∧ k ≤ ys.length ∧ k ≤ (4611686018427387904 : Nat)) && (true && (true && (true && true)) || true && true) then bif !ln.sp (List.take m xs) (List.take k ys) d then some (AVal.tup [AVal.nils, AVal.bool false], []) else bif decide (m ≤ xs.length ∧ m ≤ (4611686018427387904 : Nat) ∧ k ≤ ys.length ∧ k ≤ (4611686018427387904 : Nat)) && ln.sp (List.take m xs) (List.take k ys) d && (true && (true && (true && true)) || true && (true && true)) then some (AVal.tup [AVal.own (0 : Nat) (0 : Nat) (ln.sv (List.take m xs) (List.take k ys) d).length (0 : Nat) (1 : Nat), AVal.bool true], [{ c := BC.typ (Cont.ints IntKind.i64 (ln.sv (List.take m xs) (List.take k ys) d)), ver := (0 : Nat) }]) else none else none) := by kernel_rfl
theorem run : ∀ args v new, R args = some (true, v, new) → ∃ fuel, runFn Try.prog (orc [⟨40, isLine.R⟩, ⟨41, iLine.R⟩]) hd0 Dr.std none fuel (bodyOf Try.f13) 17 [6, 7] args [] = some (v, new) := by
  intro args v new h
  unfold R at h
  split at h
  · rename_i xs m ys k d
    simp only [Option.some.injEq, Prod.mk.injEq, Bool.and_eq_true, decide_eq_true_eq, Bool.not_eq_true'] at h
    obtain ⟨⟨⟨h1, h2, h3, h4⟩, hv⟩, rfl, rfl⟩ := h
    have e1 : (xs.take m).length = m := by simp; omega
    have e2 : (ys.take k).length = k := by simp; omega
    refine ⟨0, ?_⟩
    rw [go]
    simp only [h1, h2, h3, h4, hv, and_self, decide_true, decide_false, Bool.and_self, Bool.or_self, Bool.and_true, Bool.true_and, Bool.and_false, Bool.false_and, Bool.or_true, Bool.true_or, Bool.or_false, Bool.false_or, Bool.not_true, Bool.not_false, cond_true, cond_false]
    try rfl
  · cases h
theorem ok : EntOk Try.prog ⟨13, R⟩ :=
  ent_okA mixed (A := (orc [⟨40, isLine.R⟩, ⟨41, iLine.R⟩])) (orc_ok (by simp only [List.mem_cons, List.not_mem_nil, or_false, forall_eq_or_imp, forall_eq]; exact ⟨isLine.ok, iLine.ok⟩)) Try.func13 (by kernel_rfl) (by kernel_rfl) (n := 17) (ts := [6, 7]) (hd := hd0) (dr := Dr.std) (cut := none) (by kernel_rfl) (by kernel_rfl) (by kernel_rfl) run
end iLineOf_t

namespace iLineOf_f
def R : List AVal → Option (Bool × AVal × List Blk)
  | [.ro (.ints .i64 xs) m 1, .ro (.ints .i64 ys) k 1, .int .i64 d] => some (decide (m ≤ xs.length ∧ m ≤ 4611686018427387904 ∧ k ≤ ys.length ∧ k ≤ 4611686018427387904) && !ln.sp (xs.take m) (ys.take k) d, .tup [.nils, .bool false], [])
  | _ => none
theorem go (xs ys : List Int) (m k : Nat) (d : Int) :
  runFn Try.prog (orc [⟨40, isLine.R⟩]) hd0 Dr.std (some 0) 0 (bodyOf Try.f13) 17 [6, 7] [.ro (.ints .i64 xs) m 1, .ro (.ints .i64 ys) k 1, .int .i64 d] []
  = (bif decide (m ≤ xs.length ∧ m ≤ (4611686018427387904 : Nat) ∧ k ≤ ys.length ∧ k ≤ (4611686018427387904 : Nat)) && (true && (true && (true && true)) || true && true) then bif !ln.sp (List.take m xs) (List.take k ys) d then some (AVal.tup [AVal.nils, AVal.bool false], []) else none else none) := by kernel_rfl
theorem run : ∀ args v new, R args = some (true, v, new) → ∃ fuel, runFn Try.prog (orc [⟨40, isLine.R⟩]) hd0 Dr.std (some 0) fuel (bodyOf Try.f13) 17 [6, 7] args [] = some (v, new) := by
  intro args v new h
  unfold R at h
  split at h
  · rename_i xs m ys k d
    simp only [Option.some.injEq, Prod.mk.injEq, Bool.and_eq_true, decide_eq_true_eq, Bool.not_eq_true'] at h
    obtain ⟨⟨⟨h1, h2, h3, h4⟩, hv⟩, rfl, rfl⟩ := h
    have e1 : (xs.take m).length = m := by simp; omega
    have e2 : (ys.take k).length = k := by simp; omega
    refine ⟨0, ?_⟩
    rw [go]
    simp only [h1, h2, h3, h4, hv, and_self, decide_true, decide_false, Bool.and_self, Bool.or_self, Bool.and_true, Bool.true_and, Bool.and_false, Bool.false_and, Bool.or_true, Bool.true_or, Bool.or_false, Bool.false_or, Bool.not_true, Bool.not_false, cond_true, cond_false]
    try rfl
  · cases h
theorem ok : EntOk Try.prog ⟨13, R⟩ :=
  ent_okA mixed (A := (orc [⟨40, isLine.R⟩])) (orc_ok (by simp only [List.mem_cons, List.not_mem_nil, or_false, forall_eq_or_imp, forall_eq]; exact isLine.ok)) Try.func13 (by kernel_rfl) (by kernel_rfl) (n := 17) (ts := [6, 7]) (hd := hd0) (dr := Dr.std) (cut := (some 0)) (by kernel_rfl) (by kernel_rfl) (by kernel_rfl) run
end iLineOf_f

namespace iLineOf
def Rt := iLineOf_t.R
def Rf := iLineOf_f.R
theorem okt : EntOk Try.prog ⟨13, Rt⟩ := iLineOf_t.ok
theorem okf : EntOk Try.prog ⟨13, Rf⟩ := iLineOf_f.ok
end iLineOf

namespace sLineOf_t
def R : List AVal → Option (Bool × AVal × List Blk)
  | [.ro (.ints .i64 xs) m 1, .ro (.ints .i64 ys) k 1, .int .i64 d] => some (decide (m ≤ xs.length ∧ m ≤ 4611686018427387904 ∧ k ≤ ys.length ∧ k ≤ 4611686018427387904) && ln.sp (xs.take m) (ys.take k) d, .tup [.own 0 0 (ln.sv (xs.take m) (ys.take k) d).length 0 1, .bool true], [⟨.typ (.ints .i64 (ln.sv (xs.take m) (ys.take k) d)), 0⟩])
  | _ => none
def hd : Nat → Head := fun _ => ⟨[0, 1, 2, 6, 7, 8], none⟩
noncomputable def L (f n : Nat) (s : State) := loopAt Try.prog (orc [⟨37, l06Times.R⟩, ⟨38, l00In.R⟩, ⟨39, l06Line.R⟩]) hd Dr.std 0 f (bodyOf Try.f11) 0 [true, true, false, true] (retK Try.prog [6, 7] 0 none) n s
theorem start (xs ys : List Int) (m k : Nat) (d : Int) (f : Nat) :
  runFn Try.prog (orc [⟨37, l06Times.R⟩, ⟨38, l00In.R⟩, ⟨39, l06Line.R⟩]) hd Dr.std none f (bodyOf Try.f11) 49 [6, 7] [.ro (.ints .i64 xs) m 1, .ro (.ints .i64 ys) k 1, .int .i64 d] []
  = (bif decide (m ≤ xs.length ∧ m ≤ (4611686018427387904 : Nat)) && (true && true || true && true) then bif !((List.take m xs).all ln.tm.sp && decide (m ≤ (64 : Nat))) then some (AVal.tup [AVal.nils, AVal.bool false], []) else bif decide (k ≤ ys.length ∧ k ≤ (4611686018427387904 : Nat)) && (true && true || true && true) then bif !((List.take k ys).all ln.tm.sp && decide (k ≤ (64 : Nat))) then some (AVal.tup [AVal.nils, AVal.bool false], []) else bif (↑k : Int) != (↑m : Int) then some (AVal.tup [AVal.nils, AVal.bool false], []) else bif true && (true && true || true && true) then bif !(decide ((1 : Int) ≤ d) && decide (d ≤ (8 : Int))) then some (AVal.tup [AVal.nils, AVal.bool false], []) else L f f (mkS (49 : Nat) [((0 : Nat), AVal.ro (Cont.ints IntKind.i64 xs) m (1 : Nat)), ((1 : Nat), AVal.ro (Cont.ints IntKind.i64 ys) k (1 : Nat)), ((2 : Nat), AVal.int IntKind.i64 d), ((6 : Nat), AVal.nils), ((7 : Nat), AVal.bool false), ((8 : Nat), AVal.int IntKind.i64 (1 : Int))] []) else none else none else none) := by kernel_rfl
theorem round (xs ys : List Int) (m k : Nat) (d : Int) (i f n : Nat) :
  L f (n + 1) (mkS 49 [(0, .ro (.ints .i64 xs) m 1), (1, .ro (.ints .i64 ys) k 1), (2, .int .i64 d), (6, .nils), (7, .bool false), (8, .int .i64 i)] [])
  = (bif decide ((↑i : Int) < (↑m : Int)) then bif true && (decide ((0 : Int) ≤ (↑i : Int)) && decide ((↑i : Int) < (↑m : Int))) then bif decide ((↑i : Int).toNat < xs.length) then bif true && (decide ((0 : Int) ≤ IntKind.i64.wrap ((↑i : Int) - (1 : Int))) && decide (IntKind.i64.wrap ((↑i : Int) - (1 : Int)) < (↑m : Int))) then bif decide ((IntKind.i64.wrap ((↑i : Int) - (1 : Int))).toNat < xs.length) then bif decide (gz xs (↑i : Int).toNat < gz xs (IntKind.i64.wrap ((↑i : Int) - (1 : Int))).toNat) then some (AVal.tup [AVal.nils, AVal.bool false], []) else L f n (mkS (49 : Nat) [((0 : Nat), AVal.ro (Cont.ints IntKind.i64 xs) m (1 : Nat)), ((1 : Nat), AVal.ro (Cont.ints IntKind.i64 ys) k (1 : Nat)), ((2 : Nat), AVal.int IntKind.i64 d), ((6 : Nat), AVal.nils), ((7 : Nat), AVal.bool false), ((8 : Nat), AVal.int IntKind.i64 (IntKind.i64.wrap ((↑i : Int) + (1 : Int))))] []) else none else none else none else none else bif decide (m ≤ xs.length ∧ m ≤ (4611686018427387904 : Nat) ∧ k ≤ ys.length ∧ k ≤ (4611686018427387904 : Nat)) && ln.sp (List.take m xs) (List.take k ys) d && (true && (true && (true && true)) || true && (true && true)) then some (AVal.tup [AVal.own (0 : Nat) (0 : Nat) (ln.sv (List.take m xs) (List.take k ys) d).length (0 : Nat) (1 : Nat), AVal.bool true], [{ c := BC.typ (Cont.ints IntKind.i64 (ln.sv (List.take m xs) (List.take k ys) d)), ver := (0 : Nat) }]) else none) := by kernel_rfl
theorem loop (xs ys : List Int) (m k : Nat) (d : Int) (f : Nat) (hx : m ≤ xs.length) (hb : m ≤ 4611686018427387904) (hy : k ≤ ys.length) (hb2 : k ≤ 4611686018427387904) (hv : ln.sp (xs.take m) (ys.take k) d = true) : ∀ (e i n : Nat), i + e = m → 1 ≤ i → e < n → srt.fw (xs.take m) e i = true →
    L f n (mkS 49 [(0, .ro (.ints .i64 xs) m 1), (1, .ro (.ints .i64 ys) k 1), (2, .int .i64 d), (6, .nils), (7, .bool false), (8, .int .i64 i)] []) = some (.tup [.own 0 0 (ln.sv (xs.take m) (ys.take k) d).length 0 1, .bool true], [⟨.typ (.ints .i64 (ln.sv (xs.take m) (ys.take k) d)), 0⟩]) := by
  intro e
  induction e with
  | zero =>
    intro i n hi h1 hn hs
    obtain ⟨n, rfl⟩ : ∃ k, n = k + 1 := ⟨n - 1, by omega⟩
    obtain rfl : i = m := by omega
    rw [round]
    simp only [hx, hb, hy, hb2, hv, Int.lt_irrefl, and_self, decide_true, decide_false, Bool.and_self, Bool.or_self, Bool.and_true, Bool.true_and, Bool.and_false, Bool.false_and, Bool.or_true, Bool.true_or, Bool.or_false, Bool.false_or, Bool.not_true, Bool.not_false, cond_true, cond_false]
  | succ e ih =>
    intro i n hi h1' hn hs
    obtain ⟨n, rfl⟩ : ∃ k, n = k + 1 := ⟨n - 1, by omega⟩
    obtain ⟨p, rfl⟩ : ∃ p, i = p + 1 := ⟨i - 1, by omega⟩
    have h1 : p + 1 < m := by omega
    have h2 : p + 1 < xs.length := by omega
    have h3 : p < xs.length := by omega
    have h5 : ((p + 1 : Nat) : Int) < (m : Int) := by omega
    have h6 : (0 : Int) ≤ ((p + 1 : Nat) : Int) := by omega
    have h7 : (0 : Int) ≤ (p : Int) := by omega
    have h8 : (p : Int) < (m : Int) := by omega
    have w1 : IntKind.i64.wrap (((p + 1 : Nat) : Int) - 1) = (p : Int) := by rw [IntWalk.i64_in _ (by omega)]; omega
    have t1 : gz (xs.take m) (p + 1) = gz xs (p + 1) := by rw [gz_eq (by simp; omega), gz_eq h2]; simp
    have t2 : gz (xs.take m) p = gz xs p := by rw [gz_eq (by simp; omega), gz_eq h3]; simp
    rw [round]
    simp only [srt.fw, Nat.add_sub_cancel, t1, t2] at hs
    have hih := ih (p + 1 + 1) n (by omega) (by omega) (by omega)
    simp only [Int.toNat_natCast, w1, h5, h6, h7, h8, h2, h3, decide_true, decide_false, Bool.and_self, Bool.or_self, Bool.and_true, Bool.true_and, Bool.and_false, Bool.false_and, Bool.or_true, Bool.true_or, Bool.or_false, Bool.false_or, Bool.not_true, Bool.not_false, cond_true, cond_false, wrap_nat (p + 1) (by omega)]
    cases hd : decide (gz xs (p + 1) < gz xs p)
    · rw [hd] at hs
      simp only [decide_true, decide_false, Bool.and_self, Bool.or_self, Bool.and_true, Bool.true_and, Bool.and_false, Bool.false_and, Bool.or_true, Bool.true_or, Bool.or_false, Bool.false_or, Bool.not_true, Bool.not_false, cond_true, cond_false] at hs ⊢
      exact hih hs
    · rw [hd] at hs
      simp at hs
theorem zero (xs ys : List Int) (m k : Nat) (d : Int) (f n : Nat) (hm : m = 0) (hx : m ≤ xs.length) (hy : k ≤ ys.length) (hb2 : k ≤ 4611686018427387904) (hv : ln.sp (xs.take m) (ys.take k) d = true) :
    L f (n + 1) (mkS 49 [(0, .ro (.ints .i64 xs) m 1), (1, .ro (.ints .i64 ys) k 1), (2, .int .i64 d), (6, .nils), (7, .bool false), (8, .int .i64 ((1 : Nat) : Int))] []) = some (.tup [.own 0 0 (ln.sv (xs.take m) (ys.take k) d).length 0 1, .bool true], [⟨.typ (.ints .i64 (ln.sv (xs.take m) (ys.take k) d)), 0⟩]) := by
  subst hm
  rw [round]
  have c : ¬ (((1 : Nat) : Int) < ((0 : Nat) : Int)) := by omega
  have hb : 0 ≤ 4611686018427387904 := by omega
  simp only [hx, hb, hy, hb2, hv, c, and_self, decide_true, decide_false, Bool.and_self, Bool.or_self, Bool.and_true, Bool.true_and, Bool.and_false, Bool.false_and, Bool.or_true, Bool.true_or, Bool.or_false, Bool.false_or, Bool.not_true, Bool.not_false, cond_true, cond_false]
theorem run : ∀ args v new, R args = some (true, v, new) → ∃ fuel, runFn Try.prog (orc [⟨37, l06Times.R⟩, ⟨38, l00In.R⟩, ⟨39, l06Line.R⟩]) hd Dr.std none fuel (bodyOf Try.f11) 49 [6, 7] args [] = some (v, new) := by
  intro args v new h
  unfold R at h
  split at h
  · rename_i xs m ys k d
    simp only [Option.some.injEq, Prod.mk.injEq, Bool.and_eq_true, decide_eq_true_eq, Bool.not_eq_true'] at h
    obtain ⟨⟨⟨h1, h2, h3, h4⟩, hv⟩, rfl, rfl⟩ := h
    have e1 : (xs.take m).length = m := by simp; omega
    have e2 : (ys.take k).length = k := by simp; omega
    have hv' := hv
    simp only [ln.sp, Bool.and_eq_true, decide_eq_true_eq, e1, e2] at hv'
    obtain ⟨⟨⟨⟨p1, p2⟩, p3⟩, p4, p5⟩, p6, p7⟩ := hv'
    refine ⟨m + 1, ?_⟩
    rw [start]
    subst p4
    simp only [h1, h2, h3, h4, p1, p2, p5, p6, p7, and_self, Nat.le_refl, bne_self_eq_false, decide_true, decide_false, Bool.and_self, Bool.or_self, Bool.and_true, Bool.true_and, Bool.and_false, Bool.false_and, Bool.or_true, Bool.true_or, Bool.or_false, Bool.false_or, Bool.not_true, Bool.not_false, cond_true, cond_false]
    by_cases c0 : k = 0
    · exact zero xs ys k k d (k + 1) k c0 h1 h3 h4 hv
    · rw [srt.sp_fw, e1] at p3
      exact loop xs ys k k d (k + 1) h1 h2 h3 h4 hv (k - 1) 1 (k + 1) (by omega) (by omega) (by omega) p3
  · cases h
theorem ok : EntOk Try.prog ⟨11, R⟩ :=
  ent_okA mixed (A := (orc [⟨37, l06Times.R⟩, ⟨38, l00In.R⟩, ⟨39, l06Line.R⟩])) (orc_ok (by simp only [List.mem_cons, List.not_mem_nil, or_false, forall_eq_or_imp, forall_eq]; exact ⟨l06Times.ok, l00In.ok, l06Line.ok⟩)) Try.func11 (by kernel_rfl) (by kernel_rfl) (n := 49) (ts := [6, 7]) (hd := hd) (dr := Dr.std) (cut := none) (by kernel_rfl) (by kernel_rfl) (by kernel_rfl) run
end sLineOf_t

namespace sLineOf_f
def R : List AVal → Option (Bool × AVal × List Blk)
  | [.ro (.ints .i64 xs) m 1, .ro (.ints .i64 ys) k 1, .int .i64 d] => some (decide (m ≤ xs.length ∧ m ≤ 4611686018427387904 ∧ k ≤ ys.length ∧ k ≤ 4611686018427387904) && !ln.sp (xs.take m) (ys.take k) d, .tup [.nils, .bool false], [])
  | _ => none
def hd : Nat → Head := fun _ => ⟨[0, 1, 2, 6, 7, 8], none⟩
noncomputable def L (f n : Nat) (s : State) := loopAt Try.prog (orc [⟨37, l06Times.R⟩, ⟨38, l00In.R⟩]) hd Dr.std 0 f (bodyOf Try.f11) 0 [true, true, false, true] (retK Try.prog [6, 7] 0 (some 0)) n s
theorem start (xs ys : List Int) (m k : Nat) (d : Int) (f : Nat) :
  runFn Try.prog (orc [⟨37, l06Times.R⟩, ⟨38, l00In.R⟩]) hd Dr.std (some 0) f (bodyOf Try.f11) 49 [6, 7] [.ro (.ints .i64 xs) m 1, .ro (.ints .i64 ys) k 1, .int .i64 d] []
  = (bif decide (m ≤ xs.length ∧ m ≤ (4611686018427387904 : Nat)) && (true && true || true && true) then bif !((List.take m xs).all ln.tm.sp && decide (m ≤ (64 : Nat))) then some (AVal.tup [AVal.nils, AVal.bool false], []) else bif decide (k ≤ ys.length ∧ k ≤ (4611686018427387904 : Nat)) && (true && true || true && true) then bif !((List.take k ys).all ln.tm.sp && decide (k ≤ (64 : Nat))) then some (AVal.tup [AVal.nils, AVal.bool false], []) else bif (↑k : Int) != (↑m : Int) then some (AVal.tup [AVal.nils, AVal.bool false], []) else bif true && (true && true || true && true) then bif !(decide ((1 : Int) ≤ d) && decide (d ≤ (8 : Int))) then some (AVal.tup [AVal.nils, AVal.bool false], []) else L f f (mkS (49 : Nat) [((0 : Nat), AVal.ro (Cont.ints IntKind.i64 xs) m (1 : Nat)), ((1 : Nat), AVal.ro (Cont.ints IntKind.i64 ys) k (1 : Nat)), ((2 : Nat), AVal.int IntKind.i64 d), ((6 : Nat), AVal.nils), ((7 : Nat), AVal.bool false), ((8 : Nat), AVal.int IntKind.i64 (1 : Int))] []) else none else none else none) := by kernel_rfl
theorem round (xs ys : List Int) (m k : Nat) (d : Int) (i f n : Nat) :
  L f (n + 1) (mkS 49 [(0, .ro (.ints .i64 xs) m 1), (1, .ro (.ints .i64 ys) k 1), (2, .int .i64 d), (6, .nils), (7, .bool false), (8, .int .i64 i)] [])
  = (bif decide ((↑i : Int) < (↑m : Int)) then bif true && (decide ((0 : Int) ≤ (↑i : Int)) && decide ((↑i : Int) < (↑m : Int))) then bif decide ((↑i : Int).toNat < xs.length) then bif true && (decide ((0 : Int) ≤ IntKind.i64.wrap ((↑i : Int) - (1 : Int))) && decide (IntKind.i64.wrap ((↑i : Int) - (1 : Int)) < (↑m : Int))) then bif decide ((IntKind.i64.wrap ((↑i : Int) - (1 : Int))).toNat < xs.length) then bif decide (gz xs (↑i : Int).toNat < gz xs (IntKind.i64.wrap ((↑i : Int) - (1 : Int))).toNat) then some (AVal.tup [AVal.nils, AVal.bool false], []) else L f n (mkS (49 : Nat) [((0 : Nat), AVal.ro (Cont.ints IntKind.i64 xs) m (1 : Nat)), ((1 : Nat), AVal.ro (Cont.ints IntKind.i64 ys) k (1 : Nat)), ((2 : Nat), AVal.int IntKind.i64 d), ((6 : Nat), AVal.nils), ((7 : Nat), AVal.bool false), ((8 : Nat), AVal.int IntKind.i64 (IntKind.i64.wrap ((↑i : Int) + (1 : Int))))] []) else none else none else none else none else none) := by kernel_rfl
theorem loop (xs ys : List Int) (m k : Nat) (d : Int) (f : Nat) (hx : m ≤ xs.length) (hb : m ≤ 4611686018427387904) : ∀ (e i n : Nat), i + e = m → 1 ≤ i → e < n → srt.fw (xs.take m) e i = false →
    L f n (mkS 49 [(0, .ro (.ints .i64 xs) m 1), (1, .ro (.ints .i64 ys) k 1), (2, .int .i64 d), (6, .nils), (7, .bool false), (8, .int .i64 i)] []) = some (.tup [.nils, .bool false], []) := by
  intro e
  induction e with
  | zero =>
    intro i n hi h1 hn hs
    simp [srt.fw] at hs
  | succ e ih =>
    intro i n hi h1' hn hs
    obtain ⟨n, rfl⟩ : ∃ k, n = k + 1 := ⟨n - 1, by omega⟩
    obtain ⟨p, rfl⟩ : ∃ p, i = p + 1 := ⟨i - 1, by omega⟩
    have h1 : p + 1 < m := by omega
    have h2 : p + 1 < xs.length := by omega
    have h3 : p < xs.length := by omega
    have h5 : ((p + 1 : Nat) : Int) < (m : Int) := by omega
    have h6 : (0 : Int) ≤ ((p + 1 : Nat) : Int) := by omega
    have h7 : (0 : Int) ≤ (p : Int) := by omega
    have h8 : (p : Int) < (m : Int) := by omega
    have w1 : IntKind.i64.wrap (((p + 1 : Nat) : Int) - 1) = (p : Int) := by rw [IntWalk.i64_in _ (by omega)]; omega
    have t1 : gz (xs.take m) (p + 1) = gz xs (p + 1) := by rw [gz_eq (by simp; omega), gz_eq h2]; simp
    have t2 : gz (xs.take m) p = gz xs p := by rw [gz_eq (by simp; omega), gz_eq h3]; simp
    rw [round]
    simp only [srt.fw, Nat.add_sub_cancel, t1, t2] at hs
    have hih := ih (p + 1 + 1) n (by omega) (by omega) (by omega)
    simp only [Int.toNat_natCast, w1, h5, h6, h7, h8, h2, h3, decide_true, decide_false, Bool.and_self, Bool.or_self, Bool.and_true, Bool.true_and, Bool.and_false, Bool.false_and, Bool.or_true, Bool.true_or, Bool.or_false, Bool.false_or, Bool.not_true, Bool.not_false, cond_true, cond_false, wrap_nat (p + 1) (by omega)]
    cases hd : decide (gz xs (p + 1) < gz xs p)
    · rw [hd] at hs
      simp only [decide_true, decide_false, Bool.and_self, Bool.or_self, Bool.and_true, Bool.true_and, Bool.and_false, Bool.false_and, Bool.or_true, Bool.true_or, Bool.or_false, Bool.false_or, Bool.not_true, Bool.not_false, cond_true, cond_false] at hs ⊢
      exact hih hs
    · simp only [decide_true, decide_false, Bool.and_self, Bool.or_self, Bool.and_true, Bool.true_and, Bool.and_false, Bool.false_and, Bool.or_true, Bool.true_or, Bool.or_false, Bool.false_or, Bool.not_true, Bool.not_false, cond_true, cond_false]
theorem run : ∀ args v new, R args = some (true, v, new) → ∃ fuel, runFn Try.prog (orc [⟨37, l06Times.R⟩, ⟨38, l00In.R⟩]) hd Dr.std (some 0) fuel (bodyOf Try.f11) 49 [6, 7] args [] = some (v, new) := by
  intro args v new h
  unfold R at h
  split at h
  · rename_i xs m ys k d
    simp only [Option.some.injEq, Prod.mk.injEq, Bool.and_eq_true, decide_eq_true_eq, Bool.not_eq_true'] at h
    obtain ⟨⟨⟨h1, h2, h3, h4⟩, hv⟩, rfl, rfl⟩ := h
    have e1 : (xs.take m).length = m := by simp; omega
    have e2 : (ys.take k).length = k := by simp; omega
    refine ⟨m + 1, ?_⟩
    rw [start]
    have hl : srt.sp (xs.take m) = false → L (m + 1) (m + 1) (mkS 49 [(0, .ro (.ints .i64 xs) m 1), (1, .ro (.ints .i64 ys) k 1), (2, .int .i64 d), (6, .nils), (7, .bool false), (8, .int .i64 1)] []) = some (.tup [.nils, .bool false], []) := fun hs => by
      by_cases c0 : m = 0
      · have e0 : xs.take m = [] := by rw [c0]; rfl
        rw [e0] at hs
        exact absurd hs (by decide)
      · rw [srt.sp_fw, e1] at hs
        exact loop xs ys m k d (m + 1) h1 h2 (m - 1) 1 (m + 1) (by omega) (by omega) (by omega) hs
    generalize L (m + 1) (m + 1) (mkS 49 [(0, .ro (.ints .i64 xs) m 1), (1, .ro (.ints .i64 ys) k 1), (2, .int .i64 d), (6, .nils), (7, .bool false), (8, .int .i64 1)] []) = X at hl ⊢
    simp only [ln.sp, e1, e2] at hv
    have c : ((k : Int) != (m : Int)) = !decide (k = m) := by rw [Bool.eq_iff_iff]; simp only [bne_iff_ne, ne_eq, Int.natCast_inj, Bool.not_eq_true', decide_eq_false_iff_not]
    simp only [h1, h2, h3, h4, c, and_self, decide_true, decide_false, Bool.and_self, Bool.or_self, Bool.and_true, Bool.true_and, Bool.and_false, Bool.false_and, Bool.or_true, Bool.true_or, Bool.or_false, Bool.false_or, Bool.not_true, Bool.not_false, cond_true, cond_false]
    generalize hq4 : decide (k = m) = q4 at hv ⊢
    cases q4
    · generalize decide (m ≤ 64) = q1
      generalize (xs.take m).all ln.tm.sp = q2
      generalize decide (k ≤ 64) = q3
      generalize (ys.take k).all ln.tm.sp = q4
      cases q1 <;> cases q2 <;> cases q3 <;> cases q4 <;> rfl
    · have h64 : decide (k ≤ 64) = decide (m ≤ 64) := by rw [of_decide_eq_true hq4]
      rw [h64]
      generalize decide (m ≤ 64) = q1 at hv ⊢
      generalize (xs.take m).all ln.tm.sp = q2 at hv ⊢
      generalize (ys.take k).all ln.tm.sp = q3 at hv ⊢
      generalize (decide (1 ≤ d) && decide (d ≤ 8)) = q5 at hv ⊢
      generalize srt.sp (xs.take m) = q6 at hv hl
      cases q6
      · rw [hl rfl]
        cases q1 <;> cases q2 <;> cases q3 <;> cases q5 <;> rfl
      · cases q1 <;> cases q2 <;> cases q3 <;> cases q5 <;> first | rfl | (exact absurd hv (by decide))
  · cases h
theorem ok : EntOk Try.prog ⟨11, R⟩ :=
  ent_okA mixed (A := (orc [⟨37, l06Times.R⟩, ⟨38, l00In.R⟩])) (orc_ok (by simp only [List.mem_cons, List.not_mem_nil, or_false, forall_eq_or_imp, forall_eq]; exact ⟨l06Times.ok, l00In.ok⟩)) Try.func11 (by kernel_rfl) (by kernel_rfl) (n := 49) (ts := [6, 7]) (hd := hd) (dr := Dr.std) (cut := (some 0)) (by kernel_rfl) (by kernel_rfl) (by kernel_rfl) run
end sLineOf_f

namespace sLineOf
def Rt := sLineOf_t.R
def Rf := sLineOf_f.R
theorem okt : EntOk Try.prog ⟨11, Rt⟩ := sLineOf_t.ok
theorem okf : EntOk Try.prog ⟨11, Rf⟩ := sLineOf_f.ok
end sLineOf

end Go.Proofs.Ytodmicbmdpjoaaa.Ab
