/-
  Functions: how long all wait.
-/
import Derived.Test.YtodmicbmdpjoaaaFnXC
namespace Go.Proofs.Ytodmicbmdpjoaaa.Ab
open Go
set_option linter.unusedVariables false
set_option linter.unusedSimpArgs false
set_option maxRecDepth 100000

namespace iWaitOf
def R : List AVal → Option (Bool × AVal × List Blk)
  | [.ro (.ints .i64 xs) m 1, .ro (.ints .i64 ys) k 1, .int .i64 d] => some (decide (m ≤ xs.length ∧ m ≤ 4611686018427387904 ∧ k ≤ ys.length ∧ k ≤ 4611686018427387904), .tup [.int .i64 (ln.wait.sv (xs.take m) (ys.take k) d), .bool (ln.sp (xs.take m) (ys.take k) d)], [])
  | _ => none
theorem go (xs ys : List Int) (m k : Nat) (d : Int) :
  runFn Try.prog (orc [⟨40, isLine.R⟩, ⟨41, iLine.R⟩, ⟨42, sumOf.R⟩]) hd0 Dr.std (some 0) 0 (bodyOf Try.f18) 21 [6, 7] [.ro (.ints .i64 xs) m 1, .ro (.ints .i64 ys) k 1, .int .i64 d] []
  = (bif decide (m ≤ xs.length ∧ m ≤ (4611686018427387904 : Nat) ∧ k ≤ ys.length ∧ k ≤ (4611686018427387904 : Nat)) && (true && (true && (true && true)) || true && true) then bif !ln.sp (List.take m xs) (List.take k ys) d then some (AVal.tup [AVal.int IntKind.i64 (0 : Int), AVal.bool false], []) else bif decide (m ≤ xs.length ∧ m ≤ (4611686018427387904 : Nat) ∧ k ≤ ys.length ∧ k ≤ (4611686018427387904 : Nat)) && ln.sp (List.take m xs) (List.take k ys) d && (true && (true && (true && true)) || true && (true && true)) then bif decide ((ln.sv (List.take m xs) (List.take k ys) d).length ≤ (ln.sv (List.take m xs) (List.take k ys) d).length ∧ (ln.sv (List.take m xs) (List.take k ys) d).length ≤ (4611686018427387904 : Nat)) && (false && true || true && true) then bif decide (m ≤ xs.length ∧ m ≤ (4611686018427387904 : Nat)) && (true && true || true && true) then some (AVal.tup [AVal.int IntKind.i64 (IntKind.i64.wrap (sumOf.sp (List.take (ln.sv (List.take m xs) (List.take k ys) d).length (ln.sv (List.take m xs) (List.take k ys) d)) - sumOf.sp (List.take m xs))), AVal.bool true], []) else none else none else none else none) := by kernel_rfl
theorem run : ∀ args v new, R args = some (true, v, new) → ∃ fuel, runFn Try.prog (orc [⟨40, isLine.R⟩, ⟨41, iLine.R⟩, ⟨42, sumOf.R⟩]) hd0 Dr.std (some 0) fuel (bodyOf Try.f18) 21 [6, 7] args [] = some (v, new) := by
  intro args v new h
  unfold R at h
  split at h
  · rename_i xs m ys k d
    simp only [Option.some.injEq, Prod.mk.injEq, decide_eq_true_eq] at h
    obtain ⟨⟨h1, h2, h3, h4⟩, rfl, rfl⟩ := h
    have e1 : (xs.take m).length = m := by simp; omega
    have e2 : (ys.take k).length = k := by simp; omega
    refine ⟨0, ?_⟩
    rw [go]
    unfold ln.wait.sv
    simp only [h1, h2, h3, h4, and_self, decide_true, decide_false, Bool.and_self, Bool.or_self, Bool.and_true, Bool.true_and, Bool.and_false, Bool.false_and, Bool.or_true, Bool.true_or, Bool.or_false, Bool.false_or, Bool.not_true, Bool.not_false, cond_true, cond_false]
    cases hv : ln.sp (xs.take m) (ys.take k) d
    · rfl
    · obtain ⟨v1, v2, v3, v4⟩ := ln.valid hv
      have hlen : (ln.sv (xs.take m) (ys.take k) d).length = m := by unfold ln.sv; rw [ln.go_length _ _ _ (by omega), e1]
      rw [e1] at v1
      have hl4 : (ln.sv (xs.take m) (ys.take k) d).length ≤ 4611686018427387904 := by omega
      simp only [hl4, Nat.le_refl, List.take_length, ln.sumOf_diff, and_self, decide_true, decide_false, Bool.and_self, Bool.or_self, Bool.and_true, Bool.true_and, Bool.and_false, Bool.false_and, Bool.or_true, Bool.true_or, Bool.or_false, Bool.false_or, Bool.not_true, Bool.not_false, cond_true, cond_false]
  · cases h
theorem ok : EntOk Try.prog ⟨18, R⟩ :=
  ent_okA mixed (A := (orc [⟨40, isLine.R⟩, ⟨41, iLine.R⟩, ⟨42, sumOf.R⟩])) (orc_ok (by simp only [List.mem_cons, List.not_mem_nil, or_false, forall_eq_or_imp, forall_eq]; exact ⟨isLine.ok, iLine.ok, sumOf.ok⟩)) Try.func18 (by kernel_rfl) (by kernel_rfl) (n := 21) (ts := [6, 7]) (hd := hd0) (dr := Dr.std) (cut := (some 0)) (by kernel_rfl) (by kernel_rfl) (by kernel_rfl) run
end iWaitOf

namespace sWaitOf_t
def R : List AVal → Option (Bool × AVal × List Blk)
  | [.ro (.ints .i64 xs) m 1, .ro (.ints .i64 ys) k 1, .int .i64 d] => some (decide (m ≤ xs.length ∧ m ≤ 4611686018427387904 ∧ k ≤ ys.length ∧ k ≤ 4611686018427387904) && ln.sp (xs.take m) (ys.take k) d, .tup [.int .i64 (ln.wait.sv (xs.take m) (ys.take k) d), .bool (ln.sp (xs.take m) (ys.take k) d)], [])
  | _ => none
def hd : Nat → Head := fun _ => ⟨[0, 8, 10, 11], some 1⟩
noncomputable def L (f n : Nat) (s : State) := loopAt Try.prog (orc [⟨11, sLineOf.Rt⟩]) hd Dr.std 0 f (bodyOf Try.f17) 0 [true, true, true, true, false, true] (retK Try.prog [6, 7] 0 (some 0)) n s
theorem start (xs ys : List Int) (m k : Nat) (d : Int) (f : Nat) :
  runFn Try.prog (orc [⟨11, sLineOf.Rt⟩]) hd Dr.std (some 0) f (bodyOf Try.f17) 39 [6, 7] [.ro (.ints .i64 xs) m 1, .ro (.ints .i64 ys) k 1, .int .i64 d] []
  = (bif decide (m ≤ xs.length ∧ m ≤ (4611686018427387904 : Nat) ∧ k ≤ ys.length ∧ k ≤ (4611686018427387904 : Nat)) && ln.sp (List.take m xs) (List.take k ys) d && (true && (true && (true && true)) || true && true && (true && true)) then L f f (mkS (39 : Nat) [((0 : Nat), AVal.ro (Cont.ints IntKind.i64 xs) m (1 : Nat)), ((8 : Nat), AVal.own (0 : Nat) (0 : Nat) (ln.sv (List.take m xs) (List.take k ys) d).length (0 : Nat) (1 : Nat)), ((10 : Nat), AVal.int IntKind.i64 (0 : Int)), ((11 : Nat), AVal.int IntKind.i64 (0 : Int))] [{ c := BC.typ (Cont.ints IntKind.i64 (ln.sv (List.take m xs) (List.take k ys) d)), ver := (0 : Nat) }]) else none) := by kernel_rfl
theorem round (xs os : List Int) (m w : Nat) (a : Int) (i f n : Nat) :
  L f (n + 1) (mkS 39 [(0, .ro (.ints .i64 xs) m 1), (8, .own 0 0 w 0 1), (10, .int .i64 a), (11, .int .i64 i)] [⟨.typ (.ints .i64 os), 0⟩])
  = (bif decide ((↑i : Int) < (↑w : Int)) then bif true && (decide ((0 : Int) ≤ (↑i : Int)) && decide ((↑i : Int) < (↑w : Int))) then bif true && decide ((↑i : Int).toNat < os.length) then bif true && (decide ((0 : Int) ≤ (↑i : Int)) && decide ((↑i : Int) < (↑m : Int))) then bif decide ((↑i : Int).toNat < xs.length) then L f n (mkS (39 : Nat) [((0 : Nat), AVal.ro (Cont.ints IntKind.i64 xs) m (1 : Nat)), ((8 : Nat), AVal.own (0 : Nat) (0 : Nat) w (0 : Nat) (1 : Nat)), ((10 : Nat), AVal.int IntKind.i64 (IntKind.i64.wrap (a + IntKind.i64.wrap (gz os (↑i : Int).toNat - gz xs (↑i : Int).toNat)))), ((11 : Nat), AVal.int IntKind.i64 (IntKind.i64.wrap ((↑i : Int) + (1 : Int))))] [{ c := BC.typ (Cont.ints IntKind.i64 os), ver := (0 : Nat) }]) else none else none else none else none else some (AVal.tup [AVal.int IntKind.i64 a, AVal.bool true], [])) := by kernel_rfl
theorem loop (xs os : List Int) (m : Nat) (f : Nat) (hx : m ≤ xs.length) (ho : os.length = m) (hb : m ≤ 64) : ∀ (d i n : Nat) (a : Int), i + d = m → d < n →
    L f n (mkS 39 [(0, .ro (.ints .i64 xs) m 1), (8, .own 0 0 m 0 1), (10, .int .i64 a), (11, .int .i64 i)] [⟨.typ (.ints .i64 os), 0⟩]) = some (.tup [.int .i64 (ln.dif (os.drop i) ((xs.take m).drop i) a), .bool true], []) := by
  intro d
  induction d with
  | zero =>
    intro i n a hi hn 
    obtain ⟨n, rfl⟩ : ∃ k, n = k + 1 := ⟨n - 1, by omega⟩
    obtain rfl : i = m := by omega
    rw [round]
    have e : (xs.take i).drop i = [] := by simp
    rw [e]
    cases os.drop i <;> simp [ln.dif]
  | succ d ih =>
    intro i n a hi hn 
    obtain ⟨n, rfl⟩ : ∃ k, n = k + 1 := ⟨n - 1, by omega⟩
    have h1 : i < m := by omega
    have h4 : (0 : Int) ≤ (i : Int) := Int.natCast_nonneg _
    have h5 : (i : Int) < (m : Int) := by omega
    have h2 : i < xs.length := by omega
    rw [round]
    have l1 : i < os.length := by omega
    rw [drop_take_cons hx h1, List.drop_eq_getElem_cons l1]
    simp only [ln.dif, h4, h5, h2, l1, gz_eq h2, gz_eq l1, decide_true, Bool.and_self, Bool.or_self, Bool.and_true, Bool.true_and, cond_true, Int.toNat_natCast, wrap_nat i (by omega)]
    exact ih (i + 1) n _ (by omega) (by omega)
theorem run : ∀ args v new, R args = some (true, v, new) → ∃ fuel, runFn Try.prog (orc [⟨11, sLineOf.Rt⟩]) hd Dr.std (some 0) fuel (bodyOf Try.f17) 39 [6, 7] args [] = some (v, new) := by
  intro args v new h
  unfold R at h
  split at h
  · rename_i xs m ys k d
    simp only [Option.some.injEq, Prod.mk.injEq, Bool.and_eq_true, decide_eq_true_eq, Bool.not_eq_true'] at h
    obtain ⟨⟨⟨h1, h2, h3, h4⟩, hv⟩, rfl, rfl⟩ := h
    have e1 : (xs.take m).length = m := by simp; omega
    have e2 : (ys.take k).length = k := by simp; omega
    obtain ⟨v1, v2, v3, v4⟩ := ln.valid hv
    have hlen : (ln.sv (xs.take m) (ys.take k) d).length = m := by unfold ln.sv; rw [ln.go_length _ _ _ (by omega), e1]
    rw [e1] at v1
    refine ⟨m + 1, ?_⟩
    rw [start]
    have hl := loop xs (ln.sv (xs.take m) (ys.take k) d) m (m + 1) h1 hlen v1 m 0 (m + 1) 0 (by omega) (by omega)
    rw [List.drop_zero, List.drop_zero, ln.dif_eq _ _ _ (by rw [hlen, e1]) (by decide), Int.zero_add] at hl
    unfold ln.wait.sv
    simp only [h1, h2, h3, h4, hv, hlen, and_self, decide_true, decide_false, Bool.and_self, Bool.or_self, Bool.and_true, Bool.true_and, Bool.and_false, Bool.false_and, Bool.or_true, Bool.true_or, Bool.or_false, Bool.false_or, Bool.not_true, Bool.not_false, cond_true, cond_false]
    exact hl
  · cases h
theorem ok : EntOk Try.prog ⟨17, R⟩ :=
  ent_okA mixed (A := (orc [⟨11, sLineOf.Rt⟩])) (orc_ok (by simp only [List.mem_cons, List.not_mem_nil, or_false, forall_eq_or_imp, forall_eq]; exact sLineOf.okt)) Try.func17 (by kernel_rfl) (by kernel_rfl) (n := 39) (ts := [6, 7]) (hd := hd) (dr := Dr.std) (cut := (some 0)) (by kernel_rfl) (by kernel_rfl) (by kernel_rfl) run
end sWaitOf_t

namespace sWaitOf_f
def R : List AVal → Option (Bool × AVal × List Blk)
  | [.ro (.ints .i64 xs) m 1, .ro (.ints .i64 ys) k 1, .int .i64 d] => some (decide (m ≤ xs.length ∧ m ≤ 4611686018427387904 ∧ k ≤ ys.length ∧ k ≤ 4611686018427387904) && !ln.sp (xs.take m) (ys.take k) d, .tup [.int .i64 (ln.wait.sv (xs.take m) (ys.take k) d), .bool (ln.sp (xs.take m) (ys.take k) d)], [])
  | _ => none
theorem go (xs ys : List Int) (m k : Nat) (d : Int) :
  runFn Try.prog (orc [⟨11, sLineOf.Rf⟩]) hd0 Dr.std (some 0) 0 (bodyOf Try.f17) 39 [6, 7] [.ro (.ints .i64 xs) m 1, .ro (.ints .i64 ys) k 1, .int .i64 d] []
  = (bif decide (m ≤ xs.length ∧ m ≤ (4611686018427387904 : Nat) ∧ k ≤ ys.length ∧ k ≤ (4611686018427387904 : Nat)) && !ln.sp (List.take m xs) (List.take k ys) d && (true && (true && (true && true)) || true && true) then some (AVal.tup [AVal.int IntKind.i64 (0 : Int), AVal.bool false], []) else none) := by kernel_rfl
theorem run : ∀ args v new, R args = some (true, v, new) → ∃ fuel, runFn Try.prog (orc [⟨11, sLineOf.Rf⟩]) hd0 Dr.std (some 0) fuel (bodyOf Try.f17) 39 [6, 7] args [] = some (v, new) := by
  intro args v new h
  unfold R at h
  split at h
  · rename_i xs m ys k d
    simp only [Option.some.injEq, Prod.mk.injEq, Bool.and_eq_true, decide_eq_true_eq, Bool.not_eq_true'] at h
    obtain ⟨⟨⟨h1, h2, h3, h4⟩, hv⟩, rfl, rfl⟩ := h
    have e1 : (xs.take m).length = m := by simp; omega
    have e2 : (ys.take k).length = k := by simp; omega
    refine ⟨0, ?_⟩
    rw [go]
    unfold ln.wait.sv
    simp only [h1, h2, h3, h4, hv, and_self, decide_true, decide_false, Bool.and_self, Bool.or_self, Bool.and_true, Bool.true_and, Bool.and_false, Bool.false_and, Bool.or_true, Bool.true_or, Bool.or_false, Bool.false_or, Bool.not_true, Bool.not_false, cond_true, cond_false]
  · cases h
theorem ok : EntOk Try.prog ⟨17, R⟩ :=
  ent_okA mixed (A := (orc [⟨11, sLineOf.Rf⟩])) (orc_ok (by simp only [List.mem_cons, List.not_mem_nil, or_false, forall_eq_or_imp, forall_eq]; exact sLineOf.okf)) Try.func17 (by kernel_rfl) (by kernel_rfl) (n := 39) (ts := [6, 7]) (hd := hd0) (dr := Dr.std) (cut := (some 0)) (by kernel_rfl) (by kernel_rfl) (by kernel_rfl) run
end sWaitOf_f

namespace sWaitOf
def R : List AVal → Option (Bool × AVal × List Blk)
  | [.ro (.ints .i64 xs) m 1, .ro (.ints .i64 ys) k 1, .int .i64 d] => some (decide (m ≤ xs.length ∧ m ≤ 4611686018427387904 ∧ k ≤ ys.length ∧ k ≤ 4611686018427387904), .tup [.int .i64 (ln.wait.sv (xs.take m) (ys.take k) d), .bool (ln.sp (xs.take m) (ys.take k) d)], [])
  | _ => none
theorem ok : EntOk Try.prog ⟨17, R⟩ := EntOk.cases sWaitOf_t.ok sWaitOf_f.ok fun args v new h => by
  unfold R at h
  split at h
  · rename_i xs m ys k d
    simp only [Option.some.injEq, Prod.mk.injEq, decide_eq_true_eq] at h
    obtain ⟨⟨h1, h2, h3, h4⟩, rfl, rfl⟩ := h
    have e1 : (xs.take m).length = m := by simp; omega
    have e2 : (ys.take k).length = k := by simp; omega
    cases hv : ln.sp (xs.take m) (ys.take k) d
    · right; simp [sWaitOf_f.R, h1, h2, h3, h4, hv]
    · left; simp [sWaitOf_t.R, h1, h2, h3, h4, hv]
  · cases h
end sWaitOf

end Go.Proofs.Ytodmicbmdpjoaaa.Ab
