/-
  Functions: machines that are drawn.
-/
import Derived.Test.YtgblgofmdhekiaaFnDB
namespace Go.Proofs.Ytgblgofmdhekiaa.Ab
open Go
set_option linter.unusedVariables false
set_option linter.unusedSimpArgs false
set_option maxRecDepth 100000

namespace mdr
/-- A number drawn, and what is left to draw from. -/
def v.sv (xs : List Int) (k : Int) (a : Nat) (s : Int) : Int := bif decide (k ≤ 1) then 0 else (r8.nx.sv xs a s).tmod k
def a.sv (k : Int) (a : Nat) : Nat := bif decide (k ≤ 1) then a else a + 1
def s.sv (xs : List Int) (k : Int) (a : Nat) (s : Int) : Int := bif decide (k ≤ 1) then s else r8.seed.sv xs a s
def l.sv (xs : List Int) (k : Int) : Nat → Nat → Int → List Int
  | 0, _, _ => []
  | d + 1, b, u => v.sv xs k b u :: l.sv xs k d (a.sv k b) (s.sv xs k b u)
def la.sv (k : Int) : Nat → Nat → Nat
  | 0, b => b
  | d + 1, b => la.sv k d (a.sv k b)
def ls.sv (xs : List Int) (k : Int) : Nat → Nat → Int → Int
  | 0, _, u => u
  | d + 1, b, u => ls.sv xs k d (a.sv k b) (s.sv xs k b u)
theorem l_len (xs : List Int) (k : Int) : ∀ (d b : Nat) (u : Int), (l.sv xs k d b u).length = d
  | 0, _, _ => rfl
  | d + 1, b, u => by rw [l.sv, List.length_cons, l_len xs k d]
theorem a_le (k : Int) (b : Nat) : a.sv k b ≤ b + 1 := by unfold a.sv; cases decide (k ≤ 1) <;> simp
theorem la_le (k : Int) : ∀ (d b : Nat), la.sv k d b ≤ b + d
  | 0, _ => Nat.le_refl _
  | d + 1, b => by have := la_le k d (a.sv k b); have := a_le k b; rw [la.sv]; omega
theorem v_in {xs : List Int} (h : r8.bytes.sp xs = true) {k : Int} (hk : 1 ≤ k) (b : Nat) (u : Int) : 0 ≤ v.sv xs k b u ∧ v.sv xs k b u < k := by
  unfold v.sv
  by_cases c : k ≤ 1
  · rw [decide_eq_true c, cond_true]; omega
  · rw [decide_eq_false c, cond_false]
    have hm := r8.go_in h (show (0 : Int) < k by omega) 1 b u ((r8.nx.sv xs b u).tmod k) (by simp [r8.go.sv])
    exact hm
theorem l_in {xs : List Int} (h : r8.bytes.sp xs = true) {k : Int} (hk : 1 ≤ k) : ∀ (d b : Nat) (u : Int), ∀ x ∈ l.sv xs k d b u, 0 ≤ x ∧ x < k
  | 0, _, _ => fun x hx => by cases hx
  | d + 1, b, u => fun x hx => by
    rw [l.sv, List.mem_cons] at hx
    rcases hx with rfl | hx
    · exact v_in h hk b u
    · exact l_in h hk d _ _ x hx
/-- A machine drawn. -/
def mo.sv (xs : List Int) (w : Int) (m : Nat) : List Int := l.sv xs w m 0 0
def ne.sv (xs : List Int) (w : Int) (o m : Nat) : List Int := l.sv xs ((m : Nat) : Int) (m * o) (la.sv w m 0) (ls.sv xs w m 0 0)
theorem mo_len (xs : List Int) (w : Int) (m : Nat) : (mo.sv xs w m).length = m := l_len _ _ _ _ _
theorem ne_len (xs : List Int) (w : Int) (o m : Nat) : (ne.sv xs w o m).length = m * o := l_len _ _ _ _ _
theorem valid {xs : List Int} (h : r8.bytes.sp xs = true) {w o m : Nat} (hw : 1 ≤ w ∧ w ≤ 6) (ho : 1 ≤ o ∧ o ≤ 6) (hm : 1 ≤ m ∧ m ≤ 8) : mch.mv.sp w o (mo.sv xs w m) (ne.sv xs w o m) = true := by
  refine mch.mv_iff.2 ⟨hw.1, hw.2, ho.1, ho.2, by rw [mo_len]; exact hm.1, by rw [mo_len]; exact hm.2, fun x hx => l_in h (by omega) _ _ _ x hx, by rw [ne_len, mo_len], fun x hx => by rw [mo_len]; exact l_in h (by omega) _ _ _ x hx⟩
end mdr

namespace qPick
def R : List AVal → Heap → Option (Bool × AVal × Heap)
  | [.ptr 0 0 0, .int .i64 k], [⟨.cells [.ro (.ints .u8 xs) m 1, .int .i64 a, .int .u64 s], 0⟩] => some (decide (m = xs.length ∧ m ≤ 1000000 ∧ 0 ≤ a ∧ a ≤ 1000000 ∧ 1 ≤ k ∧ k ≤ 200), .int .i64 (mdr.v.sv xs k a.toNat s), [⟨.cells [.ro (.ints .u8 xs) m 1, .int .i64 ((mdr.a.sv k a.toNat : Nat) : Int), .int .u64 (mdr.s.sv xs k a.toNat s)], 0⟩])
  | _, _ => none
theorem go (xs : List Int) (a s k : Int) :
  runFn Try.prog (orcW [⟨75, srcNext.R⟩] []) hd0 Dr.std none 0 (bodyOf Try.f37) 20 [4] [.ptr 0 0 0, .int .i64 k] [⟨.cells [.ro (.ints .u8 xs) xs.length 1, .int .i64 a, .int .u64 s], 0⟩]
  = (bif true && true then bif decide (k ≤ (1 : Int)) then some (AVal.int IntKind.i64 (0 : Int), [{ c := BC.cells [AVal.ro (Cont.ints IntKind.u8 xs) xs.length (1 : Nat), AVal.int IntKind.i64 a, AVal.int IntKind.u64 s], ver := (0 : Nat) }]) else bif decide (xs.length = xs.length ∧ xs.length ≤ (1000000 : Nat) ∧ (0 : Int) ≤ a ∧ a ≤ (1000000 : Int)) && (true && (true && true)) then bif decide ((200 : Int) < k) then bif decide (xs.length = xs.length ∧ xs.length ≤ (1000000 : Nat) ∧ (0 : Int) ≤ a + (1 : Int) ∧ a + (1 : Int) ≤ (1000000 : Int)) && (true && (true && true)) then bif !k == (0 : Int) then some (AVal.int IntKind.i64 ((IntKind.i64.wrap (IntKind.i64.wrap (r8.nx.sv xs a.toNat s * (256 : Int)) + r8.nx.sv xs (a + (1 : Int)).toNat (r8.seed.sv xs a.toNat s))).tmod k), [{ c := BC.cells [AVal.ro (Cont.ints IntKind.u8 xs) xs.length (1 : Nat), AVal.int IntKind.i64 (a + (1 : Int) + (1 : Int)), AVal.int IntKind.u64 (r8.seed.sv xs (a + (1 : Int)).toNat (r8.seed.sv xs a.toNat s))], ver := (0 : Nat) }]) else none else none else bif !k == (0 : Int) then some (AVal.int IntKind.i64 ((r8.nx.sv xs a.toNat s).tmod k), [{ c := BC.cells [AVal.ro (Cont.ints IntKind.u8 xs) xs.length (1 : Nat), AVal.int IntKind.i64 (a + (1 : Int)), AVal.int IntKind.u64 (r8.seed.sv xs a.toNat s)], ver := (0 : Nat) }]) else none else none else none) := by kernel_rfl
theorem run : ∀ args H v new, R args H = some (true, v, new) → ∃ fuel, runFn Try.prog (orcW [⟨75, srcNext.R⟩] []) hd0 Dr.std none fuel (bodyOf Try.f37) 20 [4] args H = some (v, new) := by
  intro args H v new h
  unfold R at h
  split at h
  · rename_i k xs m a s
    simp only [Option.some.injEq, Prod.mk.injEq, decide_eq_true_eq] at h
    obtain ⟨⟨rfl, h1, h2, h3, h4, h5⟩, rfl, rfl⟩ := h
    obtain ⟨a, rfl⟩ : ∃ k : Nat, a = k := ⟨a.toNat, by omega⟩
    refine ⟨0, ?_⟩
    rw [go]
    unfold mdr.v.sv mdr.a.sv mdr.s.sv
    simp only [Int.toNat_natCast]
    by_cases c : k ≤ 1
    · simp -implicitDefEqProofs (disch := omega) only [take_one, set_one, decide_eq_true, decide_eq_false, IntWalk.i64_in, beqT, beqF, bneT, bneF, nat_succ, ← Int.natCast_mul, ← Int.natCast_add, Int.toNat_natCast, Int.zero_mul, Int.zero_add, Int.add_zero, Nat.zero_add, Nat.add_zero, Nat.zero_mul, List.length_singleton, List.length_append, List.length_nil, List.length_cons, List.take_length, List.drop_zero, List.replicate_zero, List.take_nil, List.nil_append, Nat.reduceBEq, Nat.reduceMul, Nat.reduceLeDiff, eq_self, and_self, true_and, and_true, decide_true, decide_false, Bool.and_self, Bool.or_self, Bool.and_true, Bool.true_and, Bool.and_false, Bool.false_and, Bool.or_true, Bool.true_or, Bool.or_false, Bool.false_or, Bool.not_true, Bool.not_false, cond_true, cond_false]
    · simp -implicitDefEqProofs (disch := omega) only [take_one, set_one, decide_eq_true, decide_eq_false, IntWalk.i64_in, beqT, beqF, bneT, bneF, nat_succ, ← Int.natCast_mul, ← Int.natCast_add, Int.toNat_natCast, Int.zero_mul, Int.zero_add, Int.add_zero, Nat.zero_add, Nat.add_zero, Nat.zero_mul, List.length_singleton, List.length_append, List.length_nil, List.length_cons, List.take_length, List.drop_zero, List.replicate_zero, List.take_nil, List.nil_append, Nat.reduceBEq, Nat.reduceMul, Nat.reduceLeDiff, eq_self, and_self, true_and, and_true, decide_true, decide_false, Bool.and_self, Bool.or_self, Bool.and_true, Bool.true_and, Bool.and_false, Bool.false_and, Bool.or_true, Bool.true_or, Bool.or_false, Bool.false_or, Bool.not_true, Bool.not_false, cond_true, cond_false]
  · cases h
theorem ok : EntWOk Try.prog ⟨37, R⟩ :=
  entw_ok mixed (A := (orcW [⟨75, srcNext.R⟩] [])) (orcW_ok (by simp only [List.mem_cons, List.not_mem_nil, or_false, forall_eq_or_imp, forall_eq]; exact srcNext.ok) (by simp)) Try.func37 (by kernel_rfl) (by kernel_rfl) (n := 20) (ts := [4]) (hd := hd0) (dr := Dr.std) (cut := none) (by kernel_rfl) (by kernel_rfl) (by kernel_rfl) run
end qPick

namespace R8Player
def dr : Nat → Dr := fun i => bif eqN i 10 then ⟨some [996, 3, 0, 2, 3, 1, 4, 5, 6, 7, 8], true⟩ else bif eqN i 6 then ⟨some [996, 3, 0, 2, 3, 1, 4, 5, 6, 7, 8], true⟩ else ⟨none, false⟩
def R : List AVal → Option (Bool × AVal × List Blk)
  | [.ro (.ints .u8 xs) mm 1, .int .i64 w, .int .i64 o, .int .i64 m] => some (decide (mm = xs.length ∧ mm ≤ 1000000 ∧ 1 ≤ w ∧ w ≤ 6 ∧ 1 ≤ o ∧ o ≤ 6 ∧ 1 ≤ m ∧ m ≤ 8), .agg [.ro (.ints .i64 (mdr.mo.sv xs w m.toNat)) m.toNat 1, .ro (.ints .i64 (mdr.ne.sv xs w o.toNat m.toNat)) (m.toNat * o.toNat) 1], [])
  | _ => none
def hd : Nat → Head := fun i => bif eqN i 0 then ⟨[998, 1, 2, 3, 8, 9, 10, 11], none⟩ else ⟨[998, 3, 8, 9, 10, 12], none⟩
noncomputable def L0 (f n : Nat) (s : State) := loopAt Try.prog (orcW [⟨37, qPick.R⟩] [⟨35, l00From.R⟩]) hd dr 0 f (bodyOf Try.f10) 0 [true, true, true, false, true] (retK Try.prog [.cell 8 30] 0 (some 0)) n s
noncomputable def L2 (f n : Nat) (s : State) := loopAt Try.prog (orcW [⟨37, qPick.R⟩] [⟨35, l00From.R⟩]) hd dr 0 f (bodyOf Try.f10) 0 [true, true, true, true, false, true] (retK Try.prog [.cell 8 30] 0 (some 0)) n s
theorem start (xs : List Int) (w o m : Int) (f : Nat) :
  runFn Try.prog (orcW [⟨37, qPick.R⟩] [⟨35, l00From.R⟩]) hd dr (some 0) f (bodyOf Try.f10) 45 [.cell 8 30] [.ro (.ints .u8 xs) xs.length 1, .int .i64 w, .int .i64 o, .int .i64 m] []
  = (bif true && (true && true || true && (false && true && true)) then L0 f f (mkS (45 : Nat) [((1 : Nat), AVal.int IntKind.i64 w), ((2 : Nat), AVal.int IntKind.i64 o), ((3 : Nat), AVal.int IntKind.i64 m), ((8 : Nat), AVal.ptr (0 : Nat) (0 : Nat) (0 : Nat)), ((9 : Nat), AVal.ptr (1 : Nat) (0 : Nat) (0 : Nat)), ((10 : Nat), AVal.ptr (2 : Nat) (0 : Nat) (0 : Nat)), ((11 : Nat), AVal.int IntKind.i64 (0 : Int))] [{ c := BC.cells [AVal.nils, AVal.nils], ver := (0 : Nat) }, { c := BC.cells [AVal.ro (Cont.ints IntKind.u8 xs) xs.length (1 : Nat), AVal.int IntKind.i64 (0 : Int), AVal.int IntKind.u64 (0 : Int)], ver := (0 : Nat) }, { c := BC.cells [AVal.nils, AVal.nils], ver := (0 : Nat) }]) else none) := by kernel_rfl
theorem round0a (xs : List Int) (w o m i a s : Int) (f n : Nat) :
  L0 f (n + 1) (mkS 45 [(1, .int .i64 w), (2, .int .i64 o), (3, .int .i64 m), (8, .ptr 0 0 0), (9, .ptr 1 0 0), (10, .ptr 2 0 0), (11, .int .i64 i)] [⟨.cells [.nils, .nils], 0⟩, ⟨.cells [.ro (.ints .u8 xs) xs.length 1, .int .i64 a, .int .u64 s], 0⟩, ⟨.cells [.nils, .nils], 0⟩])
  = (bif decide (i < m) then bif true && true then bif decide (xs.length = xs.length ∧ xs.length ≤ (1000000 : Nat) ∧ (0 : Int) ≤ a ∧ a ≤ (1000000 : Int) ∧ (1 : Int) ≤ w ∧ w ≤ (200 : Int)) && (true && (true && true)) then bif (1 : Nat) == (1 : Nat) && (1 : Nat) == (1 : Nat) && (true && true && (decide ((0 : Nat) < (List.take (1 : Nat) (List.drop (0 : Nat) ((List.replicate (1 : Nat) (0 : Int)).set (0 : Nat) (mdr.v.sv xs w a.toNat s)))).length) && (decide ((List.take (1 : Nat) (List.drop (0 : Nat) ((List.replicate (1 : Nat) (0 : Int)).set (0 : Nat) (mdr.v.sv xs w a.toNat s)))).length ≤ (4611686018427387904 : Nat)) && decide ((List.take (1 : Nat) (List.drop (0 : Nat) ((List.replicate (1 : Nat) (0 : Int)).set (0 : Nat) (mdr.v.sv xs w a.toNat s)))).length * (8 : Nat) ≤ (140737488355328 : Nat))))) then L0 f n (mkS (45 : Nat) [((1 : Nat), AVal.int IntKind.i64 w), ((2 : Nat), AVal.int IntKind.i64 o), ((3 : Nat), AVal.int IntKind.i64 m), ((8 : Nat), AVal.ptr (0 : Nat) (0 : Nat) (0 : Nat)), ((9 : Nat), AVal.ptr (1 : Nat) (0 : Nat) (0 : Nat)), ((10 : Nat), AVal.ptr (2 : Nat) (0 : Nat) (0 : Nat)), ((11 : Nat), AVal.int IntKind.i64 (IntKind.i64.wrap (i + (1 : Int))))] [{ c := BC.cells [AVal.nils, AVal.nils], ver := (0 : Nat) }, { c := BC.cells [AVal.ro (Cont.ints IntKind.u8 xs) xs.length (1 : Nat), AVal.int IntKind.i64 (↑(mdr.a.sv w a.toNat) : Int), AVal.int IntKind.u64 (mdr.s.sv xs w a.toNat s)], ver := (0 : Nat) }, { c := BC.cells [AVal.own (3 : Nat) (0 : Nat) (List.take (1 : Nat) (List.drop (0 : Nat) ((List.replicate (1 : Nat) (0 : Int)).set (0 : Nat) (mdr.v.sv xs w a.toNat s)))).length (0 : Nat) (1 : Nat), AVal.nils], ver := (0 : Nat) }, { c := BC.typ (Cont.ints IntKind.i64 (List.take (1 : Nat) (List.drop (0 : Nat) ((List.replicate (1 : Nat) (0 : Int)).set (0 : Nat) (mdr.v.sv xs w a.toNat s))))), ver := (0 : Nat) }]) else none else none else none else L2 f f (mkS (45 : Nat) [((3 : Nat), AVal.int IntKind.i64 m), ((8 : Nat), AVal.ptr (0 : Nat) (0 : Nat) (0 : Nat)), ((9 : Nat), AVal.ptr (1 : Nat) (0 : Nat) (0 : Nat)), ((10 : Nat), AVal.ptr (2 : Nat) (0 : Nat) (0 : Nat)), ((12 : Nat), AVal.int IntKind.i64 (IntKind.i64.wrap (m * o)))] [{ c := BC.cells [AVal.nils, AVal.nils], ver := (0 : Nat) }, { c := BC.cells [AVal.ro (Cont.ints IntKind.u8 xs) xs.length (1 : Nat), AVal.int IntKind.i64 a, AVal.int IntKind.u64 s], ver := (0 : Nat) }, { c := BC.cells [AVal.nils, AVal.nils], ver := (0 : Nat) }])) := by kernel_rfl
theorem round0 (xs : List Int) (w o m i a s : Int) (os : List Int) (q f n : Nat) :
  L0 f (n + 1) (mkS 45 [(1, .int .i64 w), (2, .int .i64 o), (3, .int .i64 m), (8, .ptr 0 0 0), (9, .ptr 1 0 0), (10, .ptr 2 0 0), (11, .int .i64 i)] [⟨.cells [.nils, .nils], 0⟩, ⟨.cells [.ro (.ints .u8 xs) xs.length 1, .int .i64 a, .int .u64 s], 0⟩, ⟨.cells [.own 3 0 q 0 1, .nils], 0⟩, ⟨.typ (.ints .i64 os), 0⟩])
  = (bif decide (i < m) then bif true && true then bif true && true then bif decide (xs.length = xs.length ∧ xs.length ≤ (1000000 : Nat) ∧ (0 : Int) ≤ a ∧ a ≤ (1000000 : Int) ∧ (1 : Int) ≤ w ∧ w ≤ (200 : Int)) && (true && (true && true)) then bif (1 : Nat) == (1 : Nat) && (1 : Nat) == (1 : Nat) && (true && (true && true) && (true && true && (decide (q + (List.take (1 : Nat) (List.drop (0 : Nat) ((List.replicate (1 : Nat) (0 : Int)).set (0 : Nat) (mdr.v.sv xs w a.toNat s)))).length ≤ (4611686018427387904 : Nat)) && decide ((q + (List.take (1 : Nat) (List.drop (0 : Nat) ((List.replicate (1 : Nat) (0 : Int)).set (0 : Nat) (mdr.v.sv xs w a.toNat s)))).length) * (8 : Nat) ≤ (140737488355328 : Nat))))) then L0 f n (mkS (45 : Nat) [((1 : Nat), AVal.int IntKind.i64 w), ((2 : Nat), AVal.int IntKind.i64 o), ((3 : Nat), AVal.int IntKind.i64 m), ((8 : Nat), AVal.ptr (0 : Nat) (0 : Nat) (0 : Nat)), ((9 : Nat), AVal.ptr (1 : Nat) (0 : Nat) (0 : Nat)), ((10 : Nat), AVal.ptr (2 : Nat) (0 : Nat) (0 : Nat)), ((11 : Nat), AVal.int IntKind.i64 (IntKind.i64.wrap (i + (1 : Int))))] [{ c := BC.cells [AVal.nils, AVal.nils], ver := (0 : Nat) }, { c := BC.cells [AVal.ro (Cont.ints IntKind.u8 xs) xs.length (1 : Nat), AVal.int IntKind.i64 (↑(mdr.a.sv w a.toNat) : Int), AVal.int IntKind.u64 (mdr.s.sv xs w a.toNat s)], ver := (0 : Nat) }, { c := BC.cells [AVal.own (3 : Nat) (0 : Nat) (q + (List.take (1 : Nat) (List.drop (0 : Nat) ((List.replicate (1 : Nat) (0 : Int)).set (0 : Nat) (mdr.v.sv xs w a.toNat s)))).length) (0 : Nat) (1 : Nat), AVal.nils], ver := (0 : Nat) }, { c := BC.typ (Cont.ints IntKind.i64 (List.take q os ++ List.take (1 : Nat) (List.drop (0 : Nat) ((List.replicate (1 : Nat) (0 : Int)).set (0 : Nat) (mdr.v.sv xs w a.toNat s))))), ver := (0 : Nat) }]) else none else none else none else none else L2 f f (mkS (45 : Nat) [((3 : Nat), AVal.int IntKind.i64 m), ((8 : Nat), AVal.ptr (0 : Nat) (0 : Nat) (0 : Nat)), ((9 : Nat), AVal.ptr (1 : Nat) (0 : Nat) (0 : Nat)), ((10 : Nat), AVal.ptr (2 : Nat) (0 : Nat) (0 : Nat)), ((12 : Nat), AVal.int IntKind.i64 (IntKind.i64.wrap (m * o)))] [{ c := BC.cells [AVal.nils, AVal.nils], ver := (0 : Nat) }, { c := BC.cells [AVal.ro (Cont.ints IntKind.u8 xs) xs.length (1 : Nat), AVal.int IntKind.i64 a, AVal.int IntKind.u64 s], ver := (0 : Nat) }, { c := BC.cells [AVal.own (3 : Nat) (0 : Nat) q (0 : Nat) (1 : Nat), AVal.nils], ver := (0 : Nat) }, { c := BC.typ (Cont.ints IntKind.i64 os), ver := (0 : Nat) }])) := by kernel_rfl
theorem round2a (xs : List Int) (m i a s : Int) (os : List Int) (q f n : Nat) :
  L2 f (n + 1) (mkS 45 [(3, .int .i64 m), (8, .ptr 0 0 0), (9, .ptr 1 0 0), (10, .ptr 2 0 0), (12, .int .i64 i)] [⟨.cells [.nils, .nils], 0⟩, ⟨.cells [.ro (.ints .u8 xs) xs.length 1, .int .i64 a, .int .u64 s], 0⟩, ⟨.cells [.own 3 0 q 0 1, .nils], 0⟩, ⟨.typ (.ints .i64 os), 0⟩])
  = (bif decide ((0 : Int) < i) then bif true && true then bif true && true then bif decide (xs.length = xs.length ∧ xs.length ≤ (1000000 : Nat) ∧ (0 : Int) ≤ a ∧ a ≤ (1000000 : Int) ∧ (1 : Int) ≤ m ∧ m ≤ (200 : Int)) && (true && (true && true)) then bif (1 : Nat) == (1 : Nat) && (1 : Nat) == (1 : Nat) && (true && true && (decide ((0 : Nat) < (List.take (1 : Nat) (List.drop (0 : Nat) ((List.replicate (1 : Nat) (0 : Int)).set (0 : Nat) (mdr.v.sv xs m a.toNat s)))).length) && (decide ((List.take (1 : Nat) (List.drop (0 : Nat) ((List.replicate (1 : Nat) (0 : Int)).set (0 : Nat) (mdr.v.sv xs m a.toNat s)))).length ≤ (4611686018427387904 : Nat)) && decide ((List.take (1 : Nat) (List.drop (0 : Nat) ((List.replicate (1 : Nat) (0 : Int)).set (0 : Nat) (mdr.v.sv xs m a.toNat s)))).length * (8 : Nat) ≤ (140737488355328 : Nat))))) then L2 f n (mkS (45 : Nat) [((3 : Nat), AVal.int IntKind.i64 m), ((8 : Nat), AVal.ptr (0 : Nat) (0 : Nat) (0 : Nat)), ((9 : Nat), AVal.ptr (1 : Nat) (0 : Nat) (0 : Nat)), ((10 : Nat), AVal.ptr (2 : Nat) (0 : Nat) (0 : Nat)), ((12 : Nat), AVal.int IntKind.i64 (IntKind.i64.wrap (i - (1 : Int))))] [{ c := BC.cells [AVal.nils, AVal.nils], ver := (0 : Nat) }, { c := BC.cells [AVal.ro (Cont.ints IntKind.u8 xs) xs.length (1 : Nat), AVal.int IntKind.i64 (↑(mdr.a.sv m a.toNat) : Int), AVal.int IntKind.u64 (mdr.s.sv xs m a.toNat s)], ver := (0 : Nat) }, { c := BC.cells [AVal.own (3 : Nat) (0 : Nat) q (0 : Nat) (1 : Nat), AVal.own (4 : Nat) (0 : Nat) (List.take (1 : Nat) (List.drop (0 : Nat) ((List.replicate (1 : Nat) (0 : Int)).set (0 : Nat) (mdr.v.sv xs m a.toNat s)))).length (0 : Nat) (1 : Nat)], ver := (0 : Nat) }, { c := BC.typ (Cont.ints IntKind.i64 os), ver := (0 : Nat) }, { c := BC.typ (Cont.ints IntKind.i64 (List.take (1 : Nat) (List.drop (0 : Nat) ((List.replicate (1 : Nat) (0 : Int)).set (0 : Nat) (mdr.v.sv xs m a.toNat s))))), ver := (0 : Nat) }]) else none else none else none else none else bif true && true && (true && true && true) then bif true && true && (true && true && true) && true then some (AVal.agg [AVal.ro (Cont.ints IntKind.i64 os) q (1 : Nat), AVal.nils], []) else none else none) := by kernel_rfl
theorem round2 (xs : List Int) (m i a s : Int) (os us : List Int) (q z f n : Nat) :
  L2 f (n + 1) (mkS 45 [(3, .int .i64 m), (8, .ptr 0 0 0), (9, .ptr 1 0 0), (10, .ptr 2 0 0), (12, .int .i64 i)] [⟨.cells [.nils, .nils], 0⟩, ⟨.cells [.ro (.ints .u8 xs) xs.length 1, .int .i64 a, .int .u64 s], 0⟩, ⟨.cells [.own 3 0 q 0 1, .own 4 0 z 0 1], 0⟩, ⟨.typ (.ints .i64 os), 0⟩, ⟨.typ (.ints .i64 us), 0⟩])
  = (bif decide ((0 : Int) < i) then bif true && true then bif true && true then bif decide (xs.length = xs.length ∧ xs.length ≤ (1000000 : Nat) ∧ (0 : Int) ≤ a ∧ a ≤ (1000000 : Int) ∧ (1 : Int) ≤ m ∧ m ≤ (200 : Int)) && (true && (true && true)) then bif (1 : Nat) == (1 : Nat) && (1 : Nat) == (1 : Nat) && (true && (true && true) && (true && true && (decide (z + (List.take (1 : Nat) (List.drop (0 : Nat) ((List.replicate (1 : Nat) (0 : Int)).set (0 : Nat) (mdr.v.sv xs m a.toNat s)))).length ≤ (4611686018427387904 : Nat)) && decide ((z + (List.take (1 : Nat) (List.drop (0 : Nat) ((List.replicate (1 : Nat) (0 : Int)).set (0 : Nat) (mdr.v.sv xs m a.toNat s)))).length) * (8 : Nat) ≤ (140737488355328 : Nat))))) then L2 f n (mkS (45 : Nat) [((3 : Nat), AVal.int IntKind.i64 m), ((8 : Nat), AVal.ptr (0 : Nat) (0 : Nat) (0 : Nat)), ((9 : Nat), AVal.ptr (1 : Nat) (0 : Nat) (0 : Nat)), ((10 : Nat), AVal.ptr (2 : Nat) (0 : Nat) (0 : Nat)), ((12 : Nat), AVal.int IntKind.i64 (IntKind.i64.wrap (i - (1 : Int))))] [{ c := BC.cells [AVal.nils, AVal.nils], ver := (0 : Nat) }, { c := BC.cells [AVal.ro (Cont.ints IntKind.u8 xs) xs.length (1 : Nat), AVal.int IntKind.i64 (↑(mdr.a.sv m a.toNat) : Int), AVal.int IntKind.u64 (mdr.s.sv xs m a.toNat s)], ver := (0 : Nat) }, { c := BC.cells [AVal.own (3 : Nat) (0 : Nat) q (0 : Nat) (1 : Nat), AVal.own (4 : Nat) (0 : Nat) (z + (List.take (1 : Nat) (List.drop (0 : Nat) ((List.replicate (1 : Nat) (0 : Int)).set (0 : Nat) (mdr.v.sv xs m a.toNat s)))).length) (0 : Nat) (1 : Nat)], ver := (0 : Nat) }, { c := BC.typ (Cont.ints IntKind.i64 os), ver := (0 : Nat) }, { c := BC.typ (Cont.ints IntKind.i64 (List.take z us ++ List.take (1 : Nat) (List.drop (0 : Nat) ((List.replicate (1 : Nat) (0 : Int)).set (0 : Nat) (mdr.v.sv xs m a.toNat s))))), ver := (0 : Nat) }]) else none else none else none else none else bif true && true && (true && true && true) then bif true && true && (true && true && true) && true then some (AVal.agg [AVal.ro (Cont.ints IntKind.i64 os) q (1 : Nat), AVal.ro (Cont.ints IntKind.i64 us) z (1 : Nat)], []) else none else none) := by kernel_rfl
theorem loop2 (xs : List Int) (w o : Int) (m f q : Nat) (os : List Int) (hx : xs.length ≤ 1000000) (hm : 1 ≤ m ∧ m ≤ 8) : ∀ (d n a : Nat) (s : Int) (us Z : List Int), d < n → a + d ≤ 1000 → us.length + d ≤ 100 → us ++ mdr.l.sv xs ((m : Nat) : Int) d a s = Z →
    L2 f n (mkS 45 [(3, .int .i64 ((m : Nat) : Int)), (8, .ptr 0 0 0), (9, .ptr 1 0 0), (10, .ptr 2 0 0), (12, .int .i64 ((d : Nat) : Int))] [⟨.cells [.nils, .nils], 0⟩, ⟨.cells [.ro (.ints .u8 xs) xs.length 1, .int .i64 ((a : Nat) : Int), .int .u64 s], 0⟩, ⟨.cells [.own 3 0 q 0 1, .own 4 0 us.length 0 1], 0⟩, ⟨.typ (.ints .i64 os), 0⟩, ⟨.typ (.ints .i64 us), 0⟩]) = some (.agg [.ro (.ints .i64 os) q 1, .ro (.ints .i64 Z) Z.length 1], []) := by
  intro d
  induction d with
  | zero =>
    intro n a s us Z hn ha hu hZ
    obtain ⟨n, rfl⟩ : ∃ q, n = q + 1 := ⟨n - 1, by omega⟩
    rw [mdr.l.sv, List.append_nil] at hZ
    subst hZ
    rw [round2]
    simp -implicitDefEqProofs (disch := omega) only [take_one, set_one, decide_eq_true, decide_eq_false, IntWalk.i64_in, beqT, beqF, bneT, bneF, nat_succ, ← Int.natCast_mul, ← Int.natCast_add, Int.toNat_natCast, Int.zero_mul, Int.zero_add, Int.add_zero, Nat.zero_add, Nat.add_zero, Nat.zero_mul, List.length_singleton, List.length_append, List.length_nil, List.length_cons, List.take_length, List.drop_zero, List.replicate_zero, List.take_nil, List.nil_append, Nat.reduceBEq, Nat.reduceMul, Nat.reduceLeDiff, eq_self, and_self, true_and, and_true, decide_true, decide_false, Bool.and_self, Bool.or_self, Bool.and_true, Bool.true_and, Bool.and_false, Bool.false_and, Bool.or_true, Bool.true_or, Bool.or_false, Bool.false_or, Bool.not_true, Bool.not_false, cond_true, cond_false]
  | succ d ih =>
    intro n a s us Z hn ha hu hZ
    obtain ⟨n, rfl⟩ : ∃ q, n = q + 1 := ⟨n - 1, by omega⟩
    have ha1 := mdr.a_le ((m : Nat) : Int) a
    have g := ih n (mdr.a.sv ((m : Nat) : Int) a) (mdr.s.sv xs ((m : Nat) : Int) a s) (us ++ [mdr.v.sv xs ((m : Nat) : Int) a s]) Z (by omega) (by omega) (by rw [List.length_append, List.length_singleton]; omega) (by rw [List.append_assoc]; exact hZ)
    rw [List.length_append, List.length_singleton] at g
    have tk : us.take us.length = us := List.take_of_length_le (Nat.le_refl _)
    have wd : IntKind.i64.wrap (((d + 1 : Nat) : Int) - 1) = ((d : Nat) : Int) := by rw [IntWalk.i64_in _ (by omega)]; omega
    rw [round2]
    simp -implicitDefEqProofs (disch := omega) only [tk, wd, take_one, set_one, decide_eq_true, decide_eq_false, IntWalk.i64_in, beqT, beqF, bneT, bneF, nat_succ, ← Int.natCast_mul, ← Int.natCast_add, Int.toNat_natCast, Int.zero_mul, Int.zero_add, Int.add_zero, Nat.zero_add, Nat.add_zero, Nat.zero_mul, List.length_singleton, List.length_append, List.length_nil, List.length_cons, List.take_length, List.drop_zero, List.replicate_zero, List.take_nil, List.nil_append, Nat.reduceBEq, Nat.reduceMul, Nat.reduceLeDiff, eq_self, and_self, true_and, and_true, decide_true, decide_false, Bool.and_self, Bool.or_self, Bool.and_true, Bool.true_and, Bool.and_false, Bool.false_and, Bool.or_true, Bool.true_or, Bool.or_false, Bool.false_or, Bool.not_true, Bool.not_false, cond_true, cond_false]
    exact g
theorem loop0 (xs : List Int) (w o : Int) (m f : Nat) (hx : xs.length ≤ 1000000) (hw : 1 ≤ w ∧ w ≤ 6) (hm : 1 ≤ m ∧ m ≤ 8) (O : Nat) (ho : o = ((O : Nat) : Int)) (ho2 : 1 ≤ O ∧ O ≤ 6) : ∀ (d i n a : Nat) (s : Int) (os Z : List Int), i + d = m → d < n → a + d ≤ 500 → os.length = i → os ++ mdr.l.sv xs w d a s = Z →
    L0 f n (mkS 45 [(1, .int .i64 w), (2, .int .i64 o), (3, .int .i64 ((m : Nat) : Int)), (8, .ptr 0 0 0), (9, .ptr 1 0 0), (10, .ptr 2 0 0), (11, .int .i64 ((i : Nat) : Int))] [⟨.cells [.nils, .nils], 0⟩, ⟨.cells [.ro (.ints .u8 xs) xs.length 1, .int .i64 ((a : Nat) : Int), .int .u64 s], 0⟩, ⟨.cells [.own 3 0 i 0 1, .nils], 0⟩, ⟨.typ (.ints .i64 os), 0⟩]) = L2 f f (mkS 45 [(3, .int .i64 ((m : Nat) : Int)), (8, .ptr 0 0 0), (9, .ptr 1 0 0), (10, .ptr 2 0 0), (12, .int .i64 (((m * O) : Nat) : Int))] [⟨.cells [.nils, .nils], 0⟩, ⟨.cells [.ro (.ints .u8 xs) xs.length 1, .int .i64 (((mdr.la.sv w d a) : Nat) : Int), .int .u64 (mdr.ls.sv xs w d a s)], 0⟩, ⟨.cells [.own 3 0 m 0 1, .nils], 0⟩, ⟨.typ (.ints .i64 Z), 0⟩]) := by
  subst ho
  intro d
  induction d with
  | zero =>
    intro i n a s os Z hi hn ha hl hZ
    obtain ⟨n, rfl⟩ : ∃ q, n = q + 1 := ⟨n - 1, by omega⟩
    obtain rfl : i = m := by omega
    rw [mdr.l.sv, List.append_nil] at hZ
    subst hZ
    have h48 : i * O ≤ 8 * 6 := Nat.mul_le_mul hm.2 ho2.2
    rw [round0]
    simp -implicitDefEqProofs (disch := omega) only [take_one, set_one, decide_eq_true, decide_eq_false, IntWalk.i64_in, beqT, beqF, bneT, bneF, nat_succ, ← Int.natCast_mul, ← Int.natCast_add, Int.toNat_natCast, Int.zero_mul, Int.zero_add, Int.add_zero, Nat.zero_add, Nat.add_zero, Nat.zero_mul, List.length_singleton, List.length_append, List.length_nil, List.length_cons, List.take_length, List.drop_zero, List.replicate_zero, List.take_nil, List.nil_append, Nat.reduceBEq, Nat.reduceMul, Nat.reduceLeDiff, eq_self, and_self, true_and, and_true, decide_true, decide_false, Bool.and_self, Bool.or_self, Bool.and_true, Bool.true_and, Bool.and_false, Bool.false_and, Bool.or_true, Bool.true_or, Bool.or_false, Bool.false_or, Bool.not_true, Bool.not_false, cond_true, cond_false]
    rfl
  | succ d ih =>
    intro i n a s os Z hi hn ha hl hZ
    obtain ⟨n, rfl⟩ : ∃ q, n = q + 1 := ⟨n - 1, by omega⟩
    have ha1 := mdr.a_le w a
    have g := ih (i + 1) n (mdr.a.sv w a) (mdr.s.sv xs w a s) (os ++ [mdr.v.sv xs w a s]) Z (by omega) (by omega) (by omega) (by rw [List.length_append, List.length_singleton, hl]) (by rw [List.append_assoc]; exact hZ)
    have tk : os.take i = os := List.take_of_length_le (by omega)
    rw [round0]
    simp -implicitDefEqProofs (disch := omega) only [tk, take_one, set_one, decide_eq_true, decide_eq_false, IntWalk.i64_in, beqT, beqF, bneT, bneF, nat_succ, ← Int.natCast_mul, ← Int.natCast_add, Int.toNat_natCast, Int.zero_mul, Int.zero_add, Int.add_zero, Nat.zero_add, Nat.add_zero, Nat.zero_mul, List.length_singleton, List.length_append, List.length_nil, List.length_cons, List.take_length, List.drop_zero, List.replicate_zero, List.take_nil, List.nil_append, Nat.reduceBEq, Nat.reduceMul, Nat.reduceLeDiff, eq_self, and_self, true_and, and_true, decide_true, decide_false, Bool.and_self, Bool.or_self, Bool.and_true, Bool.true_and, Bool.and_false, Bool.false_and, Bool.or_true, Bool.true_or, Bool.or_false, Bool.false_or, Bool.not_true, Bool.not_false, cond_true, cond_false]
    exact g
theorem run : ∀ args v new, R args = some (true, v, new) → ∃ fuel, runFn Try.prog (orcW [⟨37, qPick.R⟩] [⟨35, l00From.R⟩]) hd dr (some 0) fuel (bodyOf Try.f10) 45 [.cell 8 30] args [] = some (v, new) := by
  intro args v new h
  unfold R at h
  split at h
  · rename_i xs mm w o m
    simp only [Option.some.injEq, Prod.mk.injEq, decide_eq_true_eq] at h
    obtain ⟨⟨rfl, h1, h2, h3, h4, h5, h6, h7⟩, rfl, rfl⟩ := h
    obtain ⟨m, rfl⟩ : ∃ k : Nat, m = k := ⟨m.toNat, by omega⟩
    obtain ⟨o, rfl⟩ : ∃ k : Nat, o = k := ⟨o.toNat, by omega⟩
    obtain ⟨F, hF⟩ : ∃ F : Nat, F = 100 := ⟨100, rfl⟩
    refine ⟨F, ?_⟩
    obtain ⟨e, rfl⟩ : ∃ k, m = k + 1 := ⟨m - 1, by omega⟩
    obtain ⟨F', hF'⟩ : ∃ F', F = F' + 1 := ⟨F - 1, by omega⟩
    have hl := mdr.mo_len xs w (e + 1)
    have hl2 := mdr.ne_len xs w o (e + 1)
    have h48 : (e + 1) * o ≤ 8 * 6 := Nat.mul_le_mul (by omega) (by omega)
    have h10 : 1 ≤ (e + 1) * o := Nat.mul_le_mul (show 1 ≤ e + 1 by omega) (show 1 ≤ o by omega)
    have ha1 := mdr.a_le w 0
    have hal := mdr.la_le w e (mdr.a.sv w 0)
    have g0 := loop0 xs w o (e + 1) F h1 ⟨h2, h3⟩ ⟨by omega, by omega⟩ o rfl ⟨by omega, by omega⟩ e 1 F' (mdr.a.sv w 0) (mdr.s.sv xs w 0 0) [mdr.v.sv xs w 0 0] (mdr.mo.sv xs w (e + 1)) (by omega) (by omega) (by omega) rfl rfl
    obtain ⟨N, hN⟩ : ∃ N, (e + 1) * o = N + 1 := ⟨(e + 1) * o - 1, by omega⟩
    have ha2 := mdr.a_le (((e + 1 : Nat) : Nat) : Int) (mdr.la.sv w e (mdr.a.sv w 0))
    have g2 := loop2 xs w o (e + 1) F (e + 1) (mdr.mo.sv xs w (e + 1)) h1 ⟨by omega, by omega⟩ N F' (mdr.a.sv (((e + 1 : Nat) : Nat) : Int) (mdr.la.sv w e (mdr.a.sv w 0))) (mdr.s.sv xs (((e + 1 : Nat) : Nat) : Int) (mdr.la.sv w e (mdr.a.sv w 0)) (mdr.ls.sv xs w e (mdr.a.sv w 0) (mdr.s.sv xs w 0 0))) [mdr.v.sv xs (((e + 1 : Nat) : Nat) : Int) (mdr.la.sv w e (mdr.a.sv w 0)) (mdr.ls.sv xs w e (mdr.a.sv w 0) (mdr.s.sv xs w 0 0))] (mdr.ne.sv xs w o (e + 1)) (by omega) (by omega) (by simp only [List.length_singleton]; omega) (by unfold mdr.ne.sv; rw [hN]; rfl)
    rw [hl2] at g2
    have wN : IntKind.i64.wrap (((N + 1 : Nat) : Int) - 1) = ((N : Nat) : Int) := by rw [IntWalk.i64_in _ (by omega)]; omega
    rw [start]
    simp only [Int.toNat_natCast, hN] at g0 g2 ⊢
    have z0 : Int.toNat 0 = 0 := rfl
    simp -implicitDefEqProofs (disch := omega) only [z0, take_one, set_one, decide_eq_true, decide_eq_false, IntWalk.i64_in, beqT, beqF, bneT, bneF, nat_succ, ← Int.natCast_mul, ← Int.natCast_add, Int.toNat_natCast, Int.zero_mul, Int.zero_add, Int.add_zero, Nat.zero_add, Nat.add_zero, Nat.zero_mul, List.length_singleton, List.length_append, List.length_nil, List.length_cons, List.take_length, List.drop_zero, List.replicate_zero, List.take_nil, List.nil_append, Nat.reduceBEq, Nat.reduceMul, Nat.reduceLeDiff, eq_self, and_self, true_and, and_true, decide_true, decide_false, Bool.and_self, Bool.or_self, Bool.and_true, Bool.true_and, Bool.and_false, Bool.false_and, Bool.or_true, Bool.true_or, Bool.or_false, Bool.false_or, Bool.not_true, Bool.not_false, cond_true, cond_false]
    rw [hF', round0a, z0]
    rw [hF'] at g0 g2
    simp -implicitDefEqProofs (disch := omega) only [z0, take_one, set_one, decide_eq_true, decide_eq_false, IntWalk.i64_in, beqT, beqF, bneT, bneF, nat_succ, ← Int.natCast_mul, ← Int.natCast_add, Int.toNat_natCast, Int.zero_mul, Int.zero_add, Int.add_zero, Nat.zero_add, Nat.add_zero, Nat.zero_mul, List.length_singleton, List.length_append, List.length_nil, List.length_cons, List.take_length, List.drop_zero, List.replicate_zero, List.take_nil, List.nil_append, Nat.reduceBEq, Nat.reduceMul, Nat.reduceLeDiff, eq_self, and_self, true_and, and_true, decide_true, decide_false, Bool.and_self, Bool.or_self, Bool.and_true, Bool.true_and, Bool.and_false, Bool.false_and, Bool.or_true, Bool.true_or, Bool.or_false, Bool.false_or, Bool.not_true, Bool.not_false, cond_true, cond_false]
    refine g0.trans ?_
    rw [round2a]
    simp -implicitDefEqProofs (disch := omega) only [wN, take_one, set_one, decide_eq_true, decide_eq_false, IntWalk.i64_in, beqT, beqF, bneT, bneF, nat_succ, ← Int.natCast_mul, ← Int.natCast_add, Int.toNat_natCast, Int.zero_mul, Int.zero_add, Int.add_zero, Nat.zero_add, Nat.add_zero, Nat.zero_mul, List.length_singleton, List.length_append, List.length_nil, List.length_cons, List.take_length, List.drop_zero, List.replicate_zero, List.take_nil, List.nil_append, Nat.reduceBEq, Nat.reduceMul, Nat.reduceLeDiff, eq_self, and_self, true_and, and_true, decide_true, decide_false, Bool.and_self, Bool.or_self, Bool.and_true, Bool.true_and, Bool.and_false, Bool.false_and, Bool.or_true, Bool.true_or, Bool.or_false, Bool.false_or, Bool.not_true, Bool.not_false, cond_true, cond_false]
    exact g2
  · cases h
theorem ok : EntOk Try.prog ⟨10, R⟩ :=
  ent_okA mixed (A := (orcW [⟨37, qPick.R⟩] [⟨35, l00From.R⟩])) (orcW_ok (by simp only [List.mem_cons, List.not_mem_nil, or_false, forall_eq_or_imp, forall_eq]; exact qPick.ok) (by simp only [List.mem_cons, List.not_mem_nil, or_false, forall_eq_or_imp, forall_eq]; exact l00From.ok)) Try.func10 (by kernel_rfl) (by kernel_rfl) (n := 45) (ts := [.cell 8 30]) (hd := hd) (dr := dr) (cut := (some 0)) (by kernel_rfl) (by kernel_rfl) (by kernel_rfl) run
end R8Player

end Go.Proofs.Ytgblgofmdhekiaa.Ab
