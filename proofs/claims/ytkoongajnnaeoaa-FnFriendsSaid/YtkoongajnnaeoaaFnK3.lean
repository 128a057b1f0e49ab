/-
  Functions: gives that are drawn.
-/
import Derived.Test.YtkoongajnnaeoaaFnK1
import Derived.Test.YtkoongajnnaeoaaFnHD
import Derived.Test.YtkoongajnnaeoaaFnUM
import Derived.Test.YtkoongajnnaeoaaFnU1
import Derived.Test.YtkoongajnnaeoaaAbWk
import Derived.Test.YtkoongajnnaeoaaFnK2
import Derived.Test.YtkoongajnnaeoaaFnBy
namespace Go.Proofs.Ytkoongajnnaeoaa.Ab
open Go
set_option linter.unusedVariables false
set_option linter.unusedSimpArgs false
set_option maxRecDepth 100000

-- numbers
namespace gvs
def gl (xs : List Int) (i : Nat) : Nat → Nat → Nat → Int → List Int → List Int × Nat × Int
  | 0, _, a, s, os => (os, a, s)
  | d + 1, k, a, s, os => bif (((k : Nat) : Int) != ((i : Nat) : Int)) then gl xs i d (k + 1) (a + 1) (r8.seed.sv xs a s) (bif (r8.nx.sv xs a s).tmod 3 == 0 then os ++ [((k : Nat) : Int)] else os) else gl xs i d (k + 1) a s os
/-- Gives drawn. -/
def gd.sv (xs : List Int) (n : Nat) : Nat → Nat → Nat → Int → List (List Int) → List (List Int)
  | 0, _, _, _, W => W
  | d + 1, i, a, s, W => gd.sv xs n d (i + 1) (gl xs i n 0 a s []).2.1 (gl xs i n 0 a s []).2.2 (W ++ [(gl xs i n 0 a s []).1])
structure RI (i k : Nat) (os : List Int) : Prop where
  ran : ∀ x ∈ os, 0 ≤ x ∧ x < (k : Int)
  ne : ∀ x ∈ os, x ≠ (i : Int)
  asc : ∀ j, 0 < j → j < os.length → gz os (j - 1) < gz os j
theorem RI.up {i k : Nat} {os : List Int} (h : RI i k os) : RI i (k + 1) os := ⟨fun x hx => by have := h.ran x hx; omega, h.ne, h.asc⟩
theorem RI.add {i k : Nat} {os : List Int} (h : RI i k os) (hne : k ≠ i) : RI i (k + 1) (os ++ [((k : Nat) : Int)]) := by
  refine ⟨fun x hx => ?_, fun x hx => ?_, fun j h0 hj => ?_⟩
  · rcases List.mem_append.1 hx with hx | hx
    · have := h.ran x hx; omega
    · rw [List.mem_singleton] at hx; omega
  · rcases List.mem_append.1 hx with hx | hx
    · exact h.ne x hx
    · rw [List.mem_singleton] at hx; omega
  · rw [List.length_append, List.length_singleton] at hj
    rcases Nat.lt_or_ge j os.length with c | c
    · rw [gz_app (by omega), gz_app c]
      exact h.asc j h0 c
    · obtain rfl : j = os.length := by omega
      rw [gz_app (by omega), gz_app_end]
      exact (h.ran _ (gz_mem (by omega))).2
theorem gl_ok (xs : List Int) (i : Nat) : ∀ (d k a : Nat) (s : Int) (os : List Int), RI i k os → RI i (k + d) (gl xs i d k a s os).1 ∧ (gl xs i d k a s os).2.1 ≤ a + d
  | 0, k, a, s, os, h => ⟨h, Nat.le_refl _⟩
  | d + 1, k, a, s, os, h => by
    rw [gl, show k + (d + 1) = k + 1 + d by omega]
    by_cases c : k = i
    · have e : (((k : Nat) : Int) != ((i : Nat) : Int)) = false := by simp [c]
      rw [e, cond_false]
      obtain ⟨h1, h2⟩ := gl_ok xs i d (k + 1) a s os h.up
      exact ⟨h1, by omega⟩
    · have e : (((k : Nat) : Int) != ((i : Nat) : Int)) = true := by simp; omega
      rw [e, cond_true]
      cases (r8.nx.sv xs a s).tmod 3 == 0
      · rw [cond_false]
        obtain ⟨h1, h2⟩ := gl_ok xs i d (k + 1) (a + 1) (r8.seed.sv xs a s) os h.up
        exact ⟨h1, by omega⟩
      · rw [cond_true]
        obtain ⟨h1, h2⟩ := gl_ok xs i d (k + 1) (a + 1) (r8.seed.sv xs a s) _ (h.add c)
        exact ⟨h1, by omega⟩
theorem RI.nil (i k : Nat) : RI i k [] := ⟨fun x hx => (by cases hx), fun x hx => (by cases hx), fun j _ hj => (by simp at hj)⟩
theorem RI.le {i k : Nat} {os : List Int} (h : RI i k os) : os.length ≤ k := by
  rcases Nat.lt_or_ge k os.length with c | c
  · have g := asc_ge h.asc (fun x hx => (h.ran x hx).1) k c
    have := (h.ran _ (gz_mem c)).2
    omega
  · exact c
theorem gr_app {W : List (List Int)} {r : List Int} {j : Nat} (h : j < W.length) : gr (W ++ [r]) j = gr W j := by
  rw [gr_eq (by rw [List.length_append]; omega), gr_eq h, List.getElem_append_left]
theorem gr_app_end {W : List (List Int)} {r : List Int} : gr (W ++ [r]) W.length = r := by
  rw [gr_eq (by simp)]
  simp
theorem gd_ok (xs : List Int) (n : Nat) : ∀ (d i a : Nat) (s : Int) (W : List (List Int)), W.length = i → (∀ j, j < i → RI j n (gr W j)) → (gd.sv xs n d i a s W).length = i + d ∧ ∀ j, j < i + d → RI j n (gr (gd.sv xs n d i a s W) j)
  | 0, i, a, s, W, hl, h => ⟨hl, h⟩
  | d + 1, i, a, s, W, hl, h => by
    rw [gd.sv, show i + (d + 1) = i + 1 + d by omega]
    obtain ⟨g1, _⟩ := gl_ok xs i n 0 a s [] (RI.nil i 0)
    rw [Nat.zero_add] at g1
    refine gd_ok xs n d (i + 1) _ _ _ (by rw [List.length_append, hl]; rfl) fun j hj => ?_
    rcases Nat.lt_or_ge j i with c | c
    · rw [gr_app (by omega)]; exact h j c
    · obtain rfl : j = i := by omega
      subst hl
      rw [gr_app_end]
      exact g1
theorem gd_sp (xs : List Int) {n : Nat} (h1 : 1 ≤ n) (h8 : n ≤ 8) {L : Int} (h2 : 2 ≤ L) (h4 : L ≤ 4) : gv.sp (gd.sv xs n n 0 0 0 []) L = true ∧ (gd.sv xs n n 0 0 0 []).length = n := by
  obtain ⟨hl, h⟩ := gd_ok xs n n 0 0 0 [] rfl (fun j hj => by omega)
  rw [Nat.zero_add] at hl h
  refine ⟨?_, hl⟩
  rw [← gp_eq]
  unfold gp.sp
  rw [hl, Bool.and_eq_true, alf_iff]
  refine ⟨fun j _ hj => ?_, ?_⟩
  · have r := h j (by omega)
    exact gc_iff.2 ⟨⟨r.ran, fun k hk => r.ne _ (gz_mem hk)⟩, r.asc⟩
  · simp only [Bool.and_eq_true, decide_eq_true_eq]
    omega
end gvs

namespace bOne
def R : List AVal → Heap → Option (Bool × AVal × Heap)
  | [.ptr 0 0 0, .int .i64 k], [⟨.cells [.ro (.ints .u8 xs) m 1, .int .i64 a, .int .u64 s], 0⟩] => some (decide (m = xs.length ∧ m ≤ 2000000 ∧ 0 ≤ a ∧ a ≤ 1000000 ∧ 2 ≤ k ∧ k ≤ 200), .bool ((r8.nx.sv xs a.toNat s).tmod k == 0), [⟨.cells [.ro (.ints .u8 xs) m 1, .int .i64 (a + 1), .int .u64 (r8.seed.sv xs a.toNat s)], 0⟩])
  | _, _ => none
theorem go (xs : List Int) (a s k : Int) :
  runFn Try.prog (orcW [⟨65, bPick.R⟩] []) hd0 Dr.std none 0 (bodyOf Try.f113) 9 [4] [.ptr 0 0 0, .int .i64 k] [⟨.cells [.ro (.ints .u8 xs) xs.length 1, .int .i64 a, .int .u64 s], 0⟩]
  = (bif true && true then bif decide (xs.length = xs.length ∧ xs.length ≤ (2000000 : Nat) ∧ (0 : Int) ≤ a ∧ a ≤ (1000000 : Int) ∧ (1 : Int) ≤ k ∧ k ≤ (200 : Int)) && (true && (true && true)) then some (AVal.bool ((r8.nx.sv xs a.toNat s).tmod k == (0 : Int)), [{ c := BC.cells [AVal.ro (Cont.ints IntKind.u8 xs) xs.length (1 : Nat), AVal.int IntKind.i64 (bif decide (k ≤ (1 : Int)) then a else a + (1 : Int)), AVal.int IntKind.u64 (bif decide (k ≤ (1 : Int)) then s else r8.seed.sv xs a.toNat s)], ver := (0 : Nat) }]) else none else none) := by kernel_rfl
theorem run : ∀ args H v new, R args H = some (true, v, new) → ∃ fuel, runFn Try.prog (orcW [⟨65, bPick.R⟩] []) hd0 Dr.std none fuel (bodyOf Try.f113) 9 [4] args H = some (v, new) := by
  intro args H v new h
  unfold R at h
  split at h
  · rename_i k xs m a s
    simp only [Option.some.injEq, Prod.mk.injEq, decide_eq_true_eq] at h
    obtain ⟨⟨rfl, h1, h2, h3, h4, h5⟩, rfl, rfl⟩ := h
    refine ⟨0, ?_⟩
    rw [go]
    simp -implicitDefEqProofs (disch := omega) only [take_one, set_one, decide_eq_true, decide_eq_false, IntWalk.i64_in, beqT, beqF, bneT, bneF, nat_succ, ← Int.natCast_mul, ← Int.natCast_add, Int.toNat_natCast, Int.zero_mul, Int.zero_add, Int.add_zero, Nat.zero_add, Nat.add_zero, Nat.zero_mul, List.length_singleton, List.length_append, List.length_nil, List.length_cons, List.take_length, List.drop_zero, List.replicate_zero, List.take_nil, List.nil_append, Nat.reduceBEq, Nat.reduceMul, Nat.reduceLeDiff, eq_self, and_self, true_and, and_true, decide_true, decide_false, Bool.and_self, Bool.or_self, Bool.and_true, Bool.true_and, Bool.and_false, Bool.false_and, Bool.or_true, Bool.true_or, Bool.or_false, Bool.false_or, Bool.not_true, Bool.not_false, cond_true, cond_false]
  · cases h
theorem ok : EntWOk Try.prog ⟨113, R⟩ :=
  entw_ok mixed (A := (orcW [⟨65, bPick.R⟩] [])) (orcW_ok (by simp only [List.mem_cons, List.not_mem_nil, or_false, forall_eq_or_imp, forall_eq]; exact bPick.ok) (by simp)) Try.func113 (by kernel_rfl) (by kernel_rfl) (n := 9) (ts := [4]) (hd := hd0) (dr := Dr.std) (cut := none) (by kernel_rfl) (by kernel_rfl) (by kernel_rfl) run
end bOne

namespace B10Gives
def dr : Nat → Dr := fun i => bif eqN i 12 then ⟨some [997, 2], false⟩ else ⟨none, false⟩
def R : List AVal → Option (Bool × AVal × List Blk)
  | [.ro (.ints .u8 xs) m 1, .int .i64 n] => some (decide (m = xs.length ∧ m ≤ 2000000 ∧ 1 ≤ n ∧ n ≤ 8), .ro (.rows .i64 (gvs.gd.sv xs n.toNat n.toNat 0 0 0 [])) n.toNat 1, [])
  | _ => none
def hd : Nat → Head := fun i => bif eqN i 0 then ⟨[998, 1, 5, 6, 7], none⟩ else ⟨[998, 1, 5, 6, 7, 8, 9], none⟩
noncomputable def L0 (f n : Nat) (s : State) := loopAt Try.prog (orcW [⟨113, bOne.R⟩] [⟨63, l00From.R⟩]) hd dr 0 f (bodyOf Try.f51) 0 [true, true, true, false, true] (retK Try.prog [4] 0 (some 0)) n s
noncomputable def L2 (f n n2 : Nat) (s : State) := loopAt Try.prog (orcW [⟨113, bOne.R⟩] [⟨63, l00From.R⟩]) hd dr 0 f (bodyAt (bodyOf Try.f51) [true, true, true, false, true]) (curAt (bodyOf Try.f51) 0 [true, true, true, false, true]) [true, false, true, false, true] (iterK (normE 0 (hd (curAt (bodyOf Try.f51) 0 [true, true, true, false, true]))) (L0 f n) (contAt Try.prog (orcW [⟨113, bOne.R⟩] [⟨63, l00From.R⟩]) hd dr 0 f (bodyOf Try.f51) 0 [true, true, true, false, true] (retK Try.prog [4] 0 (some 0)))) n2 s
theorem start (xs : List Int) (n : Nat) (f : Nat) :
  runFn Try.prog (orcW [⟨113, bOne.R⟩] [⟨63, l00From.R⟩]) hd dr (some 0) f (bodyOf Try.f51) 40 [4] [.ro (.ints .u8 xs) xs.length 1, .int .i64 ((n : Nat) : Int)] []
  = (bif true && (true && true || true && (false && true && true)) then L0 f f (mkS (40 : Nat) [((1 : Nat), AVal.int IntKind.i64 (↑n : Int)), ((5 : Nat), AVal.ptr (0 : Nat) (0 : Nat) (0 : Nat)), ((6 : Nat), AVal.own (1 : Nat) (0 : Nat) (0 : Nat) (0 : Nat) (1 : Nat)), ((7 : Nat), AVal.int IntKind.i64 (0 : Int))] [{ c := BC.cells [AVal.ro (Cont.ints IntKind.u8 xs) xs.length (1 : Nat), AVal.int IntKind.i64 (0 : Int), AVal.int IntKind.u64 (0 : Int)], ver := (0 : Nat) }, { c := BC.typ (Cont.rows IntKind.i64 (List.replicate (0 : Nat) [])), ver := (0 : Nat) }]) else none) := by kernel_rfl
theorem round0 (xs : List Int) (W : List (List Int)) (n q i : Nat) (a s : Int) (f c : Nat) :
  L0 f (c + 1) (mkS 40 [(1, .int .i64 ((n : Nat) : Int)), (5, .ptr 0 0 0), (6, .own 1 0 q 0 1), (7, .int .i64 ((i : Nat) : Int))] [⟨.cells [.ro (.ints .u8 xs) xs.length 1, .int .i64 a, .int .u64 s], 0⟩, ⟨.typ (.rows .i64 W), 0⟩])
  = (bif decide ((↑i : Int) < (↑n : Int)) then L2 f c f (mkS (40 : Nat) [((1 : Nat), AVal.int IntKind.i64 (↑n : Int)), ((5 : Nat), AVal.ptr (0 : Nat) (0 : Nat) (0 : Nat)), ((6 : Nat), AVal.own (1 : Nat) (0 : Nat) q (0 : Nat) (1 : Nat)), ((7 : Nat), AVal.int IntKind.i64 (↑i : Int)), ((8 : Nat), AVal.own (2 : Nat) (0 : Nat) (0 : Nat) (0 : Nat) (1 : Nat)), ((9 : Nat), AVal.int IntKind.i64 (0 : Int))] [{ c := BC.cells [AVal.ro (Cont.ints IntKind.u8 xs) xs.length (1 : Nat), AVal.int IntKind.i64 a, AVal.int IntKind.u64 s], ver := (0 : Nat) }, { c := BC.typ (Cont.rows IntKind.i64 W), ver := (0 : Nat) }, { c := BC.typ (Cont.ints IntKind.i64 (List.replicate (0 : Nat) (0 : Int))), ver := (0 : Nat) }]) else some (AVal.ro (Cont.rows IntKind.i64 W) q (1 : Nat), [])) := by kernel_rfl
theorem round2 (xs os : List Int) (W : List (List Int)) (n q p i k : Nat) (a s : Int) (f c0 c : Nat) :
  L2 f c0 (c + 1) (mkS 40 [(1, .int .i64 ((n : Nat) : Int)), (5, .ptr 0 0 0), (6, .own 1 0 q 0 1), (7, .int .i64 ((i : Nat) : Int)), (8, .own 2 0 p 0 1), (9, .int .i64 ((k : Nat) : Int))] [⟨.cells [.ro (.ints .u8 xs) xs.length 1, .int .i64 a, .int .u64 s], 0⟩, ⟨.typ (.rows .i64 W), 0⟩, ⟨.typ (.ints .i64 os), 0⟩])
  = (bif decide ((↑k : Int) < (↑n : Int)) then bif (↑k : Int) != (↑i : Int) then bif decide (xs.length = xs.length ∧ xs.length ≤ (2000000 : Nat) ∧ (0 : Int) ≤ a ∧ a ≤ (1000000 : Int) ∧ (2 : Int) ≤ (3 : Int) ∧ (3 : Int) ≤ (200 : Int)) && (true && (true && true)) then bif (r8.nx.sv xs a.toNat s).tmod (3 : Int) == (0 : Int) then bif (1 : Nat) == (1 : Nat) && (1 : Nat) == (1 : Nat) && (true && (true && true) && (true && true && (decide (p + (List.take (1 : Nat) (List.drop (0 : Nat) ((List.replicate (1 : Nat) (0 : Int)).set (0 : Nat) (↑k : Int)))).length ≤ (4611686018427387904 : Nat)) && decide ((p + (List.take (1 : Nat) (List.drop (0 : Nat) ((List.replicate (1 : Nat) (0 : Int)).set (0 : Nat) (↑k : Int)))).length) * (8 : Nat) ≤ (140737488355328 : Nat))))) then L2 f c0 c (mkS (40 : Nat) [((1 : Nat), AVal.int IntKind.i64 (↑n : Int)), ((5 : Nat), AVal.ptr (0 : Nat) (0 : Nat) (0 : Nat)), ((6 : Nat), AVal.own (1 : Nat) (0 : Nat) q (0 : Nat) (1 : Nat)), ((7 : Nat), AVal.int IntKind.i64 (↑i : Int)), ((8 : Nat), AVal.own (2 : Nat) (0 : Nat) (p + (List.take (1 : Nat) (List.drop (0 : Nat) ((List.replicate (1 : Nat) (0 : Int)).set (0 : Nat) (↑k : Int)))).length) (0 : Nat) (1 : Nat)), ((9 : Nat), AVal.int IntKind.i64 (IntKind.i64.wrap ((↑k : Int) + (1 : Int))))] [{ c := BC.cells [AVal.ro (Cont.ints IntKind.u8 xs) xs.length (1 : Nat), AVal.int IntKind.i64 (a + (1 : Int)), AVal.int IntKind.u64 (r8.seed.sv xs a.toNat s)], ver := (0 : Nat) }, { c := BC.typ (Cont.rows IntKind.i64 W), ver := (0 : Nat) }, { c := BC.typ (Cont.ints IntKind.i64 (List.take p os ++ List.take (1 : Nat) (List.drop (0 : Nat) ((List.replicate (1 : Nat) (0 : Int)).set (0 : Nat) (↑k : Int))))), ver := (0 : Nat) }]) else none else L2 f c0 c (mkS (40 : Nat) [((1 : Nat), AVal.int IntKind.i64 (↑n : Int)), ((5 : Nat), AVal.ptr (0 : Nat) (0 : Nat) (0 : Nat)), ((6 : Nat), AVal.own (1 : Nat) (0 : Nat) q (0 : Nat) (1 : Nat)), ((7 : Nat), AVal.int IntKind.i64 (↑i : Int)), ((8 : Nat), AVal.own (2 : Nat) (0 : Nat) p (0 : Nat) (1 : Nat)), ((9 : Nat), AVal.int IntKind.i64 (IntKind.i64.wrap ((↑k : Int) + (1 : Int))))] [{ c := BC.cells [AVal.ro (Cont.ints IntKind.u8 xs) xs.length (1 : Nat), AVal.int IntKind.i64 (a + (1 : Int)), AVal.int IntKind.u64 (r8.seed.sv xs a.toNat s)], ver := (0 : Nat) }, { c := BC.typ (Cont.rows IntKind.i64 W), ver := (0 : Nat) }, { c := BC.typ (Cont.ints IntKind.i64 os), ver := (0 : Nat) }]) else none else L2 f c0 c (mkS (40 : Nat) [((1 : Nat), AVal.int IntKind.i64 (↑n : Int)), ((5 : Nat), AVal.ptr (0 : Nat) (0 : Nat) (0 : Nat)), ((6 : Nat), AVal.own (1 : Nat) (0 : Nat) q (0 : Nat) (1 : Nat)), ((7 : Nat), AVal.int IntKind.i64 (↑i : Int)), ((8 : Nat), AVal.own (2 : Nat) (0 : Nat) p (0 : Nat) (1 : Nat)), ((9 : Nat), AVal.int IntKind.i64 (IntKind.i64.wrap ((↑k : Int) + (1 : Int))))] [{ c := BC.cells [AVal.ro (Cont.ints IntKind.u8 xs) xs.length (1 : Nat), AVal.int IntKind.i64 a, AVal.int IntKind.u64 s], ver := (0 : Nat) }, { c := BC.typ (Cont.rows IntKind.i64 W), ver := (0 : Nat) }, { c := BC.typ (Cont.ints IntKind.i64 os), ver := (0 : Nat) }]) else bif (1 : Nat) == (1 : Nat) && (1 : Nat) == (1 : Nat) && (true && (true && true) && (true && true && (decide (q + (List.take (1 : Nat) (List.drop (0 : Nat) ((List.replicate (1 : Nat) []).set (0 : Nat) (List.take p os)))).length ≤ (4611686018427387904 : Nat)) && decide ((q + (List.take (1 : Nat) (List.drop (0 : Nat) ((List.replicate (1 : Nat) []).set (0 : Nat) (List.take p os)))).length) * (24 : Nat) ≤ (140737488355328 : Nat))))) then L0 f c0 (mkS (40 : Nat) [((1 : Nat), AVal.int IntKind.i64 (↑n : Int)), ((5 : Nat), AVal.ptr (0 : Nat) (0 : Nat) (0 : Nat)), ((6 : Nat), AVal.own (1 : Nat) (0 : Nat) (q + (List.take (1 : Nat) (List.drop (0 : Nat) ((List.replicate (1 : Nat) []).set (0 : Nat) (List.take p os)))).length) (0 : Nat) (1 : Nat)), ((7 : Nat), AVal.int IntKind.i64 (IntKind.i64.wrap ((↑i : Int) + (1 : Int))))] [{ c := BC.cells [AVal.ro (Cont.ints IntKind.u8 xs) xs.length (1 : Nat), AVal.int IntKind.i64 a, AVal.int IntKind.u64 s], ver := (0 : Nat) }, { c := BC.typ (Cont.rows IntKind.i64 (List.take q W ++ List.take (1 : Nat) (List.drop (0 : Nat) ((List.replicate (1 : Nat) []).set (0 : Nat) (List.take p os))))), ver := (0 : Nat) }]) else none) := by kernel_rfl
theorem loop2 (xs : List Int) (W : List (List Int)) (n q i f c0 : Nat) (hn : n ≤ 8) (hi : i < n) (hq : W.length = q) (hq8 : q ≤ 8) (hx : xs.length ≤ 2000000) : ∀ (d k c a : Nat) (s : Int) (os : List Int), k + d = n → d < c → a ≤ 500 + k → os.length ≤ k →
    L2 f c0 c (mkS 40 [(1, .int .i64 ((n : Nat) : Int)), (5, .ptr 0 0 0), (6, .own 1 0 q 0 1), (7, .int .i64 ((i : Nat) : Int)), (8, .own 2 0 os.length 0 1), (9, .int .i64 ((k : Nat) : Int))] [⟨.cells [.ro (.ints .u8 xs) xs.length 1, .int .i64 ((a : Nat) : Int), .int .u64 s], 0⟩, ⟨.typ (.rows .i64 W), 0⟩, ⟨.typ (.ints .i64 os), 0⟩]) = L0 f c0 (mkS 40 [(1, .int .i64 ((n : Nat) : Int)), (5, .ptr 0 0 0), (6, .own 1 0 (q + 1) 0 1), (7, .int .i64 (((i + 1) : Nat) : Int))] [⟨.cells [.ro (.ints .u8 xs) xs.length 1, .int .i64 (((gvs.gl xs i d k a s os).2.1 : Nat) : Int), .int .u64 (gvs.gl xs i d k a s os).2.2], 0⟩, ⟨.typ (.rows .i64 (W ++ [(gvs.gl xs i d k a s os).1])), 0⟩]) := by
  intro d
  induction d with
  | zero =>
    intro k c a s os hk hc ha ho
    obtain ⟨c, rfl⟩ : ∃ x, c = x + 1 := ⟨c - 1, by omega⟩
    obtain rfl : k = n := by omega
    have tw : W.take q = W := List.take_of_length_le (by omega)
    have to : os.take os.length = os := List.take_of_length_le (Nat.le_refl _)
    have s1 : (List.replicate 1 ([] : List Int)).set 0 os = [os] := rfl
    have s2 : [os].take 1 = [os] := rfl
    rw [round2, gvs.gl]
    simp -implicitDefEqProofs (disch := omega) only [tw, to, s1, s2, take_one, set_one, decide_eq_true, decide_eq_false, IntWalk.i64_in, beqT, beqF, bneT, bneF, nat_succ, ← Int.natCast_mul, ← Int.natCast_add, Int.toNat_natCast, Int.zero_mul, Int.zero_add, Int.add_zero, Nat.zero_add, Nat.add_zero, Nat.zero_mul, List.length_singleton, List.length_append, List.length_nil, List.length_cons, List.take_length, List.drop_zero, List.replicate_zero, List.take_nil, List.nil_append, Nat.reduceBEq, Nat.reduceMul, Nat.reduceLeDiff, eq_self, and_self, true_and, and_true, decide_true, decide_false, Bool.and_self, Bool.or_self, Bool.and_true, Bool.true_and, Bool.and_false, Bool.false_and, Bool.or_true, Bool.true_or, Bool.or_false, Bool.false_or, Bool.not_true, Bool.not_false, cond_true, cond_false]
  | succ d ih =>
    intro k c a s os hk hc ha ho
    obtain ⟨c, rfl⟩ : ∃ x, c = x + 1 := ⟨c - 1, by omega⟩
    have to : os.take os.length = os := List.take_of_length_le (Nat.le_refl _)
    rw [round2, gvs.gl]
    cases hne : (((k : Nat) : Int) != ((i : Nat) : Int))
    · have g := ih (k + 1) c a s os (by omega) (by omega) (by omega) (by omega)
      simp -implicitDefEqProofs (disch := omega) only [hne, to, take_one, set_one, decide_eq_true, decide_eq_false, IntWalk.i64_in, beqT, beqF, bneT, bneF, nat_succ, ← Int.natCast_mul, ← Int.natCast_add, Int.toNat_natCast, Int.zero_mul, Int.zero_add, Int.add_zero, Nat.zero_add, Nat.add_zero, Nat.zero_mul, List.length_singleton, List.length_append, List.length_nil, List.length_cons, List.take_length, List.drop_zero, List.replicate_zero, List.take_nil, List.nil_append, Nat.reduceBEq, Nat.reduceMul, Nat.reduceLeDiff, eq_self, and_self, true_and, and_true, decide_true, decide_false, Bool.and_self, Bool.or_self, Bool.and_true, Bool.true_and, Bool.and_false, Bool.false_and, Bool.or_true, Bool.true_or, Bool.or_false, Bool.false_or, Bool.not_true, Bool.not_false, cond_true, cond_false]
      exact g
    · cases ht : (r8.nx.sv xs a s).tmod 3 == 0
      · have g := ih (k + 1) c (a + 1) (r8.seed.sv xs a s) os (by omega) (by omega) (by omega) (by omega)
        simp -implicitDefEqProofs (disch := omega) only [hne, ht, to, take_one, set_one, decide_eq_true, decide_eq_false, IntWalk.i64_in, beqT, beqF, bneT, bneF, nat_succ, ← Int.natCast_mul, ← Int.natCast_add, Int.toNat_natCast, Int.zero_mul, Int.zero_add, Int.add_zero, Nat.zero_add, Nat.add_zero, Nat.zero_mul, List.length_singleton, List.length_append, List.length_nil, List.length_cons, List.take_length, List.drop_zero, List.replicate_zero, List.take_nil, List.nil_append, Nat.reduceBEq, Nat.reduceMul, Nat.reduceLeDiff, eq_self, and_self, true_and, and_true, decide_true, decide_false, Bool.and_self, Bool.or_self, Bool.and_true, Bool.true_and, Bool.and_false, Bool.false_and, Bool.or_true, Bool.true_or, Bool.or_false, Bool.false_or, Bool.not_true, Bool.not_false, cond_true, cond_false]
        exact g
      · have g := ih (k + 1) c (a + 1) (r8.seed.sv xs a s) (os ++ [((k : Nat) : Int)]) (by omega) (by omega) (by omega) (by rw [List.length_append, List.length_singleton]; omega)
        rw [List.length_append, List.length_singleton] at g
        simp -implicitDefEqProofs (disch := omega) only [hne, ht, to, take_one, set_one, decide_eq_true, decide_eq_false, IntWalk.i64_in, beqT, beqF, bneT, bneF, nat_succ, ← Int.natCast_mul, ← Int.natCast_add, Int.toNat_natCast, Int.zero_mul, Int.zero_add, Int.add_zero, Nat.zero_add, Nat.add_zero, Nat.zero_mul, List.length_singleton, List.length_append, List.length_nil, List.length_cons, List.take_length, List.drop_zero, List.replicate_zero, List.take_nil, List.nil_append, Nat.reduceBEq, Nat.reduceMul, Nat.reduceLeDiff, eq_self, and_self, true_and, and_true, decide_true, decide_false, Bool.and_self, Bool.or_self, Bool.and_true, Bool.true_and, Bool.and_false, Bool.false_and, Bool.or_true, Bool.true_or, Bool.or_false, Bool.false_or, Bool.not_true, Bool.not_false, cond_true, cond_false]
        exact g
theorem loop0 (xs : List Int) (n f : Nat) (hf : 20 < f) (hn : n ≤ 8) (hx : xs.length ≤ 2000000) : ∀ (d i c a : Nat) (s : Int) (W : List (List Int)), i + d = n → d < c → W.length = i → a ≤ i * 8 →
    L0 f c (mkS 40 [(1, .int .i64 ((n : Nat) : Int)), (5, .ptr 0 0 0), (6, .own 1 0 i 0 1), (7, .int .i64 ((i : Nat) : Int))] [⟨.cells [.ro (.ints .u8 xs) xs.length 1, .int .i64 ((a : Nat) : Int), .int .u64 s], 0⟩, ⟨.typ (.rows .i64 W), 0⟩]) = some (.ro (.rows .i64 (gvs.gd.sv xs n d i a s W)) n 1, []) := by
  intro d
  induction d with
  | zero =>
    intro i c a s W hi hc hl ha
    obtain ⟨c, rfl⟩ : ∃ x, c = x + 1 := ⟨c - 1, by omega⟩
    obtain rfl : i = n := by omega
    rw [round0, gvs.gd.sv]
    simp -implicitDefEqProofs (disch := omega) only [take_one, set_one, decide_eq_true, decide_eq_false, IntWalk.i64_in, beqT, beqF, bneT, bneF, nat_succ, ← Int.natCast_mul, ← Int.natCast_add, Int.toNat_natCast, Int.zero_mul, Int.zero_add, Int.add_zero, Nat.zero_add, Nat.add_zero, Nat.zero_mul, List.length_singleton, List.length_append, List.length_nil, List.length_cons, List.take_length, List.drop_zero, List.replicate_zero, List.take_nil, List.nil_append, Nat.reduceBEq, Nat.reduceMul, Nat.reduceLeDiff, eq_self, and_self, true_and, and_true, decide_true, decide_false, Bool.and_self, Bool.or_self, Bool.and_true, Bool.true_and, Bool.and_false, Bool.false_and, Bool.or_true, Bool.true_or, Bool.or_false, Bool.false_or, Bool.not_true, Bool.not_false, cond_true, cond_false]
  | succ d ih =>
    intro i c a s W hi hc hl ha
    obtain ⟨c, rfl⟩ : ∃ x, c = x + 1 := ⟨c - 1, by omega⟩
    obtain ⟨g1, g2⟩ := gvs.gl_ok xs i n 0 a s [] (gvs.RI.nil i 0)
    have g := ih (i + 1) c (gvs.gl xs i n 0 a s []).2.1 (gvs.gl xs i n 0 a s []).2.2 (W ++ [(gvs.gl xs i n 0 a s []).1]) (by omega) (by omega) (by rw [List.length_append, hl]; rfl) (by omega)
    have h := loop2 xs W n i i f c hn (by omega) hl (by omega) hx n 0 f a s [] (by omega) (by omega) (by omega) (Nat.le_refl _)
    rw [List.length_nil] at h
    rw [round0, gvs.gd.sv]
    simp -implicitDefEqProofs (disch := omega) only [take_one, set_one, decide_eq_true, decide_eq_false, IntWalk.i64_in, beqT, beqF, bneT, bneF, nat_succ, ← Int.natCast_mul, ← Int.natCast_add, Int.toNat_natCast, Int.zero_mul, Int.zero_add, Int.add_zero, Nat.zero_add, Nat.add_zero, Nat.zero_mul, List.length_singleton, List.length_append, List.length_nil, List.length_cons, List.take_length, List.drop_zero, List.replicate_zero, List.take_nil, List.nil_append, Nat.reduceBEq, Nat.reduceMul, Nat.reduceLeDiff, eq_self, and_self, true_and, and_true, decide_true, decide_false, Bool.and_self, Bool.or_self, Bool.and_true, Bool.true_and, Bool.and_false, Bool.false_and, Bool.or_true, Bool.true_or, Bool.or_false, Bool.false_or, Bool.not_true, Bool.not_false, cond_true, cond_false]
    exact h.trans g
theorem run : ∀ args v new, R args = some (true, v, new) → ∃ fuel, runFn Try.prog (orcW [⟨113, bOne.R⟩] [⟨63, l00From.R⟩]) hd dr (some 0) fuel (bodyOf Try.f51) 40 [4] args [] = some (v, new) := by
  intro args v new h
  unfold R at h
  split at h
  · rename_i xs m n
    simp only [Option.some.injEq, Prod.mk.injEq, decide_eq_true_eq] at h
    obtain ⟨⟨rfl, h1, h2, h3⟩, rfl, rfl⟩ := h
    obtain ⟨n, rfl⟩ : ∃ q : Nat, n = q := ⟨n.toNat, by omega⟩
    obtain ⟨F, hF⟩ : ∃ F : Nat, F = 100 := ⟨100, rfl⟩
    refine ⟨F, ?_⟩
    have g := loop0 xs n F (by omega) (by omega) h1 n 0 F 0 0 [] (by omega) (by omega) rfl (by omega)
    rw [start, Int.toNat_natCast]
    simp -implicitDefEqProofs (disch := omega) only [take_one, set_one, decide_eq_true, decide_eq_false, IntWalk.i64_in, beqT, beqF, bneT, bneF, nat_succ, ← Int.natCast_mul, ← Int.natCast_add, Int.toNat_natCast, Int.zero_mul, Int.zero_add, Int.add_zero, Nat.zero_add, Nat.add_zero, Nat.zero_mul, List.length_singleton, List.length_append, List.length_nil, List.length_cons, List.take_length, List.drop_zero, List.replicate_zero, List.take_nil, List.nil_append, Nat.reduceBEq, Nat.reduceMul, Nat.reduceLeDiff, eq_self, and_self, true_and, and_true, decide_true, decide_false, Bool.and_self, Bool.or_self, Bool.and_true, Bool.true_and, Bool.and_false, Bool.false_and, Bool.or_true, Bool.true_or, Bool.or_false, Bool.false_or, Bool.not_true, Bool.not_false, cond_true, cond_false]
    exact g
  · cases h
theorem ok : EntOk Try.prog ⟨51, R⟩ :=
  ent_okA mixed (A := (orcW [⟨113, bOne.R⟩] [⟨63, l00From.R⟩])) (orcW_ok (by simp only [List.mem_cons, List.not_mem_nil, or_false, forall_eq_or_imp, forall_eq]; exact bOne.ok) (by simp only [List.mem_cons, List.not_mem_nil, or_false, forall_eq_or_imp, forall_eq]; exact l00From.ok)) Try.func51 (by kernel_rfl) (by kernel_rfl) (n := 40) (ts := [4]) (hd := hd) (dr := dr) (cut := (some 0)) (by kernel_rfl) (by kernel_rfl) (by kernel_rfl) run
end B10Gives


-- numbers
namespace gvs
/-- An order without the own. -/
def fw.sv (r : List Int) (i k : Nat) : List Int := (r.take k).filter fun x => x != ((i : Nat) : Int)
theorem fw_next {r : List Int} {i k : Nat} (h : k < r.length) : fw.sv r i (k + 1) = bif gz r k != ((i : Nat) : Int) then fw.sv r i k ++ [gz r k] else fw.sv r i k := by
  unfold fw.sv
  rw [List.take_succ_eq_append_getElem h, List.filter_append, ← gz_eq h]
  cases c : gz r k != ((i : Nat) : Int) <;> simp [c]
theorem fw_le (r : List Int) (i k : Nat) : (fw.sv r i k).length ≤ k := Nat.le_trans (List.length_filter_le _ _) (by rw [List.length_take]; omega)
/-- Friends drawn. -/
def fd.sv (xs : List Int) (n : Nat) : Nat → Nat → Nat → Int → List (List Int) → List (List Int)
  | 0, _, _, _, W => W
  | d + 1, i, a, s, W => fd.sv xs n d (i + 1) (wo.oa.sv n 0 a) (wo.ox.sv xs n 0 a s) (W ++ [fw.sv (wo.od.sv xs n 0 a s []) i n])
theorem oa_le : ∀ (d k a : Nat), wo.oa.sv d k a ≤ a + d
  | 0, _, _ => Nat.le_refl _
  | d + 1, k, a => by
    have h := oa_le d (k + 1) (wo.ka.sv k a)
    have h2 : wo.ka.sv k a ≤ a + 1 := by unfold wo.ka.sv; cases decide (k = 0) <;> simp only [cond_true, cond_false] <;> omega
    rw [wo.oa.sv]
    omega
theorem ord0 : wo.Ord 0 [] := ⟨rfl, fun x hx => (by simp at hx), by simp, fun j hj => (by omega)⟩
theorem od_len (xs : List Int) (n a : Nat) (s : Int) : wo.Ord n (wo.od.sv xs n 0 a s []) := by
  have o := wo.od_ord xs n 0 a s [] ord0
  rw [Nat.zero_add] at o
  exact o
theorem fw_row {n i : Nat} {r : List Int} (o : wo.Ord n r) (hi : i < n) : rms.row.sp (n : Int) (i : Int) (fw.sv r i n) = true := by
  have e : fw.sv r i n = r.erase (i : Int) := by
    unfold fw.sv
    rw [List.take_of_length_le (by rw [o.len]; exact Nat.le_refl _), o.nd.erase_eq_filter]
  have hm := o.all i hi
  have hl : (r.erase (i : Int)).length = n - 1 := by rw [List.length_erase_of_mem hm, o.len]
  rw [e]
  simp only [rms.row.sp, Bool.and_eq_true, decide_eq_true_eq, Bool.not_eq_true']
  refine ⟨by rw [hl]; omega, ?_, ?_⟩
  · exact uniq_in (fun x hx => o.ran x (List.mem_of_mem_erase hx)) (o.nd.erase _) (fun x _ => by simp)
  · rw [List.any_eq_false]
    intro x hx h
    simp only [has.sp, beq_iff_eq] at h
    subst h
    exact (o.nd.not_mem_erase) hx
theorem al_app {n : Int} {r : List Int} : ∀ (W : List (List Int)) (i : Nat), rms.al.sq n W i = true → rms.row.sp n ((i + W.length : Nat) : Int) r = true → rms.al.sq n (W ++ [r]) i = true
  | [], i, _, h => by simpa [rms.al.sq] using h
  | w :: W, i, h1, h => by
    rw [rms.al.sq, Bool.and_eq_true] at h1
    rw [List.cons_append, rms.al.sq, Bool.and_eq_true]
    refine ⟨h1.1, al_app W (i + 1) h1.2 ?_⟩
    rw [List.length_cons] at h
    rw [show i + 1 + W.length = i + (W.length + 1) by omega]
    exact h
theorem fd_ok (xs : List Int) (n : Nat) : ∀ (d i a : Nat) (s : Int) (W : List (List Int)), W.length = i → i + d = n → rms.al.sq (n : Int) W 0 = true → rms.al.sq (n : Int) (fd.sv xs n d i a s W) 0 = true ∧ (fd.sv xs n d i a s W).length = n
  | 0, i, a, s, W, hl, hd, h => ⟨h, by rw [fd.sv]; omega⟩
  | d + 1, i, a, s, W, hl, hd, h => by
    rw [fd.sv]
    refine fd_ok xs n d (i + 1) _ _ _ (by rw [List.length_append, hl]; rfl) (by omega) (al_app W 0 h ?_)
    rw [Nat.zero_add, hl]
    exact fw_row (od_len xs n a s) (by omega)
theorem fd_va (xs : List Int) {n : Nat} (h : rms.ev.sp (n : Int) = true) : rms.va.sp (fd.sv xs n n 0 0 0 []) = true ∧ (fd.sv xs n n 0 0 0 []).length = n := by
  obtain ⟨h1, h2⟩ := fd_ok xs n n 0 0 0 [] rfl (by omega) rfl
  refine ⟨?_, h2⟩
  unfold rms.va.sp
  rw [h2, h, h1]
  rfl
end gvs

namespace B10Friends
def dr : Nat → Dr := fun i => bif eqN i 14 then ⟨some [997, 2], false⟩ else ⟨none, false⟩
def R : List AVal → Option (Bool × AVal × List Blk)
  | [.ro (.ints .u8 xs) m 1, .int .i64 n] => some (decide (m = xs.length ∧ m ≤ 2000000 ∧ 1 ≤ n ∧ n ≤ 8) && r8.bytes.sp xs, .ro (.rows .i64 (gvs.fd.sv xs n.toNat n.toNat 0 0 0 [])) n.toNat 1, [])
  | _ => none
def hd : Nat → Head := fun i => bif eqN i 0 then ⟨[998, 1, 5, 6, 7], none⟩ else ⟨[998, 1, 5, 6, 7, 8, 9, 24, 25], none⟩
noncomputable def L0 (f n : Nat) (s : State) := loopAt Try.prog (orcW [⟨93, l05DrawOrder.R⟩] [⟨63, l00From.R⟩]) hd dr 0 f (bodyOf Try.f47) 0 [true, true, true, false, true] (retK Try.prog [4] 0 (some 0)) n s
noncomputable def L2 (f n n2 : Nat) (s : State) := loopAt Try.prog (orcW [⟨93, l05DrawOrder.R⟩] [⟨63, l00From.R⟩]) hd dr 0 f (bodyAt (bodyOf Try.f47) [true, true, true, false, true]) (curAt (bodyOf Try.f47) 0 [true, true, true, false, true]) [true, false, true, true, false, true] (iterK (normE 0 (hd (curAt (bodyOf Try.f47) 0 [true, true, true, false, true]))) (L0 f n) (contAt Try.prog (orcW [⟨93, l05DrawOrder.R⟩] [⟨63, l00From.R⟩]) hd dr 0 f (bodyOf Try.f47) 0 [true, true, true, false, true] (retK Try.prog [4] 0 (some 0)))) n2 s
theorem start (xs : List Int) (n : Nat) (f : Nat) :
  runFn Try.prog (orcW [⟨93, l05DrawOrder.R⟩] [⟨63, l00From.R⟩]) hd dr (some 0) f (bodyOf Try.f47) 47 [4] [.ro (.ints .u8 xs) xs.length 1, .int .i64 ((n : Nat) : Int)] []
  = (bif true && (true && true || true && (false && true && true)) then L0 f f (mkS (47 : Nat) [((1 : Nat), AVal.int IntKind.i64 (↑n : Int)), ((5 : Nat), AVal.ptr (0 : Nat) (0 : Nat) (0 : Nat)), ((6 : Nat), AVal.own (1 : Nat) (0 : Nat) (0 : Nat) (0 : Nat) (1 : Nat)), ((7 : Nat), AVal.int IntKind.i64 (0 : Int))] [{ c := BC.cells [AVal.ro (Cont.ints IntKind.u8 xs) xs.length (1 : Nat), AVal.int IntKind.i64 (0 : Int), AVal.int IntKind.u64 (0 : Int)], ver := (0 : Nat) }, { c := BC.typ (Cont.rows IntKind.i64 (List.replicate (0 : Nat) [])), ver := (0 : Nat) }]) else none) := by kernel_rfl
theorem round0 (xs : List Int) (W : List (List Int)) (n q i : Nat) (a s : Int) (f c : Nat) :
  L0 f (c + 1) (mkS 47 [(1, .int .i64 ((n : Nat) : Int)), (5, .ptr 0 0 0), (6, .own 1 0 q 0 1), (7, .int .i64 ((i : Nat) : Int))] [⟨.cells [.ro (.ints .u8 xs) xs.length 1, .int .i64 a, .int .u64 s], 0⟩, ⟨.typ (.rows .i64 W), 0⟩])
  = (bif decide ((↑i : Int) < (↑n : Int)) then bif decide (xs.length = xs.length ∧ xs.length ≤ (2000000 : Nat) ∧ (0 : Int) ≤ a ∧ a ≤ (100 : Int) ∧ (0 : Int) ≤ (↑n : Int) ∧ (↑n : Int) ≤ (8 : Int)) && r8.bytes.sp xs && (true && (true && true)) then L2 f c f (mkS (47 : Nat) [((1 : Nat), AVal.int IntKind.i64 (↑n : Int)), ((5 : Nat), AVal.ptr (0 : Nat) (0 : Nat) (0 : Nat)), ((6 : Nat), AVal.own (1 : Nat) (0 : Nat) q (0 : Nat) (1 : Nat)), ((7 : Nat), AVal.int IntKind.i64 (↑i : Int)), ((8 : Nat), AVal.own (2 : Nat) (0 : Nat) (0 : Nat) (0 : Nat) (1 : Nat)), ((9 : Nat), AVal.ro (Cont.ints IntKind.i64 (wo.od.sv xs (↑n : Int).toNat (0 : Nat) a.toNat s [])) (↑n : Int).toNat (1 : Nat)), ((24 : Nat), AVal.int IntKind.i64 (↑(↑n : Int).toNat : Int)), ((25 : Nat), AVal.int IntKind.i64 (0 : Int))] [{ c := BC.cells [AVal.ro (Cont.ints IntKind.u8 xs) xs.length (1 : Nat), AVal.int IntKind.i64 (↑(wo.oa.sv (↑n : Int).toNat (0 : Nat) a.toNat) : Int), AVal.int IntKind.u64 (wo.ox.sv xs (↑n : Int).toNat (0 : Nat) a.toNat s)], ver := (0 : Nat) }, { c := BC.typ (Cont.rows IntKind.i64 W), ver := (0 : Nat) }, { c := BC.typ (Cont.ints IntKind.i64 (List.replicate (0 : Nat) (0 : Int))), ver := (0 : Nat) }]) else none else some (AVal.ro (Cont.rows IntKind.i64 W) q (1 : Nat), [])) := by kernel_rfl
theorem round2 (xs r os : List Int) (W : List (List Int)) (n q p i k : Nat) (a s : Int) (f c0 c : Nat) :
  L2 f c0 (c + 1) (mkS 47 [(1, .int .i64 ((n : Nat) : Int)), (5, .ptr 0 0 0), (6, .own 1 0 q 0 1), (7, .int .i64 ((i : Nat) : Int)), (8, .own 2 0 p 0 1), (9, .ro (.ints .i64 r) n 1), (24, .int .i64 ((n : Nat) : Int)), (25, .int .i64 ((k : Nat) : Int))] [⟨.cells [.ro (.ints .u8 xs) xs.length 1, .int .i64 a, .int .u64 s], 0⟩, ⟨.typ (.rows .i64 W), 0⟩, ⟨.typ (.ints .i64 os), 0⟩])
  = (bif decide ((↑k : Int) < (↑n : Int)) then bif true && (decide ((0 : Int) ≤ (↑k : Int)) && decide ((↑k : Int) < (↑n : Int))) then bif decide ((↑k : Int).toNat < r.length) then bif gz r (↑k : Int).toNat != (↑i : Int) then bif true && (decide ((0 : Int) ≤ (↑k : Int)) && decide ((↑k : Int) < (↑n : Int))) then bif decide ((↑k : Int).toNat < r.length) then bif (1 : Nat) == (1 : Nat) && (1 : Nat) == (1 : Nat) && (true && (true && true) && (true && true && (decide (p + (List.take (1 : Nat) (List.drop (0 : Nat) ((List.replicate (1 : Nat) (0 : Int)).set (0 : Nat) (gz r (↑k : Int).toNat)))).length ≤ (4611686018427387904 : Nat)) && decide ((p + (List.take (1 : Nat) (List.drop (0 : Nat) ((List.replicate (1 : Nat) (0 : Int)).set (0 : Nat) (gz r (↑k : Int).toNat)))).length) * (8 : Nat) ≤ (140737488355328 : Nat))))) then L2 f c0 c (mkS (47 : Nat) [((1 : Nat), AVal.int IntKind.i64 (↑n : Int)), ((5 : Nat), AVal.ptr (0 : Nat) (0 : Nat) (0 : Nat)), ((6 : Nat), AVal.own (1 : Nat) (0 : Nat) q (0 : Nat) (1 : Nat)), ((7 : Nat), AVal.int IntKind.i64 (↑i : Int)), ((8 : Nat), AVal.own (2 : Nat) (0 : Nat) (p + (List.take (1 : Nat) (List.drop (0 : Nat) ((List.replicate (1 : Nat) (0 : Int)).set (0 : Nat) (gz r (↑k : Int).toNat)))).length) (0 : Nat) (1 : Nat)), ((9 : Nat), AVal.ro (Cont.ints IntKind.i64 r) n (1 : Nat)), ((24 : Nat), AVal.int IntKind.i64 (↑n : Int)), ((25 : Nat), AVal.int IntKind.i64 (IntKind.i64.wrap ((↑k : Int) + (1 : Int))))] [{ c := BC.cells [AVal.ro (Cont.ints IntKind.u8 xs) xs.length (1 : Nat), AVal.int IntKind.i64 a, AVal.int IntKind.u64 s], ver := (0 : Nat) }, { c := BC.typ (Cont.rows IntKind.i64 W), ver := (0 : Nat) }, { c := BC.typ (Cont.ints IntKind.i64 (List.take p os ++ List.take (1 : Nat) (List.drop (0 : Nat) ((List.replicate (1 : Nat) (0 : Int)).set (0 : Nat) (gz r (↑k : Int).toNat))))), ver := (0 : Nat) }]) else none else none else none else L2 f c0 c (mkS (47 : Nat) [((1 : Nat), AVal.int IntKind.i64 (↑n : Int)), ((5 : Nat), AVal.ptr (0 : Nat) (0 : Nat) (0 : Nat)), ((6 : Nat), AVal.own (1 : Nat) (0 : Nat) q (0 : Nat) (1 : Nat)), ((7 : Nat), AVal.int IntKind.i64 (↑i : Int)), ((8 : Nat), AVal.own (2 : Nat) (0 : Nat) p (0 : Nat) (1 : Nat)), ((9 : Nat), AVal.ro (Cont.ints IntKind.i64 r) n (1 : Nat)), ((24 : Nat), AVal.int IntKind.i64 (↑n : Int)), ((25 : Nat), AVal.int IntKind.i64 (IntKind.i64.wrap ((↑k : Int) + (1 : Int))))] [{ c := BC.cells [AVal.ro (Cont.ints IntKind.u8 xs) xs.length (1 : Nat), AVal.int IntKind.i64 a, AVal.int IntKind.u64 s], ver := (0 : Nat) }, { c := BC.typ (Cont.rows IntKind.i64 W), ver := (0 : Nat) }, { c := BC.typ (Cont.ints IntKind.i64 os), ver := (0 : Nat) }]) else none else none else bif (1 : Nat) == (1 : Nat) && (1 : Nat) == (1 : Nat) && (true && (true && true) && (true && true && (decide (q + (List.take (1 : Nat) (List.drop (0 : Nat) ((List.replicate (1 : Nat) []).set (0 : Nat) (List.take p os)))).length ≤ (4611686018427387904 : Nat)) && decide ((q + (List.take (1 : Nat) (List.drop (0 : Nat) ((List.replicate (1 : Nat) []).set (0 : Nat) (List.take p os)))).length) * (24 : Nat) ≤ (140737488355328 : Nat))))) then L0 f c0 (mkS (47 : Nat) [((1 : Nat), AVal.int IntKind.i64 (↑n : Int)), ((5 : Nat), AVal.ptr (0 : Nat) (0 : Nat) (0 : Nat)), ((6 : Nat), AVal.own (1 : Nat) (0 : Nat) (q + (List.take (1 : Nat) (List.drop (0 : Nat) ((List.replicate (1 : Nat) []).set (0 : Nat) (List.take p os)))).length) (0 : Nat) (1 : Nat)), ((7 : Nat), AVal.int IntKind.i64 (IntKind.i64.wrap ((↑i : Int) + (1 : Int))))] [{ c := BC.cells [AVal.ro (Cont.ints IntKind.u8 xs) xs.length (1 : Nat), AVal.int IntKind.i64 a, AVal.int IntKind.u64 s], ver := (0 : Nat) }, { c := BC.typ (Cont.rows IntKind.i64 (List.take q W ++ List.take (1 : Nat) (List.drop (0 : Nat) ((List.replicate (1 : Nat) []).set (0 : Nat) (List.take p os))))), ver := (0 : Nat) }]) else none) := by kernel_rfl
theorem loop2 (xs : List Int) (W : List (List Int)) (r : List Int) (n q i f c0 a : Nat) (s : Int) (hn : n ≤ 8) (hi : i < n) (hq : W.length = q) (hq8 : q ≤ 8) (hr : r.length = n) : ∀ (d k c : Nat), k + d = n → d < c →
    L2 f c0 c (mkS 47 [(1, .int .i64 ((n : Nat) : Int)), (5, .ptr 0 0 0), (6, .own 1 0 q 0 1), (7, .int .i64 ((i : Nat) : Int)), (8, .own 2 0 (gvs.fw.sv r i k).length 0 1), (9, .ro (.ints .i64 r) n 1), (24, .int .i64 ((n : Nat) : Int)), (25, .int .i64 ((k : Nat) : Int))] [⟨.cells [.ro (.ints .u8 xs) xs.length 1, .int .i64 ((a : Nat) : Int), .int .u64 s], 0⟩, ⟨.typ (.rows .i64 W), 0⟩, ⟨.typ (.ints .i64 (gvs.fw.sv r i k)), 0⟩]) = L0 f c0 (mkS 47 [(1, .int .i64 ((n : Nat) : Int)), (5, .ptr 0 0 0), (6, .own 1 0 (q + 1) 0 1), (7, .int .i64 (((i + 1) : Nat) : Int))] [⟨.cells [.ro (.ints .u8 xs) xs.length 1, .int .i64 ((a : Nat) : Int), .int .u64 s], 0⟩, ⟨.typ (.rows .i64 (W ++ [gvs.fw.sv r i n])), 0⟩]) := by
  intro d
  induction d with
  | zero =>
    intro k c hk hc
    obtain ⟨c, rfl⟩ : ∃ x, c = x + 1 := ⟨c - 1, by omega⟩
    obtain rfl : k = n := by omega
    have tw : W.take q = W := List.take_of_length_le (by omega)
    have s1 : (List.replicate 1 ([] : List Int)).set 0 (gvs.fw.sv r i k) = [gvs.fw.sv r i k] := rfl
    have s2 : [gvs.fw.sv r i k].take 1 = [gvs.fw.sv r i k] := rfl
    rw [round2]
    simp -implicitDefEqProofs (disch := omega) only [tw, s1, s2, take_one, set_one, decide_eq_true, decide_eq_false, IntWalk.i64_in, beqT, beqF, bneT, bneF, nat_succ, ← Int.natCast_mul, ← Int.natCast_add, Int.toNat_natCast, Int.zero_mul, Int.zero_add, Int.add_zero, Nat.zero_add, Nat.add_zero, Nat.zero_mul, List.length_singleton, List.length_append, List.length_nil, List.length_cons, List.take_length, List.drop_zero, List.replicate_zero, List.take_nil, List.nil_append, Nat.reduceBEq, Nat.reduceMul, Nat.reduceLeDiff, eq_self, and_self, true_and, and_true, decide_true, decide_false, Bool.and_self, Bool.or_self, Bool.and_true, Bool.true_and, Bool.and_false, Bool.false_and, Bool.or_true, Bool.true_or, Bool.or_false, Bool.false_or, Bool.not_true, Bool.not_false, cond_true, cond_false]
  | succ d ih =>
    intro k c hk hc
    obtain ⟨c, rfl⟩ : ∃ x, c = x + 1 := ⟨c - 1, by omega⟩
    have g := ih (k + 1) c (by omega) (by omega)
    have hl := gvs.fw_le r i k
    rw [gvs.fw_next (by omega)] at g
    rw [round2]
    cases hne : gz r k != ((i : Nat) : Int)
    · rw [hne, cond_false] at g
      simp -implicitDefEqProofs (disch := omega) only [hne, take_one, set_one, decide_eq_true, decide_eq_false, IntWalk.i64_in, beqT, beqF, bneT, bneF, nat_succ, ← Int.natCast_mul, ← Int.natCast_add, Int.toNat_natCast, Int.zero_mul, Int.zero_add, Int.add_zero, Nat.zero_add, Nat.add_zero, Nat.zero_mul, List.length_singleton, List.length_append, List.length_nil, List.length_cons, List.take_length, List.drop_zero, List.replicate_zero, List.take_nil, List.nil_append, Nat.reduceBEq, Nat.reduceMul, Nat.reduceLeDiff, eq_self, and_self, true_and, and_true, decide_true, decide_false, Bool.and_self, Bool.or_self, Bool.and_true, Bool.true_and, Bool.and_false, Bool.false_and, Bool.or_true, Bool.true_or, Bool.or_false, Bool.false_or, Bool.not_true, Bool.not_false, cond_true, cond_false]
      exact g
    · rw [hne, cond_true, List.length_append, List.length_singleton] at g
      simp -implicitDefEqProofs (disch := omega) only [hne, take_one, set_one, decide_eq_true, decide_eq_false, IntWalk.i64_in, beqT, beqF, bneT, bneF, nat_succ, ← Int.natCast_mul, ← Int.natCast_add, Int.toNat_natCast, Int.zero_mul, Int.zero_add, Int.add_zero, Nat.zero_add, Nat.add_zero, Nat.zero_mul, List.length_singleton, List.length_append, List.length_nil, List.length_cons, List.take_length, List.drop_zero, List.replicate_zero, List.take_nil, List.nil_append, Nat.reduceBEq, Nat.reduceMul, Nat.reduceLeDiff, eq_self, and_self, true_and, and_true, decide_true, decide_false, Bool.and_self, Bool.or_self, Bool.and_true, Bool.true_and, Bool.and_false, Bool.false_and, Bool.or_true, Bool.true_or, Bool.or_false, Bool.false_or, Bool.not_true, Bool.not_false, cond_true, cond_false]
      exact g
theorem loop0 (xs : List Int) (n f : Nat) (hf : 20 < f) (hn : n ≤ 8) (hx : xs.length ≤ 2000000) (hb : r8.bytes.sp xs = true) : ∀ (d i c a : Nat) (s : Int) (W : List (List Int)), i + d = n → d < c → W.length = i → a ≤ i * 8 →
    L0 f c (mkS 47 [(1, .int .i64 ((n : Nat) : Int)), (5, .ptr 0 0 0), (6, .own 1 0 i 0 1), (7, .int .i64 ((i : Nat) : Int))] [⟨.cells [.ro (.ints .u8 xs) xs.length 1, .int .i64 ((a : Nat) : Int), .int .u64 s], 0⟩, ⟨.typ (.rows .i64 W), 0⟩]) = some (.ro (.rows .i64 (gvs.fd.sv xs n d i a s W)) n 1, []) := by
  intro d
  induction d with
  | zero =>
    intro i c a s W hi hc hl ha
    obtain ⟨c, rfl⟩ : ∃ x, c = x + 1 := ⟨c - 1, by omega⟩
    obtain rfl : i = n := by omega
    rw [round0, gvs.fd.sv]
    simp -implicitDefEqProofs (disch := omega) only [take_one, set_one, decide_eq_true, decide_eq_false, IntWalk.i64_in, beqT, beqF, bneT, bneF, nat_succ, ← Int.natCast_mul, ← Int.natCast_add, Int.toNat_natCast, Int.zero_mul, Int.zero_add, Int.add_zero, Nat.zero_add, Nat.add_zero, Nat.zero_mul, List.length_singleton, List.length_append, List.length_nil, List.length_cons, List.take_length, List.drop_zero, List.replicate_zero, List.take_nil, List.nil_append, Nat.reduceBEq, Nat.reduceMul, Nat.reduceLeDiff, eq_self, and_self, true_and, and_true, decide_true, decide_false, Bool.and_self, Bool.or_self, Bool.and_true, Bool.true_and, Bool.and_false, Bool.false_and, Bool.or_true, Bool.true_or, Bool.or_false, Bool.false_or, Bool.not_true, Bool.not_false, cond_true, cond_false]
  | succ d ih =>
    intro i c a s W hi hc hl ha
    obtain ⟨c, rfl⟩ : ∃ x, c = x + 1 := ⟨c - 1, by omega⟩
    have o := gvs.od_len xs n a s
    have ho := gvs.oa_le n 0 a
    have g := ih (i + 1) c (wo.oa.sv n 0 a) (wo.ox.sv xs n 0 a s) (W ++ [gvs.fw.sv (wo.od.sv xs n 0 a s []) i n]) (by omega) (by omega) (by rw [List.length_append, hl]; rfl) (by omega)
    have h := loop2 xs W (wo.od.sv xs n 0 a s []) n i i f c (wo.oa.sv n 0 a) (wo.ox.sv xs n 0 a s) hn (by omega) hl (by omega) o.len n 0 f (by omega) (by omega)
    have e : gvs.fw.sv (wo.od.sv xs n 0 a s []) i 0 = [] := rfl
    rw [e, List.length_nil] at h
    rw [round0, gvs.fd.sv]
    simp -implicitDefEqProofs (disch := omega) only [hb, take_one, set_one, decide_eq_true, decide_eq_false, IntWalk.i64_in, beqT, beqF, bneT, bneF, nat_succ, ← Int.natCast_mul, ← Int.natCast_add, Int.toNat_natCast, Int.zero_mul, Int.zero_add, Int.add_zero, Nat.zero_add, Nat.add_zero, Nat.zero_mul, List.length_singleton, List.length_append, List.length_nil, List.length_cons, List.take_length, List.drop_zero, List.replicate_zero, List.take_nil, List.nil_append, Nat.reduceBEq, Nat.reduceMul, Nat.reduceLeDiff, eq_self, and_self, true_and, and_true, decide_true, decide_false, Bool.and_self, Bool.or_self, Bool.and_true, Bool.true_and, Bool.and_false, Bool.false_and, Bool.or_true, Bool.true_or, Bool.or_false, Bool.false_or, Bool.not_true, Bool.not_false, cond_true, cond_false]
    exact h.trans g
theorem run : ∀ args v new, R args = some (true, v, new) → ∃ fuel, runFn Try.prog (orcW [⟨93, l05DrawOrder.R⟩] [⟨63, l00From.R⟩]) hd dr (some 0) fuel (bodyOf Try.f47) 47 [4] args [] = some (v, new) := by
  intro args v new h
  unfold R at h
  split at h
  · rename_i xs m n
    simp only [Option.some.injEq, Prod.mk.injEq, Bool.and_eq_true, decide_eq_true_eq] at h
    obtain ⟨⟨⟨rfl, h1, h2, h3⟩, hb⟩, rfl, rfl⟩ := h
    obtain ⟨n, rfl⟩ : ∃ q : Nat, n = q := ⟨n.toNat, by omega⟩
    obtain ⟨F, hF⟩ : ∃ F : Nat, F = 100 := ⟨100, rfl⟩
    refine ⟨F, ?_⟩
    have g := loop0 xs n F (by omega) (by omega) h1 hb n 0 F 0 0 [] (by omega) (by omega) rfl (by omega)
    rw [start, Int.toNat_natCast]
    simp -implicitDefEqProofs (disch := omega) only [take_one, set_one, decide_eq_true, decide_eq_false, IntWalk.i64_in, beqT, beqF, bneT, bneF, nat_succ, ← Int.natCast_mul, ← Int.natCast_add, Int.toNat_natCast, Int.zero_mul, Int.zero_add, Int.add_zero, Nat.zero_add, Nat.add_zero, Nat.zero_mul, List.length_singleton, List.length_append, List.length_nil, List.length_cons, List.take_length, List.drop_zero, List.replicate_zero, List.take_nil, List.nil_append, Nat.reduceBEq, Nat.reduceMul, Nat.reduceLeDiff, eq_self, and_self, true_and, and_true, decide_true, decide_false, Bool.and_self, Bool.or_self, Bool.and_true, Bool.true_and, Bool.and_false, Bool.false_and, Bool.or_true, Bool.true_or, Bool.or_false, Bool.false_or, Bool.not_true, Bool.not_false, cond_true, cond_false]
    exact g
  · cases h
theorem ok : EntOk Try.prog ⟨47, R⟩ :=
  ent_okA mixed (A := (orcW [⟨93, l05DrawOrder.R⟩] [⟨63, l00From.R⟩])) (orcW_ok (by simp only [List.mem_cons, List.not_mem_nil, or_false, forall_eq_or_imp, forall_eq]; exact l05DrawOrder.ok) (by simp only [List.mem_cons, List.not_mem_nil, or_false, forall_eq_or_imp, forall_eq]; exact l00From.ok)) Try.func47 (by kernel_rfl) (by kernel_rfl) (n := 47) (ts := [4]) (hd := hd) (dr := dr) (cut := (some 0)) (by kernel_rfl) (by kernel_rfl) (by kernel_rfl) run
end B10Friends


-- numbers
namespace rms
/-- Each who has somebody is had by that one. -/
def Pr (n : Nat) (rm : List Int) : Prop := rm.length = n ∧ ∀ i : Nat, i < n → gz rm i = -1 ∨ ∃ k : Nat, k < n ∧ gz rm i = k ∧ k ≠ i ∧ gz rm k = i
theorem pr_two {n : Nat} {rm : List Int} (h : Pr n rm) {a k : Nat} (ha : a < n) (hk : k < n) (hak : a ≠ k) (h1 : gz rm a = -1) (h2 : gz rm k = -1) : Pr n (two.sv rm a k) := by
  obtain ⟨hl, hp⟩ := h
  refine ⟨by rw [two_len]; exact hl, fun i hi => ?_⟩
  have get : ∀ j : Nat, j < n → gz (two.sv rm a k) j = if k = j then (a : Int) else if a = j then (k : Int) else gz rm j := by
    intro j hj
    unfold two.sv
    rw [gz_eq (by simp; omega), List.getElem_set, List.getElem_set]
    split
    · rfl
    · split
      · rfl
      · rw [gz_eq (by omega)]
  rw [get i hi]
  by_cases c1 : k = i
  · subst c1
    right
    refine ⟨a, ha, by rw [if_pos rfl], hak, ?_⟩
    rw [get a ha, if_neg (fun e => hak e.symm), if_pos rfl]
  · by_cases c2 : a = i
    · subst c2
      right
      refine ⟨k, hk, by rw [if_neg c1, if_pos rfl], c1, ?_⟩
      rw [get k hk, if_pos rfl]
    · rw [if_neg c1, if_neg c2]
      rcases hp i hi with h | ⟨j, hj, e1, e2, e3⟩
      · exact .inl h
      · refine .inr ⟨j, hj, e1, e2, ?_⟩
        rw [get j hj]
        by_cases d1 : k = j
        · subst d1; rw [h2] at e3; omega
        · by_cases d2 : a = j
          · subst d2; rw [h1] at e3; omega
          · rw [if_neg d1, if_neg d2]; exact e3
theorem lp_ok {fs : List (List Int)} {n : Nat} {rc' : List Int → Option (List Int)} {a : Nat} {rm : List Int} (hp : Pr n rm) (ha : a < n) (h1 : gz rm a = -1) (h : ∀ x r, Pr n x → rc' x = some r → Pr n r ∧ (∀ i, i < n → 0 ≤ gz r i) ∧ q.sp fs r = true) :
    ∀ (d k : Nat) (r : List Int), a < k → k + d ≤ n → lp rc' a rm d k = some r → Pr n r ∧ (∀ i, i < n → 0 ≤ gz r i) ∧ q.sp fs r = true := by
  intro d
  induction d with
  | zero => intro k r _ _ h; cases h
  | succ d ih =>
    intro k r hk hd hr
    simp only [lp] at hr
    by_cases c : 0 ≤ gz rm k
    · simp only [c, decide_true, cond_true] at hr
      exact ih _ _ (by omega) (by omega) hr
    · simp only [c, decide_false, cond_false] at hr
      have h2 : gz rm k = -1 := by
        rcases hp.2 k (by omega) with e | ⟨j, _, e, _⟩
        · exact e
        · omega
      split at hr
      · rename_i r' hr'
        simp only [Option.some.injEq] at hr
        subst hr
        exact h _ _ (pr_two hp ha (by omega) (by omega) h1 h2) hr'
      · exact ih _ _ (by omega) (by omega) hr
theorem rc_ok (fs : List (List Int)) (n : Nat) : ∀ (N : Nat) (rm r : List Int), Pr n rm → rc fs N rm = some r → Pr n r ∧ (∀ i, i < n → 0 ≤ gz r i) ∧ q.sp fs r = true := by
  intro N
  induction N with
  | zero => intro rm r _ h; cases h
  | succ N ih =>
    intro rm r hp h
    have hl := hp.1
    rcases ft_cases rm with ⟨e, h0⟩ | ⟨j, hj, e, hneg⟩
    · simp only [rc, e] at h
      have hn : decide ((-1 : Int) < 0) = true := rfl
      rw [hn, cond_true] at h
      cases hq : q.sp fs rm
      · rw [hq] at h; cases h
      · rw [hq, cond_true] at h
        simp only [Option.some.injEq] at h
        subst h
        exact ⟨hp, fun i hi => h0 i (by omega), hq⟩
    · rw [some_out e] at h
      have h1 : gz rm j = -1 := by
        rcases hp.2 j (by omega) with e | ⟨k, _, e, _⟩
        · exact e
        · omega
      exact lp_ok hp (by omega) h1 (fun x r hx hr => ih x r hx hr) _ _ _ (by omega) (by omega) h
theorem bg_pr (n : Nat) : Pr n (bg.sv n) := ⟨bg_len n, fun i hi => by
  left
  rw [gz_eq (by rw [bg_len]; exact hi)]
  simp [bg.sv]⟩
/-- What is found: all are with somebody, who is with them, and nobody would change. -/
theorem out_ok {fs : List (List Int)} (h : ok.sp fs = true) : (∀ i : Nat, i < fs.length → ∃ k : Nat, k < fs.length ∧ gz (out.sv fs) i = k ∧ k ≠ i ∧ gz (out.sv fs) k = i) ∧ q.sp fs (out.sv fs) = true := by
  unfold ok.sp at h
  rw [Bool.and_eq_true] at h
  obtain ⟨_, h2⟩ := h
  unfold rf.sp at h2
  rw [Option.isSome_iff_exists] at h2
  obtain ⟨r, hr⟩ := h2
  have e : out.sv fs = r := by unfold out.sv ro.sv; rw [hr]; rfl
  obtain ⟨⟨_, g1⟩, g2, g3⟩ := rc_ok fs fs.length _ _ r (bg_pr _) hr
  rw [e]
  refine ⟨fun i hi => ?_, g3⟩
  have := g2 i hi
  rcases g1 i hi with a | a
  · omega
  · exact a
/-- Rooms, as AreRooms tells them. -/
def pr.sp (rm : List Int) : Bool := gvs.alf (fun i => !((gz rm i == ((i : Nat) : Int)) || (gz rm (gz rm i).toNat != ((i : Nat) : Int)))) rm.length 0
theorem out_pr {fs : List (List Int)} (h : ok.sp fs = true) : pr.sp (out.sv fs) = true := by
  obtain ⟨g, _⟩ := out_ok h
  unfold pr.sp
  rw [gvs.alf_iff]
  intro j _ hj
  obtain ⟨k, hk, e1, e2, e3⟩ := g j (by rw [← out_len]; omega)
  rw [e1, Int.toNat_natCast, e3]
  simp only [Bool.not_eq_true', Bool.or_eq_false_iff, beq_eq_false_iff_ne, ne_eq, bne_self_eq_false, and_true]
  omega
theorem out_rg {fs : List (List Int)} (h : ok.sp fs = true) : rg.sp fs.length 0 (out.sv fs) = true := by
  obtain ⟨g, _⟩ := out_ok h
  simp only [rg.sp, Bool.and_eq_true, decide_eq_true_eq, List.all_eq_true, iw.sp]
  refine ⟨out_len fs, fun x hx => ?_⟩
  obtain ⟨j, hj, rfl⟩ := List.mem_iff_getElem.1 hx
  obtain ⟨k, hk, e1, _, _⟩ := g j (by rw [← out_len]; exact hj)
  rw [gz_eq hj] at e1
  omega
theorem out_uniq {fs : List (List Int)} (h : ok.sp fs = true) : uniq.sq ((fs.length : Nat) : Int) [] (out.sv fs) = true := by
  obtain ⟨g, _⟩ := out_ok h
  have hl := out_len fs
  refine gvs.uniq_in (fun x hx => ?_) ?_ (fun x _ => by simp)
  · obtain ⟨j, hj, rfl⟩ := List.mem_iff_getElem.1 hx
    obtain ⟨k, hk, e1, _, _⟩ := g j (by omega)
    rw [gz_eq hj] at e1
    omega
  · refine List.pairwise_iff_getElem.2 fun a b ha hb hab e => ?_
    obtain ⟨k, hk, e1, e2, e3⟩ := g a (by omega)
    obtain ⟨k', hk', e1', e2', e3'⟩ := g b (by omega)
    rw [gz_eq ha] at e1
    rw [gz_eq hb, ← e, e1] at e1'
    have : k = k' := by omega
    subst this
    omega
/-- The rooms, or nothing. -/
def mo.sv (fs : List (List Int)) : List Int := bif ok.sp fs then out.sv fs else []
end rms

namespace iAreRooms
def R : List AVal → Option (Bool × AVal × List Blk)
  | [.ro (.rows .i64 fs) m 1, .ro (.ints .i64 rm) k 1] => some (decide (m = fs.length ∧ k = rm.length ∧ rm.length = fs.length ∧ fs.length ≤ 8) && ((rms.va.sp fs && rms.rg.sp fs.length 0 rm) && (uniq.sq ((fs.length : Nat) : Int) [] rm && (rms.pr.sp rm && short.sp 4611686018427387904 fs))), .tup [.bool (rms.q.sp fs rm), .bool true], [])
  | _ => none
def hd : Nat → Head := fun _ => ⟨[0, 1, 4, 5, 23, 24, 25], none⟩
noncomputable def L (f n : Nat) (s : State) := loopAt Try.prog (orc [⟨107, areFriends.R⟩, ⟨102, isAll.R⟩, ⟨110, keepRooms.R⟩]) hd Dr.std 0 f (bodyOf Try.f50) 0 [true, true, false, true] (retK Try.prog [4, 5] 0 none) n s
theorem start (fs : List (List Int)) (rm : List Int) (f : Nat) :
  runFn Try.prog (orc [⟨107, areFriends.R⟩, ⟨102, isAll.R⟩, ⟨110, keepRooms.R⟩]) hd Dr.std none f (bodyOf Try.f50) 45 [4, 5] [.ro (.rows .i64 fs) fs.length 1, .ro (.ints .i64 rm) rm.length 1] []
  = (bif decide (fs.length = fs.length ∧ fs.length ≤ (4611686018427387904 : Nat)) && short.sp (4611686018427387904 : Nat) fs && (true && true || true && true) then bif !rms.va.sp fs then some (AVal.tup [AVal.bool false, AVal.bool false], []) else bif (↑rm.length : Int) != (↑fs.length : Int) then some (AVal.tup [AVal.bool false, AVal.bool false], []) else bif decide (rm.length ≤ rm.length ∧ rm.length ≤ (1000000000 : Nat)) && (true && true || true && true) then bif !uniq.sq (↑rm.length : Int) [] (List.take rm.length rm) then some (AVal.tup [AVal.bool false, AVal.bool false], []) else L f f (mkS (45 : Nat) [((0 : Nat), AVal.ro (Cont.rows IntKind.i64 fs) fs.length (1 : Nat)), ((1 : Nat), AVal.ro (Cont.ints IntKind.i64 rm) rm.length (1 : Nat)), ((4 : Nat), AVal.bool false), ((5 : Nat), AVal.bool false), ((23 : Nat), AVal.ro (Cont.ints IntKind.i64 rm) rm.length (1 : Nat)), ((24 : Nat), AVal.int IntKind.i64 (↑rm.length : Int)), ((25 : Nat), AVal.int IntKind.i64 (0 : Int))] []) else none else none) := by kernel_rfl
theorem round (fs : List (List Int)) (rm : List Int) (i f n : Nat) :
  L f (n + 1) (mkS 45 [(0, .ro (.rows .i64 fs) fs.length 1), (1, .ro (.ints .i64 rm) rm.length 1), (4, .bool false), (5, .bool false), (23, .ro (.ints .i64 rm) rm.length 1), (24, .int .i64 ((rm.length : Nat) : Int)), (25, .int .i64 ((i : Nat) : Int))] [])
  = (bif decide ((↑i : Int) < (↑rm.length : Int)) then bif true && (decide ((0 : Int) ≤ (↑i : Int)) && decide ((↑i : Int) < (↑rm.length : Int))) then bif decide ((↑i : Int).toNat < rm.length) then bif gz rm (↑i : Int).toNat == (↑i : Int) then some (AVal.tup [AVal.bool false, AVal.bool false], []) else bif true && (decide ((0 : Int) ≤ gz rm (↑i : Int).toNat) && decide (gz rm (↑i : Int).toNat < (↑rm.length : Int))) then bif decide ((gz rm (↑i : Int).toNat).toNat < rm.length) then bif gz rm (gz rm (↑i : Int).toNat).toNat != (↑i : Int) then some (AVal.tup [AVal.bool false, AVal.bool false], []) else L f n (mkS (45 : Nat) [((0 : Nat), AVal.ro (Cont.rows IntKind.i64 fs) fs.length (1 : Nat)), ((1 : Nat), AVal.ro (Cont.ints IntKind.i64 rm) rm.length (1 : Nat)), ((4 : Nat), AVal.bool false), ((5 : Nat), AVal.bool false), ((23 : Nat), AVal.ro (Cont.ints IntKind.i64 rm) rm.length (1 : Nat)), ((24 : Nat), AVal.int IntKind.i64 (↑rm.length : Int)), ((25 : Nat), AVal.int IntKind.i64 (IntKind.i64.wrap ((↑i : Int) + (1 : Int))))] []) else none else none else none else none else bif decide (fs.length = fs.length ∧ rm.length = fs.length) && (rms.va.sp fs && rms.rg.sp fs.length (0 : Int) rm) && (true && (true && true) || true && true) then some (AVal.tup [AVal.bool (rms.q.sp fs rm), AVal.bool true], []) else none) := by kernel_rfl
theorem loop (fs : List (List Int)) (rm : List Int) (f : Nat) (hl : rm.length = fs.length) (h8 : fs.length ≤ 8) (hv : rms.va.sp fs = true) (hr : rms.rg.sp fs.length 0 rm = true) (hp : rms.pr.sp rm = true) : ∀ (d i n : Nat), i + d = rm.length → d < n →
    L f n (mkS 45 [(0, .ro (.rows .i64 fs) fs.length 1), (1, .ro (.ints .i64 rm) rm.length 1), (4, .bool false), (5, .bool false), (23, .ro (.ints .i64 rm) rm.length 1), (24, .int .i64 ((rm.length : Nat) : Int)), (25, .int .i64 ((i : Nat) : Int))] []) = some (.tup [.bool (rms.q.sp fs rm), .bool true], []) := by
  intro d
  induction d with
  | zero =>
    intro i n hi hn
    obtain ⟨n, rfl⟩ : ∃ q, n = q + 1 := ⟨n - 1, by omega⟩
    obtain rfl : i = rm.length := by omega
    rw [round]
    simp -implicitDefEqProofs (disch := omega) only [hv, hr, take_one, set_one, decide_eq_true, decide_eq_false, IntWalk.i64_in, beqT, beqF, bneT, bneF, nat_succ, ← Int.natCast_mul, ← Int.natCast_add, Int.toNat_natCast, Int.zero_mul, Int.zero_add, Int.add_zero, Nat.zero_add, Nat.add_zero, Nat.zero_mul, List.length_singleton, List.length_append, List.length_nil, List.length_cons, List.take_length, List.drop_zero, List.replicate_zero, List.take_nil, List.nil_append, Nat.reduceBEq, Nat.reduceMul, Nat.reduceLeDiff, eq_self, and_self, true_and, and_true, decide_true, decide_false, Bool.and_self, Bool.or_self, Bool.and_true, Bool.true_and, Bool.and_false, Bool.false_and, Bool.or_true, Bool.true_or, Bool.or_false, Bool.false_or, Bool.not_true, Bool.not_false, cond_true, cond_false]
  | succ d ih =>
    intro i n hi hn
    obtain ⟨n, rfl⟩ : ∃ q, n = q + 1 := ⟨n - 1, by omega⟩
    have g := ih (i + 1) n (by omega) (by omega)
    have h1 := (rms.rg_get hr).2 i (by omega)
    unfold rms.pr.sp at hp
    rw [gvs.alf_iff] at hp
    have h2 := hp i (Nat.zero_le _) (by omega)
    rw [Bool.not_eq_true', Bool.or_eq_false_iff] at h2
    obtain ⟨c1, c2⟩ := h2
    rw [round]
    simp -implicitDefEqProofs (disch := omega) only [c1, c2, take_one, set_one, decide_eq_true, decide_eq_false, IntWalk.i64_in, beqT, beqF, bneT, bneF, nat_succ, ← Int.natCast_mul, ← Int.natCast_add, Int.toNat_natCast, Int.zero_mul, Int.zero_add, Int.add_zero, Nat.zero_add, Nat.add_zero, Nat.zero_mul, List.length_singleton, List.length_append, List.length_nil, List.length_cons, List.take_length, List.drop_zero, List.replicate_zero, List.take_nil, List.nil_append, Nat.reduceBEq, Nat.reduceMul, Nat.reduceLeDiff, eq_self, and_self, true_and, and_true, decide_true, decide_false, Bool.and_self, Bool.or_self, Bool.and_true, Bool.true_and, Bool.and_false, Bool.false_and, Bool.or_true, Bool.true_or, Bool.or_false, Bool.false_or, Bool.not_true, Bool.not_false, cond_true, cond_false]
    exact g
theorem run : ∀ args v new, R args = some (true, v, new) → ∃ fuel, runFn Try.prog (orc [⟨107, areFriends.R⟩, ⟨102, isAll.R⟩, ⟨110, keepRooms.R⟩]) hd Dr.std none fuel (bodyOf Try.f50) 45 [4, 5] args [] = some (v, new) := by
  intro args v new h
  unfold R at h
  split at h
  · rename_i fs m rm k
    simp only [Option.some.injEq, Prod.mk.injEq, Bool.and_eq_true, decide_eq_true_eq] at h
    obtain ⟨⟨⟨rfl, rfl, hl, h8⟩, ⟨hv, hr⟩, hu, hp, hs⟩, rfl, rfl⟩ := h
    obtain ⟨F, hF⟩ : ∃ F : Nat, F = 100 := ⟨100, rfl⟩
    refine ⟨F, ?_⟩
    have g := loop fs rm F hl h8 hv hr hp rm.length 0 F (by omega) (by omega)
    have hu2 : uniq.sq ((rm.length : Nat) : Int) [] rm = true := by rw [hl]; exact hu
    rw [start]
    simp -implicitDefEqProofs (disch := omega) only [hv, hs, hu2, take_one, set_one, decide_eq_true, decide_eq_false, IntWalk.i64_in, beqT, beqF, bneT, bneF, nat_succ, ← Int.natCast_mul, ← Int.natCast_add, Int.toNat_natCast, Int.zero_mul, Int.zero_add, Int.add_zero, Nat.zero_add, Nat.add_zero, Nat.zero_mul, List.length_singleton, List.length_append, List.length_nil, List.length_cons, List.take_length, List.drop_zero, List.replicate_zero, List.take_nil, List.nil_append, Nat.reduceBEq, Nat.reduceMul, Nat.reduceLeDiff, eq_self, and_self, true_and, and_true, decide_true, decide_false, Bool.and_self, Bool.or_self, Bool.and_true, Bool.true_and, Bool.and_false, Bool.false_and, Bool.or_true, Bool.true_or, Bool.or_false, Bool.false_or, Bool.not_true, Bool.not_false, cond_true, cond_false]
    exact g
  · cases h
theorem ok : EntOk Try.prog ⟨50, R⟩ :=
  ent_okA mixed (A := (orc [⟨107, areFriends.R⟩, ⟨102, isAll.R⟩, ⟨110, keepRooms.R⟩])) (orc_ok (by simp only [List.mem_cons, List.not_mem_nil, or_false, forall_eq_or_imp, forall_eq]; exact ⟨areFriends.ok, isAll.ok, keepRooms.ok⟩)) Try.func50 (by kernel_rfl) (by kernel_rfl) (n := 45) (ts := [4, 5]) (hd := hd) (dr := Dr.std) (cut := none) (by kernel_rfl) (by kernel_rfl) (by kernel_rfl) run
end iAreRooms

namespace sRoomsOfE
def R (args : List AVal) : Option (Bool × AVal) := match args with
  | [.ro (.rows .i64 fs) m 1] => some (decide (m = fs.length ∧ m ≤ 4611686018427387904) && short.sp 4611686018427387904 fs, .tup [.ro (.ints .i64 (rms.mo.sv fs)) (rms.mo.sv fs).length 1, .bool (rms.ok.sp fs)])
  | _ => none
theorem ok : EntFOk Try.prog ⟨49, R⟩ := by
  refine EntFOk.cases sRoomsOf.okt.nro sRoomsOf.okf.nro fun args v h => ?_
  unfold R at h
  split at h
  · rename_i fs m
    simp only [Option.some.injEq, Prod.mk.injEq, Bool.and_eq_true, decide_eq_true_eq] at h
    obtain ⟨⟨h1, h2⟩, rfl⟩ := h
    cases hb : rms.ok.sp fs
    · right
      have ev : rms.mo.sv fs = [] := by unfold rms.mo.sv; rw [hb]; rfl
      have e : sRoomsOf.Rf [.ro (.rows .i64 fs) m 1] = some (true, .tup [.nils, .bool false], []) := by
        simp only [sRoomsOf.Rf, sRoomsOf_f.R, decide_eq_true h1, h2, hb, Bool.and_self, Bool.not_false]
      unfold layN layF
      rw [e, ev]
      rfl
    · left
      have ev : rms.mo.sv fs = rms.out.sv fs := by unfold rms.mo.sv; rw [hb]; rfl
      have e : sRoomsOf.Rt [.ro (.rows .i64 fs) m 1] = some (true, .tup [.own 0 0 m 0 1, .bool true], [⟨.typ (.ints .i64 (rms.out.sv fs)), 0⟩]) := by
        simp only [sRoomsOf.Rt, sRoomsOf_t.R, decide_eq_true h1, h2, hb, Bool.and_self]
      unfold layN layF
      rw [e, ev, rms.out_len, h1.1]
      rfl
  · cases h
end sRoomsOfE

namespace iRoomsOfE
def R (args : List AVal) : Option (Bool × AVal) := match args with
  | [.ro (.rows .i64 fs) m 1] => some (decide (m = fs.length ∧ m ≤ 4611686018427387904) && short.sp 4611686018427387904 fs, .tup [.ro (.ints .i64 (rms.mo.sv fs)) (rms.mo.sv fs).length 1, .bool (rms.ok.sp fs)])
  | _ => none
theorem ok : EntFOk Try.prog ⟨48, R⟩ := by
  refine EntFOk.cases iRoomsOf.okt.nro iRoomsOf.okf.nro fun args v h => ?_
  unfold R at h
  split at h
  · rename_i fs m
    simp only [Option.some.injEq, Prod.mk.injEq, Bool.and_eq_true, decide_eq_true_eq] at h
    obtain ⟨⟨h1, h2⟩, rfl⟩ := h
    cases hb : rms.ok.sp fs
    · right
      have ev : rms.mo.sv fs = [] := by unfold rms.mo.sv; rw [hb]; rfl
      have e : iRoomsOf.Rf [.ro (.rows .i64 fs) m 1] = some (true, .tup [.nils, .bool false], []) := by
        simp only [iRoomsOf.Rf, iRoomsOf_f.R, decide_eq_true h1, h2, hb, Bool.and_self, Bool.not_false]
      unfold layN layF
      rw [e, ev]
      rfl
    · left
      have ev : rms.mo.sv fs = rms.out.sv fs := by unfold rms.mo.sv; rw [hb]; rfl
      have e : iRoomsOf.Rt [.ro (.rows .i64 fs) m 1] = some (true, .tup [.own 0 0 m 0 1, .bool true], [⟨.typ (.ints .i64 (rms.out.sv fs)), 0⟩]) := by
        simp only [iRoomsOf.Rt, iRoomsOf_t.R, decide_eq_true h1, h2, hb, Bool.and_self]
      unfold layN layF
      rw [e, ev, rms.out_len, h1.1]
      rfl
  · cases h
end iRoomsOfE


-- numbers
namespace gvs
/-- Bits as truths. -/
def ub.sv (n u : Nat) : List Bool := (List.range n).map fun i => !off.sp u i
theorem ub_len (n u : Nat) : (ub.sv n u).length = n := by simp [ub.sv]
theorem ub_zero (n : Nat) : ub.sv n 0 = List.replicate n false := by
  refine List.ext_getElem (by simp [ub.sv]) fun i h1 h2 => ?_
  have : off.sp 0 i = true := by simp [off.sp]
  simp [ub.sv, this]
theorem ub_get {n u x : Nat} (h : x < n) : gb (ub.sv n u) x = !off.sp u x := by
  rw [isAll.gb_eq (by rw [ub_len]; exact h)]
  simp [ub.sv]
theorem ub_set {n u x : Nat} (hu : u < 256) (hn : n ≤ 8) (hx : x < n) : (ub.sv n u).set x true = ub.sv n (up.sv u x) := by
  refine List.ext_getElem (by simp [ub.sv]) fun i h1 h2 => ?_
  have hi : i < n := by rw [ub_len] at h2; exact h2
  have e := up_off u hu x (by omega) i (by omega)
  rw [List.getElem_set]
  by_cases c : x = i
  · subst c
    rw [if_pos rfl]
    simp [ub.sv, e]
  · rw [if_neg c]
    simp [ub.sv, e, c]
theorem un_at {q : List Int} {u : Nat} : ∀ (d k m : Nat), k + d = m → 0 < d → un.sp q u m = true → off.sp (us.sv q u k) (gz q k).toNat = true
  | 0, k, m, _, h, _ => absurd h (by omega)
  | d + 1, k, m, h, _, hu => by
    obtain ⟨m, rfl⟩ : ∃ x, m = x + 1 := ⟨m - 1, by omega⟩
    rw [un.sp, Bool.and_eq_true] at hu
    cases d with
    | zero =>
      obtain rfl : k = m := by omega
      exact hu.2
    | succ d => exact un_at (d + 1) k m (by omega) (by omega) hu.1
theorem sk_at {Q : List (List Int)} {l : List Int} : ∀ (d k m : Nat), k + d = m → 0 < d → sk.sp Q l m = true → un.sp (gr Q (gz l k).toNat) (su.sv Q l k) (gr Q (gz l k).toNat).length = true
  | 0, k, m, _, h, _ => absurd h (by omega)
  | d + 1, k, m, h, _, hu => by
    obtain ⟨m, rfl⟩ : ∃ x, m = x + 1 := ⟨m - 1, by omega⟩
    rw [sk.sp, Bool.and_eq_true] at hu
    cases d with
    | zero =>
      obtain rfl : k = m := by omega
      exact hu.2
    | succ d => exact sk_at (d + 1) k m (by omega) (by omega) hu.1
theorem pk_get (Q : List (List Int)) (l : List Int) : ∀ m k, k < m → gr (pk.sv Q l m) k = gr Q (gz l k).toNat
  | 0, k, h => absurd h (by omega)
  | m + 1, k, h => by
    have hl := pk_length Q l m
    rw [pk.sv]
    rcases Nat.lt_or_ge k m with c | c
    · rw [gr_app (by omega)]; exact pk_get Q l m k c
    · obtain rfl : k = m := by omega
      have e := @gr_app_end (pk.sv Q l k) (gr Q (gz l k).toNat)
      rw [hl] at e
      exact e
/-- Rings of the law. -/
structure LQ (n : Nat) (Q : List (List Int)) (l : List Int) : Prop where
  n8 : n ≤ 8
  ran : ∀ k, k < l.length → ∀ x ∈ gr Q (gz l k).toNat, 0 ≤ x ∧ x < (n : Int)
  len : ∀ k, k < l.length → (gr Q (gz l k).toNat).length ≤ 8
  ok : sk.sp Q l l.length = true
theorem us_lt8 {q : List Int} {n : Nat} (h8 : n ≤ 8) (h : ∀ x ∈ q, 0 ≤ x ∧ x < (n : Int)) {u : Nat} (hu : u < 256) : ∀ k, k ≤ q.length → us.sv q u k < 256 := us_lt (fun x hx => by have := h x hx; omega) hu
theorem LQ.lt {n : Nat} {Q : List (List Int)} {l : List Int} (g : LQ n Q l) : ∀ k, k ≤ l.length → su.sv Q l k < 256
  | 0, _ => by rw [su.sv]; decide
  | k + 1, hk => us_lt8 g.n8 (g.ran k (by omega)) (g.lt k (by omega)) _ (Nat.le_refl _)
theorem cat_le' {α : Type} {P : Nat → List α} {B : Nat} : ∀ d k, (∀ j, k ≤ j → j < k + d → (P j).length ≤ B) → (cat P d k).length ≤ d * B
  | 0, _, _ => by simp [cat]
  | d + 1, k, h => by
    have a := cat_le' (P := P) d (k + 1) (fun j h1 h2 => h j (by omega) (by omega))
    have b := h k (by omega) (by omega)
    rw [cat, List.length_append, Nat.add_mul]
    omega
theorem rs_le {W : List (List Int)} (g : GV W) {L : Nat} (hL : L ≤ 4) : (rs.sv W L).length ≤ 16384 := by
  have h8 := g.h8
  have h1 : ∀ s, s ≤ 4 → (r1.sv W s).length ≤ 4096 := fun s hs => by
    have a := cat_le' (P := fun i => gw.sv W (s - 1) [(i : Int)]) (B := 512) W.length 0 (fun j _ hj => by
      have b := gw_le g (s - 1) _ (Rg.one (n := W.length) (i := j) (by omega))
      have c : 8 ^ (s - 1) ≤ 512 := Nat.pow_le_pow_right (n := 8) (by omega) (show s - 1 ≤ 3 by omega)
      show (gw.sv W (s - 1) [(j : Int)]).length ≤ 512
      omega)
    unfold r1.sv
    omega
  have a := cat_le' (P := fun s => r1.sv W s) (B := 4096) (L - 1) 2 (fun j _ hj => h1 j (by omega))
  unfold rs.sv
  omega
end gvs
namespace rms
theorem va_short {fs : List (List Int)} (h : va.sp fs = true) {b : Nat} (hb : 8 ≤ b) : short.sp b fs = true := by
  unfold va.sp at h
  rw [Bool.and_eq_true] at h
  obtain ⟨h1, h2⟩ := h
  simp only [ev.sp, Bool.and_eq_true, decide_eq_true_eq] at h1
  simp only [short.sp, List.all_eq_true, decide_eq_true_eq]
  intro r hr
  obtain ⟨k, hk, rfl⟩ := List.mem_iff_getElem.1 hr
  have := al_get h2 k hk
  rw [gr_eq hk] at this
  simp only [row.sp, Bool.and_eq_true, decide_eq_true_eq] at this
  omega
end rms

namespace fFriends
def R : List AVal → Option (Bool × AVal × List Blk)
  | [.ro (.ints .u8 xs) m 1, .ro (.ints .u8 ys) k 1] => some (decide (m = xs.length ∧ k = ys.length) && (r8.bytes.sp xs && r8.bytes.sp ys), .bool true, [])
  | _ => none
def hd : Nat → Head := fun i => bif eqN i 0 then ⟨[998, 4, 12, 13, 14, 15, 17, 109, 110], none⟩ else bif eqN i 2 then ⟨[998, 4, 20, 21, 24, 26, 27, 156, 157], none⟩ else ⟨[998, 4, 20, 21, 24, 26, 27, 28, 156, 157, 174, 175], none⟩
noncomputable def L0 (f n : Nat) (s : State) := loopAt Try.prog (orcF [⟨48, iRoomsOfE.R⟩, ⟨49, sRoomsOfE.R⟩] (orc [⟨36, b10Long.R⟩, ⟨37, b10At.R⟩, ⟨47, B10Friends.R⟩, ⟨44, b10Ints.R⟩, ⟨50, iAreRooms.R⟩, ⟨51, B10Gives.R⟩, ⟨52, iGiveRings.R⟩, ⟨53, sGiveRings.R⟩, ⟨26, iMostGivenE.R⟩, ⟨24, sMostGivenE.R⟩])) hd Dr.std 0 f (bodyOf Try.f7) 0 [true, true, true, true, true, true, true, true, true, true, true, true, true, false, true] (retK Try.prog [4] 0 none) n s
noncomputable def L2 (f n : Nat) (s : State) := loopAt Try.prog (orcF [⟨48, iRoomsOfE.R⟩, ⟨49, sRoomsOfE.R⟩] (orc [⟨36, b10Long.R⟩, ⟨37, b10At.R⟩, ⟨47, B10Friends.R⟩, ⟨44, b10Ints.R⟩, ⟨50, iAreRooms.R⟩, ⟨51, B10Gives.R⟩, ⟨52, iGiveRings.R⟩, ⟨53, sGiveRings.R⟩, ⟨26, iMostGivenE.R⟩, ⟨24, sMostGivenE.R⟩])) hd Dr.std 0 f (bodyOf Try.f7) 0 [true, true, true, true, true, true, true, true, true, true, true, true, true, true, true, true, true, true, true, true, true, false, true] (retK Try.prog [4] 0 none) n s
noncomputable def L4 (f n n2 : Nat) (s : State) := loopAt Try.prog (orcF [⟨48, iRoomsOfE.R⟩, ⟨49, sRoomsOfE.R⟩] (orc [⟨36, b10Long.R⟩, ⟨37, b10At.R⟩, ⟨47, B10Friends.R⟩, ⟨44, b10Ints.R⟩, ⟨50, iAreRooms.R⟩, ⟨51, B10Gives.R⟩, ⟨52, iGiveRings.R⟩, ⟨53, sGiveRings.R⟩, ⟨26, iMostGivenE.R⟩, ⟨24, sMostGivenE.R⟩])) hd Dr.std 0 f (bodyAt (bodyOf Try.f7) [true, true, true, true, true, true, true, true, true, true, true, true, true, true, true, true, true, true, true, true, true, false, true]) (curAt (bodyOf Try.f7) 0 [true, true, true, true, true, true, true, true, true, true, true, true, true, true, true, true, true, true, true, true, true, false, true]) [true, true, false, true, true, true] (iterK (normE 0 (hd (curAt (bodyOf Try.f7) 0 [true, true, true, true, true, true, true, true, true, true, true, true, true, true, true, true, true, true, true, true, true, false, true]))) (L2 f n) (contAt Try.prog (orcF [⟨48, iRoomsOfE.R⟩, ⟨49, sRoomsOfE.R⟩] (orc [⟨36, b10Long.R⟩, ⟨37, b10At.R⟩, ⟨47, B10Friends.R⟩, ⟨44, b10Ints.R⟩, ⟨50, iAreRooms.R⟩, ⟨51, B10Gives.R⟩, ⟨52, iGiveRings.R⟩, ⟨53, sGiveRings.R⟩, ⟨26, iMostGivenE.R⟩, ⟨24, sMostGivenE.R⟩])) hd Dr.std 0 f (bodyOf Try.f7) 0 [true, true, true, true, true, true, true, true, true, true, true, true, true, true, true, true, true, true, true, true, true, false, true] (retK Try.prog [4] 0 none))) n2 s
theorem start (xs ys : List Int) (f : Nat) :
  runFn Try.prog (orcF [⟨48, iRoomsOfE.R⟩, ⟨49, sRoomsOfE.R⟩] (orc [⟨36, b10Long.R⟩, ⟨37, b10At.R⟩, ⟨47, B10Friends.R⟩, ⟨44, b10Ints.R⟩, ⟨50, iAreRooms.R⟩, ⟨51, B10Gives.R⟩, ⟨52, iGiveRings.R⟩, ⟨53, sGiveRings.R⟩, ⟨26, iMostGivenE.R⟩, ⟨24, sMostGivenE.R⟩])) hd Dr.std none f (bodyOf Try.f7) 204 [4] [.ro (.ints .u8 xs) xs.length 1, .ro (.ints .u8 ys) ys.length 1] []
  = (bif true && (true && (true && true) || true && true) then bif decide ((1048576 : Int) < (↑xs.length : Int)) || decide ((1048576 : Int) < (↑ys.length : Int)) then some (AVal.bool true, []) else bif decide (ys.length = ys.length ∧ (0 : Int) ≤ (0 : Int) ∧ (0 : Int) ≤ (1000 : Int) ∧ (2 : Int) ≤ (3 : Int) ∧ (3 : Int) ≤ (1000 : Int)) && r8.bytes.sp ys && (true && true || true && true) then bif decide (xs.length = xs.length ∧ xs.length ≤ (2000000 : Nat) ∧ (1 : Int) ≤ IntKind.i64.wrap ((2 : Int) + IntKind.i64.wrap ((2 : Int) * wo.at.sv ys (Int.toNat (0 : Int)) (3 : Int))) ∧ IntKind.i64.wrap ((2 : Int) + IntKind.i64.wrap ((2 : Int) * wo.at.sv ys (Int.toNat (0 : Int)) (3 : Int))) ≤ (8 : Int)) && r8.bytes.sp xs && (true && (true && true) || false && true) then bif decide ((IntKind.i64.wrap ((2 : Int) + IntKind.i64.wrap ((2 : Int) * wo.at.sv ys (Int.toNat (0 : Int)) (3 : Int)))).toNat = (gvs.fd.sv xs (IntKind.i64.wrap ((2 : Int) + IntKind.i64.wrap ((2 : Int) * wo.at.sv ys (Int.toNat (0 : Int)) (3 : Int)))).toNat (IntKind.i64.wrap ((2 : Int) + IntKind.i64.wrap ((2 : Int) * wo.at.sv ys (Int.toNat (0 : Int)) (3 : Int)))).toNat (0 : Nat) (0 : Nat) (0 : Int) []).length ∧ (IntKind.i64.wrap ((2 : Int) + IntKind.i64.wrap ((2 : Int) * wo.at.sv ys (Int.toNat (0 : Int)) (3 : Int)))).toNat ≤ (4611686018427387904 : Nat)) && short.sp (4611686018427387904 : Nat) (gvs.fd.sv xs (IntKind.i64.wrap ((2 : Int) + IntKind.i64.wrap ((2 : Int) * wo.at.sv ys (0 : Nat) (3 : Int)))).toNat (IntKind.i64.wrap ((2 : Int) + IntKind.i64.wrap ((2 : Int) * wo.at.sv ys (0 : Nat) (3 : Int)))).toNat (0 : Nat) (0 : Nat) (0 : Int) []) then bif decide ((IntKind.i64.wrap ((2 : Int) + IntKind.i64.wrap ((2 : Int) * wo.at.sv ys (Int.toNat (0 : Int)) (3 : Int)))).toNat = (gvs.fd.sv xs (IntKind.i64.wrap ((2 : Int) + IntKind.i64.wrap ((2 : Int) * wo.at.sv ys (Int.toNat (0 : Int)) (3 : Int)))).toNat (IntKind.i64.wrap ((2 : Int) + IntKind.i64.wrap ((2 : Int) * wo.at.sv ys (Int.toNat (0 : Int)) (3 : Int)))).toNat (0 : Nat) (0 : Nat) (0 : Int) []).length ∧ (IntKind.i64.wrap ((2 : Int) + IntKind.i64.wrap ((2 : Int) * wo.at.sv ys (Int.toNat (0 : Int)) (3 : Int)))).toNat ≤ (4611686018427387904 : Nat)) && short.sp (4611686018427387904 : Nat) (gvs.fd.sv xs (IntKind.i64.wrap ((2 : Int) + IntKind.i64.wrap ((2 : Int) * wo.at.sv ys (0 : Nat) (3 : Int)))).toNat (IntKind.i64.wrap ((2 : Int) + IntKind.i64.wrap ((2 : Int) * wo.at.sv ys (0 : Nat) (3 : Int)))).toNat (0 : Nat) (0 : Nat) (0 : Int) []) then bif !rms.ok.sp (gvs.fd.sv xs (IntKind.i64.wrap ((2 : Int) + IntKind.i64.wrap ((2 : Int) * wo.at.sv ys (0 : Nat) (3 : Int)))).toNat (IntKind.i64.wrap ((2 : Int) + IntKind.i64.wrap ((2 : Int) * wo.at.sv ys (0 : Nat) (3 : Int)))).toNat (0 : Nat) (0 : Nat) (0 : Int) []) == rms.ok.sp (gvs.fd.sv xs (IntKind.i64.wrap ((2 : Int) + IntKind.i64.wrap ((2 : Int) * wo.at.sv ys (0 : Nat) (3 : Int)))).toNat (IntKind.i64.wrap ((2 : Int) + IntKind.i64.wrap ((2 : Int) * wo.at.sv ys (0 : Nat) (3 : Int)))).toNat (0 : Nat) (0 : Nat) (0 : Int) []) then some (AVal.bool false, []) else bif rms.ok.sp (gvs.fd.sv xs (IntKind.i64.wrap ((2 : Int) + IntKind.i64.wrap ((2 : Int) * wo.at.sv ys (0 : Nat) (3 : Int)))).toNat (IntKind.i64.wrap ((2 : Int) + IntKind.i64.wrap ((2 : Int) * wo.at.sv ys (0 : Nat) (3 : Int)))).toNat (0 : Nat) (0 : Nat) (0 : Int) []) then bif decide ((rms.mo.sv (gvs.fd.sv xs (IntKind.i64.wrap ((2 : Int) + IntKind.i64.wrap ((2 : Int) * wo.at.sv ys (Int.toNat (0 : Int)) (3 : Int)))).toNat (IntKind.i64.wrap ((2 : Int) + IntKind.i64.wrap ((2 : Int) * wo.at.sv ys (Int.toNat (0 : Int)) (3 : Int)))).toNat (0 : Nat) (0 : Nat) (0 : Int) [])).length = (rms.mo.sv (gvs.fd.sv xs (IntKind.i64.wrap ((2 : Int) + IntKind.i64.wrap ((2 : Int) * wo.at.sv ys (Int.toNat (0 : Int)) (3 : Int)))).toNat (IntKind.i64.wrap ((2 : Int) + IntKind.i64.wrap ((2 : Int) * wo.at.sv ys (Int.toNat (0 : Int)) (3 : Int)))).toNat (0 : Nat) (0 : Nat) (0 : Int) [])).length ∧ (rms.mo.sv (gvs.fd.sv xs (IntKind.i64.wrap ((2 : Int) + IntKind.i64.wrap ((2 : Int) * wo.at.sv ys (Int.toNat (0 : Int)) (3 : Int)))).toNat (IntKind.i64.wrap ((2 : Int) + IntKind.i64.wrap ((2 : Int) * wo.at.sv ys (Int.toNat (0 : Int)) (3 : Int)))).toNat (0 : Nat) (0 : Nat) (0 : Int) [])).length = (rms.mo.sv (gvs.fd.sv xs (IntKind.i64.wrap ((2 : Int) + IntKind.i64.wrap ((2 : Int) * wo.at.sv ys (Int.toNat (0 : Int)) (3 : Int)))).toNat (IntKind.i64.wrap ((2 : Int) + IntKind.i64.wrap ((2 : Int) * wo.at.sv ys (Int.toNat (0 : Int)) (3 : Int)))).toNat (0 : Nat) (0 : Nat) (0 : Int) [])).length ∧ (rms.mo.sv (gvs.fd.sv xs (IntKind.i64.wrap ((2 : Int) + IntKind.i64.wrap ((2 : Int) * wo.at.sv ys (Int.toNat (0 : Int)) (3 : Int)))).toNat (IntKind.i64.wrap ((2 : Int) + IntKind.i64.wrap ((2 : Int) * wo.at.sv ys (Int.toNat (0 : Int)) (3 : Int)))).toNat (0 : Nat) (0 : Nat) (0 : Int) [])).length ≤ (100 : Nat) ∧ rms.mo.sv (gvs.fd.sv xs (IntKind.i64.wrap ((2 : Int) + IntKind.i64.wrap ((2 : Int) * wo.at.sv ys (Int.toNat (0 : Int)) (3 : Int)))).toNat (IntKind.i64.wrap ((2 : Int) + IntKind.i64.wrap ((2 : Int) * wo.at.sv ys (Int.toNat (0 : Int)) (3 : Int)))).toNat (0 : Nat) (0 : Nat) (0 : Int) []) = rms.mo.sv (gvs.fd.sv xs (IntKind.i64.wrap ((2 : Int) + IntKind.i64.wrap ((2 : Int) * wo.at.sv ys (Int.toNat (0 : Int)) (3 : Int)))).toNat (IntKind.i64.wrap ((2 : Int) + IntKind.i64.wrap ((2 : Int) * wo.at.sv ys (Int.toNat (0 : Int)) (3 : Int)))).toNat (0 : Nat) (0 : Nat) (0 : Int) [])) && (true && (true && true) || true && true) then bif rms.ok.sp (gvs.fd.sv xs (IntKind.i64.wrap ((2 : Int) + IntKind.i64.wrap ((2 : Int) * wo.at.sv ys (0 : Nat) (3 : Int)))).toNat (IntKind.i64.wrap ((2 : Int) + IntKind.i64.wrap ((2 : Int) * wo.at.sv ys (0 : Nat) (3 : Int)))).toNat (0 : Nat) (0 : Nat) (0 : Int) []) then bif decide ((IntKind.i64.wrap ((2 : Int) + IntKind.i64.wrap ((2 : Int) * wo.at.sv ys (Int.toNat (0 : Int)) (3 : Int)))).toNat = (gvs.fd.sv xs (IntKind.i64.wrap ((2 : Int) + IntKind.i64.wrap ((2 : Int) * wo.at.sv ys (Int.toNat (0 : Int)) (3 : Int)))).toNat (IntKind.i64.wrap ((2 : Int) + IntKind.i64.wrap ((2 : Int) * wo.at.sv ys (Int.toNat (0 : Int)) (3 : Int)))).toNat (0 : Nat) (0 : Nat) (0 : Int) []).length ∧ (rms.mo.sv (gvs.fd.sv xs (IntKind.i64.wrap ((2 : Int) + IntKind.i64.wrap ((2 : Int) * wo.at.sv ys (Int.toNat (0 : Int)) (3 : Int)))).toNat (IntKind.i64.wrap ((2 : Int) + IntKind.i64.wrap ((2 : Int) * wo.at.sv ys (Int.toNat (0 : Int)) (3 : Int)))).toNat (0 : Nat) (0 : Nat) (0 : Int) [])).length = (rms.mo.sv (gvs.fd.sv xs (IntKind.i64.wrap ((2 : Int) + IntKind.i64.wrap ((2 : Int) * wo.at.sv ys (Int.toNat (0 : Int)) (3 : Int)))).toNat (IntKind.i64.wrap ((2 : Int) + IntKind.i64.wrap ((2 : Int) * wo.at.sv ys (Int.toNat (0 : Int)) (3 : Int)))).toNat (0 : Nat) (0 : Nat) (0 : Int) [])).length ∧ (rms.mo.sv (gvs.fd.sv xs (IntKind.i64.wrap ((2 : Int) + IntKind.i64.wrap ((2 : Int) * wo.at.sv ys (Int.toNat (0 : Int)) (3 : Int)))).toNat (IntKind.i64.wrap ((2 : Int) + IntKind.i64.wrap ((2 : Int) * wo.at.sv ys (Int.toNat (0 : Int)) (3 : Int)))).toNat (0 : Nat) (0 : Nat) (0 : Int) [])).length = (gvs.fd.sv xs (IntKind.i64.wrap ((2 : Int) + IntKind.i64.wrap ((2 : Int) * wo.at.sv ys (Int.toNat (0 : Int)) (3 : Int)))).toNat (IntKind.i64.wrap ((2 : Int) + IntKind.i64.wrap ((2 : Int) * wo.at.sv ys (Int.toNat (0 : Int)) (3 : Int)))).toNat (0 : Nat) (0 : Nat) (0 : Int) []).length ∧ (gvs.fd.sv xs (IntKind.i64.wrap ((2 : Int) + IntKind.i64.wrap ((2 : Int) * wo.at.sv ys (Int.toNat (0 : Int)) (3 : Int)))).toNat (IntKind.i64.wrap ((2 : Int) + IntKind.i64.wrap ((2 : Int) * wo.at.sv ys (Int.toNat (0 : Int)) (3 : Int)))).toNat (0 : Nat) (0 : Nat) (0 : Int) []).length ≤ (8 : Nat)) && (rms.va.sp (gvs.fd.sv xs (IntKind.i64.wrap ((2 : Int) + IntKind.i64.wrap ((2 : Int) * wo.at.sv ys (0 : Nat) (3 : Int)))).toNat (IntKind.i64.wrap ((2 : Int) + IntKind.i64.wrap ((2 : Int) * wo.at.sv ys (0 : Nat) (3 : Int)))).toNat (0 : Nat) (0 : Nat) (0 : Int) []) && rms.rg.sp (gvs.fd.sv xs (IntKind.i64.wrap ((2 : Int) + IntKind.i64.wrap ((2 : Int) * wo.at.sv ys (0 : Nat) (3 : Int)))).toNat (IntKind.i64.wrap ((2 : Int) + IntKind.i64.wrap ((2 : Int) * wo.at.sv ys (0 : Nat) (3 : Int)))).toNat (0 : Nat) (0 : Nat) (0 : Int) []).length (0 : Int) (rms.mo.sv (gvs.fd.sv xs (IntKind.i64.wrap ((2 : Int) + IntKind.i64.wrap ((2 : Int) * wo.at.sv ys (0 : Nat) (3 : Int)))).toNat (IntKind.i64.wrap ((2 : Int) + IntKind.i64.wrap ((2 : Int) * wo.at.sv ys (0 : Nat) (3 : Int)))).toNat (0 : Nat) (0 : Nat) (0 : Int) [])) && (uniq.sq (↑(gvs.fd.sv xs (IntKind.i64.wrap ((2 : Int) + IntKind.i64.wrap ((2 : Int) * wo.at.sv ys (0 : Nat) (3 : Int)))).toNat (IntKind.i64.wrap ((2 : Int) + IntKind.i64.wrap ((2 : Int) * wo.at.sv ys (0 : Nat) (3 : Int)))).toNat (0 : Nat) (0 : Nat) (0 : Int) []).length : Int) [] (rms.mo.sv (gvs.fd.sv xs (IntKind.i64.wrap ((2 : Int) + IntKind.i64.wrap ((2 : Int) * wo.at.sv ys (0 : Nat) (3 : Int)))).toNat (IntKind.i64.wrap ((2 : Int) + IntKind.i64.wrap ((2 : Int) * wo.at.sv ys (0 : Nat) (3 : Int)))).toNat (0 : Nat) (0 : Nat) (0 : Int) [])) && (rms.pr.sp (rms.mo.sv (gvs.fd.sv xs (IntKind.i64.wrap ((2 : Int) + IntKind.i64.wrap ((2 : Int) * wo.at.sv ys (0 : Nat) (3 : Int)))).toNat (IntKind.i64.wrap ((2 : Int) + IntKind.i64.wrap ((2 : Int) * wo.at.sv ys (0 : Nat) (3 : Int)))).toNat (0 : Nat) (0 : Nat) (0 : Int) [])) && short.sp (4611686018427387904 : Nat) (gvs.fd.sv xs (IntKind.i64.wrap ((2 : Int) + IntKind.i64.wrap ((2 : Int) * wo.at.sv ys (0 : Nat) (3 : Int)))).toNat (IntKind.i64.wrap ((2 : Int) + IntKind.i64.wrap ((2 : Int) * wo.at.sv ys (0 : Nat) (3 : Int)))).toNat (0 : Nat) (0 : Nat) (0 : Int) [])))) && (true && (true && true) || true && true && true) then bif !rms.q.sp (gvs.fd.sv xs (IntKind.i64.wrap ((2 : Int) + IntKind.i64.wrap ((2 : Int) * wo.at.sv ys (0 : Nat) (3 : Int)))).toNat (IntKind.i64.wrap ((2 : Int) + IntKind.i64.wrap ((2 : Int) * wo.at.sv ys (0 : Nat) (3 : Int)))).toNat (0 : Nat) (0 : Nat) (0 : Int) []) (rms.mo.sv (gvs.fd.sv xs (IntKind.i64.wrap ((2 : Int) + IntKind.i64.wrap ((2 : Int) * wo.at.sv ys (0 : Nat) (3 : Int)))).toNat (IntKind.i64.wrap ((2 : Int) + IntKind.i64.wrap ((2 : Int) * wo.at.sv ys (0 : Nat) (3 : Int)))).toNat (0 : Nat) (0 : Nat) (0 : Int) [])) then some (AVal.bool false, []) else bif decide (ys.length = ys.length ∧ (0 : Int) ≤ (1 : Int) ∧ (1 : Int) ≤ (1000 : Int) ∧ (2 : Int) ≤ (6 : Int) ∧ (6 : Int) ≤ (1000 : Int)) && r8.bytes.sp ys && (true && true || true && true) then bif decide (ys.length = ys.length ∧ ys.length ≤ (2000000 : Nat) ∧ (1 : Int) ≤ IntKind.i64.wrap ((1 : Int) + wo.at.sv ys (Int.toNat (1 : Int)) (6 : Int)) ∧ IntKind.i64.wrap ((1 : Int) + wo.at.sv ys (Int.toNat (1 : Int)) (6 : Int)) ≤ (8 : Int)) && (true && (true && true) || false && true) then bif decide (ys.length = ys.length ∧ (0 : Int) ≤ (2 : Int) ∧ (2 : Int) ≤ (1000 : Int) ∧ (2 : Int) ≤ (3 : Int) ∧ (3 : Int) ≤ (1000 : Int)) && r8.bytes.sp ys && (true && true || true && true) then bif decide ((IntKind.i64.wrap ((1 : Int) + wo.at.sv ys (1 : Nat) (6 : Int))).toNat = (gvs.gd.sv ys (IntKind.i64.wrap ((1 : Int) + wo.at.sv ys (1 : Nat) (6 : Int))).toNat (IntKind.i64.wrap ((1 : Int) + wo.at.sv ys (1 : Nat) (6 : Int))).toNat (0 : Nat) (0 : Nat) (0 : Int) []).length) && gvs.gv.sp (gvs.gd.sv ys (IntKind.i64.wrap ((1 : Int) + wo.at.sv ys (1 : Nat) (6 : Int))).toNat (IntKind.i64.wrap ((1 : Int) + wo.at.sv ys (1 : Nat) (6 : Int))).toNat (0 : Nat) (0 : Nat) (0 : Int) []) (IntKind.i64.wrap ((2 : Int) + wo.at.sv ys (2 : Nat) (3 : Int))) && (true && (true && true) || false && true && true) then bif decide ((IntKind.i64.wrap ((1 : Int) + wo.at.sv ys (1 : Nat) (6 : Int))).toNat = (gvs.gd.sv ys (IntKind.i64.wrap ((1 : Int) + wo.at.sv ys (1 : Nat) (6 : Int))).toNat (IntKind.i64.wrap ((1 : Int) + wo.at.sv ys (1 : Nat) (6 : Int))).toNat (0 : Nat) (0 : Nat) (0 : Int) []).length) && gvs.gv.sp (gvs.gd.sv ys (IntKind.i64.wrap ((1 : Int) + wo.at.sv ys (1 : Nat) (6 : Int))).toNat (IntKind.i64.wrap ((1 : Int) + wo.at.sv ys (1 : Nat) (6 : Int))).toNat (0 : Nat) (0 : Nat) (0 : Int) []) (IntKind.i64.wrap ((2 : Int) + wo.at.sv ys (2 : Nat) (3 : Int))) && (true && (true && true) || false && true && true) then bif (↑(gvs.rs.sv (gvs.gd.sv ys (IntKind.i64.wrap ((1 : Int) + wo.at.sv ys (1 : Nat) (6 : Int))).toNat (IntKind.i64.wrap ((1 : Int) + wo.at.sv ys (1 : Nat) (6 : Int))).toNat (0 : Nat) (0 : Nat) (0 : Int) []) (IntKind.i64.wrap ((2 : Int) + wo.at.sv ys (2 : Nat) (3 : Int))).toNat).length : Int) != (↑(gvs.rs.sv (gvs.gd.sv ys (IntKind.i64.wrap ((1 : Int) + wo.at.sv ys (1 : Nat) (6 : Int))).toNat (IntKind.i64.wrap ((1 : Int) + wo.at.sv ys (1 : Nat) (6 : Int))).toNat (0 : Nat) (0 : Nat) (0 : Int) []) (IntKind.i64.wrap ((2 : Int) + wo.at.sv ys (2 : Nat) (3 : Int))).toNat).length : Int) then some (AVal.bool false, []) else L0 f f (mkS (204 : Nat) [((4 : Nat), AVal.bool false), ((12 : Nat), AVal.int IntKind.i64 (IntKind.i64.wrap ((1 : Int) + wo.at.sv ys (1 : Nat) (6 : Int)))), ((13 : Nat), AVal.ro (Cont.rows IntKind.i64 (gvs.gd.sv ys (IntKind.i64.wrap ((1 : Int) + wo.at.sv ys (1 : Nat) (6 : Int))).toNat (IntKind.i64.wrap ((1 : Int) + wo.at.sv ys (1 : Nat) (6 : Int))).toNat (0 : Nat) (0 : Nat) (0 : Int) [])) (IntKind.i64.wrap ((1 : Int) + wo.at.sv ys (1 : Nat) (6 : Int))).toNat (1 : Nat)), ((14 : Nat), AVal.int IntKind.i64 (IntKind.i64.wrap ((2 : Int) + wo.at.sv ys (2 : Nat) (3 : Int)))), ((15 : Nat), AVal.ro (Cont.rows IntKind.i64 (gvs.rs.sv (gvs.gd.sv ys (IntKind.i64.wrap ((1 : Int) + wo.at.sv ys (1 : Nat) (6 : Int))).toNat (IntKind.i64.wrap ((1 : Int) + wo.at.sv ys (1 : Nat) (6 : Int))).toNat (0 : Nat) (0 : Nat) (0 : Int) []) (IntKind.i64.wrap ((2 : Int) + wo.at.sv ys (2 : Nat) (3 : Int))).toNat)) (gvs.rs.sv (gvs.gd.sv ys (IntKind.i64.wrap ((1 : Int) + wo.at.sv ys (1 : Nat) (6 : Int))).toNat (IntKind.i64.wrap ((1 : Int) + wo.at.sv ys (1 : Nat) (6 : Int))).toNat (0 : Nat) (0 : Nat) (0 : Int) []) (IntKind.i64.wrap ((2 : Int) + wo.at.sv ys (2 : Nat) (3 : Int))).toNat).length (1 : Nat)), ((17 : Nat), AVal.ro (Cont.rows IntKind.i64 (gvs.rs.sv (gvs.gd.sv ys (IntKind.i64.wrap ((1 : Int) + wo.at.sv ys (1 : Nat) (6 : Int))).toNat (IntKind.i64.wrap ((1 : Int) + wo.at.sv ys (1 : Nat) (6 : Int))).toNat (0 : Nat) (0 : Nat) (0 : Int) []) (IntKind.i64.wrap ((2 : Int) + wo.at.sv ys (2 : Nat) (3 : Int))).toNat)) (gvs.rs.sv (gvs.gd.sv ys (IntKind.i64.wrap ((1 : Int) + wo.at.sv ys (1 : Nat) (6 : Int))).toNat (IntKind.i64.wrap ((1 : Int) + wo.at.sv ys (1 : Nat) (6 : Int))).toNat (0 : Nat) (0 : Nat) (0 : Int) []) (IntKind.i64.wrap ((2 : Int) + wo.at.sv ys (2 : Nat) (3 : Int))).toNat).length (1 : Nat)), ((109 : Nat), AVal.int IntKind.i64 (↑(gvs.rs.sv (gvs.gd.sv ys (IntKind.i64.wrap ((1 : Int) + wo.at.sv ys (1 : Nat) (6 : Int))).toNat (IntKind.i64.wrap ((1 : Int) + wo.at.sv ys (1 : Nat) (6 : Int))).toNat (0 : Nat) (0 : Nat) (0 : Int) []) (IntKind.i64.wrap ((2 : Int) + wo.at.sv ys (2 : Nat) (3 : Int))).toNat).length : Int)), ((110 : Nat), AVal.int IntKind.i64 (0 : Int))] []) else none else none else none else none else none else none else bif decide (ys.length = ys.length ∧ (0 : Int) ≤ (1 : Int) ∧ (1 : Int) ≤ (1000 : Int) ∧ (2 : Int) ≤ (6 : Int) ∧ (6 : Int) ≤ (1000 : Int)) && r8.bytes.sp ys && (true && true || true && true) then bif decide (ys.length = ys.length ∧ ys.length ≤ (2000000 : Nat) ∧ (1 : Int) ≤ IntKind.i64.wrap ((1 : Int) + wo.at.sv ys (Int.toNat (1 : Int)) (6 : Int)) ∧ IntKind.i64.wrap ((1 : Int) + wo.at.sv ys (Int.toNat (1 : Int)) (6 : Int)) ≤ (8 : Int)) && (true && (true && true) || false && true) then bif decide (ys.length = ys.length ∧ (0 : Int) ≤ (2 : Int) ∧ (2 : Int) ≤ (1000 : Int) ∧ (2 : Int) ≤ (3 : Int) ∧ (3 : Int) ≤ (1000 : Int)) && r8.bytes.sp ys && (true && true || true && true) then bif decide ((IntKind.i64.wrap ((1 : Int) + wo.at.sv ys (1 : Nat) (6 : Int))).toNat = (gvs.gd.sv ys (IntKind.i64.wrap ((1 : Int) + wo.at.sv ys (1 : Nat) (6 : Int))).toNat (IntKind.i64.wrap ((1 : Int) + wo.at.sv ys (1 : Nat) (6 : Int))).toNat (0 : Nat) (0 : Nat) (0 : Int) []).length) && gvs.gv.sp (gvs.gd.sv ys (IntKind.i64.wrap ((1 : Int) + wo.at.sv ys (1 : Nat) (6 : Int))).toNat (IntKind.i64.wrap ((1 : Int) + wo.at.sv ys (1 : Nat) (6 : Int))).toNat (0 : Nat) (0 : Nat) (0 : Int) []) (IntKind.i64.wrap ((2 : Int) + wo.at.sv ys (2 : Nat) (3 : Int))) && (true && (true && true) || false && true && true) then bif decide ((IntKind.i64.wrap ((1 : Int) + wo.at.sv ys (1 : Nat) (6 : Int))).toNat = (gvs.gd.sv ys (IntKind.i64.wrap ((1 : Int) + wo.at.sv ys (1 : Nat) (6 : Int))).toNat (IntKind.i64.wrap ((1 : Int) + wo.at.sv ys (1 : Nat) (6 : Int))).toNat (0 : Nat) (0 : Nat) (0 : Int) []).length) && gvs.gv.sp (gvs.gd.sv ys (IntKind.i64.wrap ((1 : Int) + wo.at.sv ys (1 : Nat) (6 : Int))).toNat (IntKind.i64.wrap ((1 : Int) + wo.at.sv ys (1 : Nat) (6 : Int))).toNat (0 : Nat) (0 : Nat) (0 : Int) []) (IntKind.i64.wrap ((2 : Int) + wo.at.sv ys (2 : Nat) (3 : Int))) && (true && (true && true) || false && true && true) then bif (↑(gvs.rs.sv (gvs.gd.sv ys (IntKind.i64.wrap ((1 : Int) + wo.at.sv ys (1 : Nat) (6 : Int))).toNat (IntKind.i64.wrap ((1 : Int) + wo.at.sv ys (1 : Nat) (6 : Int))).toNat (0 : Nat) (0 : Nat) (0 : Int) []) (IntKind.i64.wrap ((2 : Int) + wo.at.sv ys (2 : Nat) (3 : Int))).toNat).length : Int) != (↑(gvs.rs.sv (gvs.gd.sv ys (IntKind.i64.wrap ((1 : Int) + wo.at.sv ys (1 : Nat) (6 : Int))).toNat (IntKind.i64.wrap ((1 : Int) + wo.at.sv ys (1 : Nat) (6 : Int))).toNat (0 : Nat) (0 : Nat) (0 : Int) []) (IntKind.i64.wrap ((2 : Int) + wo.at.sv ys (2 : Nat) (3 : Int))).toNat).length : Int) then some (AVal.bool false, []) else L0 f f (mkS (204 : Nat) [((4 : Nat), AVal.bool false), ((12 : Nat), AVal.int IntKind.i64 (IntKind.i64.wrap ((1 : Int) + wo.at.sv ys (1 : Nat) (6 : Int)))), ((13 : Nat), AVal.ro (Cont.rows IntKind.i64 (gvs.gd.sv ys (IntKind.i64.wrap ((1 : Int) + wo.at.sv ys (1 : Nat) (6 : Int))).toNat (IntKind.i64.wrap ((1 : Int) + wo.at.sv ys (1 : Nat) (6 : Int))).toNat (0 : Nat) (0 : Nat) (0 : Int) [])) (IntKind.i64.wrap ((1 : Int) + wo.at.sv ys (1 : Nat) (6 : Int))).toNat (1 : Nat)), ((14 : Nat), AVal.int IntKind.i64 (IntKind.i64.wrap ((2 : Int) + wo.at.sv ys (2 : Nat) (3 : Int)))), ((15 : Nat), AVal.ro (Cont.rows IntKind.i64 (gvs.rs.sv (gvs.gd.sv ys (IntKind.i64.wrap ((1 : Int) + wo.at.sv ys (1 : Nat) (6 : Int))).toNat (IntKind.i64.wrap ((1 : Int) + wo.at.sv ys (1 : Nat) (6 : Int))).toNat (0 : Nat) (0 : Nat) (0 : Int) []) (IntKind.i64.wrap ((2 : Int) + wo.at.sv ys (2 : Nat) (3 : Int))).toNat)) (gvs.rs.sv (gvs.gd.sv ys (IntKind.i64.wrap ((1 : Int) + wo.at.sv ys (1 : Nat) (6 : Int))).toNat (IntKind.i64.wrap ((1 : Int) + wo.at.sv ys (1 : Nat) (6 : Int))).toNat (0 : Nat) (0 : Nat) (0 : Int) []) (IntKind.i64.wrap ((2 : Int) + wo.at.sv ys (2 : Nat) (3 : Int))).toNat).length (1 : Nat)), ((17 : Nat), AVal.ro (Cont.rows IntKind.i64 (gvs.rs.sv (gvs.gd.sv ys (IntKind.i64.wrap ((1 : Int) + wo.at.sv ys (1 : Nat) (6 : Int))).toNat (IntKind.i64.wrap ((1 : Int) + wo.at.sv ys (1 : Nat) (6 : Int))).toNat (0 : Nat) (0 : Nat) (0 : Int) []) (IntKind.i64.wrap ((2 : Int) + wo.at.sv ys (2 : Nat) (3 : Int))).toNat)) (gvs.rs.sv (gvs.gd.sv ys (IntKind.i64.wrap ((1 : Int) + wo.at.sv ys (1 : Nat) (6 : Int))).toNat (IntKind.i64.wrap ((1 : Int) + wo.at.sv ys (1 : Nat) (6 : Int))).toNat (0 : Nat) (0 : Nat) (0 : Int) []) (IntKind.i64.wrap ((2 : Int) + wo.at.sv ys (2 : Nat) (3 : Int))).toNat).length (1 : Nat)), ((109 : Nat), AVal.int IntKind.i64 (↑(gvs.rs.sv (gvs.gd.sv ys (IntKind.i64.wrap ((1 : Int) + wo.at.sv ys (1 : Nat) (6 : Int))).toNat (IntKind.i64.wrap ((1 : Int) + wo.at.sv ys (1 : Nat) (6 : Int))).toNat (0 : Nat) (0 : Nat) (0 : Int) []) (IntKind.i64.wrap ((2 : Int) + wo.at.sv ys (2 : Nat) (3 : Int))).toNat).length : Int)), ((110 : Nat), AVal.int IntKind.i64 (0 : Int))] []) else none else none else none else none else none else none else bif rms.ok.sp (gvs.fd.sv xs (IntKind.i64.wrap ((2 : Int) + IntKind.i64.wrap ((2 : Int) * wo.at.sv ys (0 : Nat) (3 : Int)))).toNat (IntKind.i64.wrap ((2 : Int) + IntKind.i64.wrap ((2 : Int) * wo.at.sv ys (0 : Nat) (3 : Int)))).toNat (0 : Nat) (0 : Nat) (0 : Int) []) then bif decide ((IntKind.i64.wrap ((2 : Int) + IntKind.i64.wrap ((2 : Int) * wo.at.sv ys (Int.toNat (0 : Int)) (3 : Int)))).toNat = (gvs.fd.sv xs (IntKind.i64.wrap ((2 : Int) + IntKind.i64.wrap ((2 : Int) * wo.at.sv ys (Int.toNat (0 : Int)) (3 : Int)))).toNat (IntKind.i64.wrap ((2 : Int) + IntKind.i64.wrap ((2 : Int) * wo.at.sv ys (Int.toNat (0 : Int)) (3 : Int)))).toNat (0 : Nat) (0 : Nat) (0 : Int) []).length ∧ (rms.mo.sv (gvs.fd.sv xs (IntKind.i64.wrap ((2 : Int) + IntKind.i64.wrap ((2 : Int) * wo.at.sv ys (Int.toNat (0 : Int)) (3 : Int)))).toNat (IntKind.i64.wrap ((2 : Int) + IntKind.i64.wrap ((2 : Int) * wo.at.sv ys (Int.toNat (0 : Int)) (3 : Int)))).toNat (0 : Nat) (0 : Nat) (0 : Int) [])).length = (rms.mo.sv (gvs.fd.sv xs (IntKind.i64.wrap ((2 : Int) + IntKind.i64.wrap ((2 : Int) * wo.at.sv ys (Int.toNat (0 : Int)) (3 : Int)))).toNat (IntKind.i64.wrap ((2 : Int) + IntKind.i64.wrap ((2 : Int) * wo.at.sv ys (Int.toNat (0 : Int)) (3 : Int)))).toNat (0 : Nat) (0 : Nat) (0 : Int) [])).length ∧ (rms.mo.sv (gvs.fd.sv xs (IntKind.i64.wrap ((2 : Int) + IntKind.i64.wrap ((2 : Int) * wo.at.sv ys (Int.toNat (0 : Int)) (3 : Int)))).toNat (IntKind.i64.wrap ((2 : Int) + IntKind.i64.wrap ((2 : Int) * wo.at.sv ys (Int.toNat (0 : Int)) (3 : Int)))).toNat (0 : Nat) (0 : Nat) (0 : Int) [])).length = (gvs.fd.sv xs (IntKind.i64.wrap ((2 : Int) + IntKind.i64.wrap ((2 : Int) * wo.at.sv ys (Int.toNat (0 : Int)) (3 : Int)))).toNat (IntKind.i64.wrap ((2 : Int) + IntKind.i64.wrap ((2 : Int) * wo.at.sv ys (Int.toNat (0 : Int)) (3 : Int)))).toNat (0 : Nat) (0 : Nat) (0 : Int) []).length ∧ (gvs.fd.sv xs (IntKind.i64.wrap ((2 : Int) + IntKind.i64.wrap ((2 : Int) * wo.at.sv ys (Int.toNat (0 : Int)) (3 : Int)))).toNat (IntKind.i64.wrap ((2 : Int) + IntKind.i64.wrap ((2 : Int) * wo.at.sv ys (Int.toNat (0 : Int)) (3 : Int)))).toNat (0 : Nat) (0 : Nat) (0 : Int) []).length ≤ (8 : Nat)) && (rms.va.sp (gvs.fd.sv xs (IntKind.i64.wrap ((2 : Int) + IntKind.i64.wrap ((2 : Int) * wo.at.sv ys (0 : Nat) (3 : Int)))).toNat (IntKind.i64.wrap ((2 : Int) + IntKind.i64.wrap ((2 : Int) * wo.at.sv ys (0 : Nat) (3 : Int)))).toNat (0 : Nat) (0 : Nat) (0 : Int) []) && rms.rg.sp (gvs.fd.sv xs (IntKind.i64.wrap ((2 : Int) + IntKind.i64.wrap ((2 : Int) * wo.at.sv ys (0 : Nat) (3 : Int)))).toNat (IntKind.i64.wrap ((2 : Int) + IntKind.i64.wrap ((2 : Int) * wo.at.sv ys (0 : Nat) (3 : Int)))).toNat (0 : Nat) (0 : Nat) (0 : Int) []).length (0 : Int) (rms.mo.sv (gvs.fd.sv xs (IntKind.i64.wrap ((2 : Int) + IntKind.i64.wrap ((2 : Int) * wo.at.sv ys (0 : Nat) (3 : Int)))).toNat (IntKind.i64.wrap ((2 : Int) + IntKind.i64.wrap ((2 : Int) * wo.at.sv ys (0 : Nat) (3 : Int)))).toNat (0 : Nat) (0 : Nat) (0 : Int) [])) && (uniq.sq (↑(gvs.fd.sv xs (IntKind.i64.wrap ((2 : Int) + IntKind.i64.wrap ((2 : Int) * wo.at.sv ys (0 : Nat) (3 : Int)))).toNat (IntKind.i64.wrap ((2 : Int) + IntKind.i64.wrap ((2 : Int) * wo.at.sv ys (0 : Nat) (3 : Int)))).toNat (0 : Nat) (0 : Nat) (0 : Int) []).length : Int) [] (rms.mo.sv (gvs.fd.sv xs (IntKind.i64.wrap ((2 : Int) + IntKind.i64.wrap ((2 : Int) * wo.at.sv ys (0 : Nat) (3 : Int)))).toNat (IntKind.i64.wrap ((2 : Int) + IntKind.i64.wrap ((2 : Int) * wo.at.sv ys (0 : Nat) (3 : Int)))).toNat (0 : Nat) (0 : Nat) (0 : Int) [])) && (rms.pr.sp (rms.mo.sv (gvs.fd.sv xs (IntKind.i64.wrap ((2 : Int) + IntKind.i64.wrap ((2 : Int) * wo.at.sv ys (0 : Nat) (3 : Int)))).toNat (IntKind.i64.wrap ((2 : Int) + IntKind.i64.wrap ((2 : Int) * wo.at.sv ys (0 : Nat) (3 : Int)))).toNat (0 : Nat) (0 : Nat) (0 : Int) [])) && short.sp (4611686018427387904 : Nat) (gvs.fd.sv xs (IntKind.i64.wrap ((2 : Int) + IntKind.i64.wrap ((2 : Int) * wo.at.sv ys (0 : Nat) (3 : Int)))).toNat (IntKind.i64.wrap ((2 : Int) + IntKind.i64.wrap ((2 : Int) * wo.at.sv ys (0 : Nat) (3 : Int)))).toNat (0 : Nat) (0 : Nat) (0 : Int) [])))) && (true && (true && true) || true && true && true) then bif !rms.q.sp (gvs.fd.sv xs (IntKind.i64.wrap ((2 : Int) + IntKind.i64.wrap ((2 : Int) * wo.at.sv ys (0 : Nat) (3 : Int)))).toNat (IntKind.i64.wrap ((2 : Int) + IntKind.i64.wrap ((2 : Int) * wo.at.sv ys (0 : Nat) (3 : Int)))).toNat (0 : Nat) (0 : Nat) (0 : Int) []) (rms.mo.sv (gvs.fd.sv xs (IntKind.i64.wrap ((2 : Int) + IntKind.i64.wrap ((2 : Int) * wo.at.sv ys (0 : Nat) (3 : Int)))).toNat (IntKind.i64.wrap ((2 : Int) + IntKind.i64.wrap ((2 : Int) * wo.at.sv ys (0 : Nat) (3 : Int)))).toNat (0 : Nat) (0 : Nat) (0 : Int) [])) then some (AVal.bool false, []) else bif decide (ys.length = ys.length ∧ (0 : Int) ≤ (1 : Int) ∧ (1 : Int) ≤ (1000 : Int) ∧ (2 : Int) ≤ (6 : Int) ∧ (6 : Int) ≤ (1000 : Int)) && r8.bytes.sp ys && (true && true || true && true) then bif decide (ys.length = ys.length ∧ ys.length ≤ (2000000 : Nat) ∧ (1 : Int) ≤ IntKind.i64.wrap ((1 : Int) + wo.at.sv ys (Int.toNat (1 : Int)) (6 : Int)) ∧ IntKind.i64.wrap ((1 : Int) + wo.at.sv ys (Int.toNat (1 : Int)) (6 : Int)) ≤ (8 : Int)) && (true && (true && true) || false && true) then bif decide (ys.length = ys.length ∧ (0 : Int) ≤ (2 : Int) ∧ (2 : Int) ≤ (1000 : Int) ∧ (2 : Int) ≤ (3 : Int) ∧ (3 : Int) ≤ (1000 : Int)) && r8.bytes.sp ys && (true && true || true && true) then bif decide ((IntKind.i64.wrap ((1 : Int) + wo.at.sv ys (1 : Nat) (6 : Int))).toNat = (gvs.gd.sv ys (IntKind.i64.wrap ((1 : Int) + wo.at.sv ys (1 : Nat) (6 : Int))).toNat (IntKind.i64.wrap ((1 : Int) + wo.at.sv ys (1 : Nat) (6 : Int))).toNat (0 : Nat) (0 : Nat) (0 : Int) []).length) && gvs.gv.sp (gvs.gd.sv ys (IntKind.i64.wrap ((1 : Int) + wo.at.sv ys (1 : Nat) (6 : Int))).toNat (IntKind.i64.wrap ((1 : Int) + wo.at.sv ys (1 : Nat) (6 : Int))).toNat (0 : Nat) (0 : Nat) (0 : Int) []) (IntKind.i64.wrap ((2 : Int) + wo.at.sv ys (2 : Nat) (3 : Int))) && (true && (true && true) || false && true && true) then bif decide ((IntKind.i64.wrap ((1 : Int) + wo.at.sv ys (1 : Nat) (6 : Int))).toNat = (gvs.gd.sv ys (IntKind.i64.wrap ((1 : Int) + wo.at.sv ys (1 : Nat) (6 : Int))).toNat (IntKind.i64.wrap ((1 : Int) + wo.at.sv ys (1 : Nat) (6 : Int))).toNat (0 : Nat) (0 : Nat) (0 : Int) []).length) && gvs.gv.sp (gvs.gd.sv ys (IntKind.i64.wrap ((1 : Int) + wo.at.sv ys (1 : Nat) (6 : Int))).toNat (IntKind.i64.wrap ((1 : Int) + wo.at.sv ys (1 : Nat) (6 : Int))).toNat (0 : Nat) (0 : Nat) (0 : Int) []) (IntKind.i64.wrap ((2 : Int) + wo.at.sv ys (2 : Nat) (3 : Int))) && (true && (true && true) || false && true && true) then bif (↑(gvs.rs.sv (gvs.gd.sv ys (IntKind.i64.wrap ((1 : Int) + wo.at.sv ys (1 : Nat) (6 : Int))).toNat (IntKind.i64.wrap ((1 : Int) + wo.at.sv ys (1 : Nat) (6 : Int))).toNat (0 : Nat) (0 : Nat) (0 : Int) []) (IntKind.i64.wrap ((2 : Int) + wo.at.sv ys (2 : Nat) (3 : Int))).toNat).length : Int) != (↑(gvs.rs.sv (gvs.gd.sv ys (IntKind.i64.wrap ((1 : Int) + wo.at.sv ys (1 : Nat) (6 : Int))).toNat (IntKind.i64.wrap ((1 : Int) + wo.at.sv ys (1 : Nat) (6 : Int))).toNat (0 : Nat) (0 : Nat) (0 : Int) []) (IntKind.i64.wrap ((2 : Int) + wo.at.sv ys (2 : Nat) (3 : Int))).toNat).length : Int) then some (AVal.bool false, []) else L0 f f (mkS (204 : Nat) [((4 : Nat), AVal.bool false), ((12 : Nat), AVal.int IntKind.i64 (IntKind.i64.wrap ((1 : Int) + wo.at.sv ys (1 : Nat) (6 : Int)))), ((13 : Nat), AVal.ro (Cont.rows IntKind.i64 (gvs.gd.sv ys (IntKind.i64.wrap ((1 : Int) + wo.at.sv ys (1 : Nat) (6 : Int))).toNat (IntKind.i64.wrap ((1 : Int) + wo.at.sv ys (1 : Nat) (6 : Int))).toNat (0 : Nat) (0 : Nat) (0 : Int) [])) (IntKind.i64.wrap ((1 : Int) + wo.at.sv ys (1 : Nat) (6 : Int))).toNat (1 : Nat)), ((14 : Nat), AVal.int IntKind.i64 (IntKind.i64.wrap ((2 : Int) + wo.at.sv ys (2 : Nat) (3 : Int)))), ((15 : Nat), AVal.ro (Cont.rows IntKind.i64 (gvs.rs.sv (gvs.gd.sv ys (IntKind.i64.wrap ((1 : Int) + wo.at.sv ys (1 : Nat) (6 : Int))).toNat (IntKind.i64.wrap ((1 : Int) + wo.at.sv ys (1 : Nat) (6 : Int))).toNat (0 : Nat) (0 : Nat) (0 : Int) []) (IntKind.i64.wrap ((2 : Int) + wo.at.sv ys (2 : Nat) (3 : Int))).toNat)) (gvs.rs.sv (gvs.gd.sv ys (IntKind.i64.wrap ((1 : Int) + wo.at.sv ys (1 : Nat) (6 : Int))).toNat (IntKind.i64.wrap ((1 : Int) + wo.at.sv ys (1 : Nat) (6 : Int))).toNat (0 : Nat) (0 : Nat) (0 : Int) []) (IntKind.i64.wrap ((2 : Int) + wo.at.sv ys (2 : Nat) (3 : Int))).toNat).length (1 : Nat)), ((17 : Nat), AVal.ro (Cont.rows IntKind.i64 (gvs.rs.sv (gvs.gd.sv ys (IntKind.i64.wrap ((1 : Int) + wo.at.sv ys (1 : Nat) (6 : Int))).toNat (IntKind.i64.wrap ((1 : Int) + wo.at.sv ys (1 : Nat) (6 : Int))).toNat (0 : Nat) (0 : Nat) (0 : Int) []) (IntKind.i64.wrap ((2 : Int) + wo.at.sv ys (2 : Nat) (3 : Int))).toNat)) (gvs.rs.sv (gvs.gd.sv ys (IntKind.i64.wrap ((1 : Int) + wo.at.sv ys (1 : Nat) (6 : Int))).toNat (IntKind.i64.wrap ((1 : Int) + wo.at.sv ys (1 : Nat) (6 : Int))).toNat (0 : Nat) (0 : Nat) (0 : Int) []) (IntKind.i64.wrap ((2 : Int) + wo.at.sv ys (2 : Nat) (3 : Int))).toNat).length (1 : Nat)), ((109 : Nat), AVal.int IntKind.i64 (↑(gvs.rs.sv (gvs.gd.sv ys (IntKind.i64.wrap ((1 : Int) + wo.at.sv ys (1 : Nat) (6 : Int))).toNat (IntKind.i64.wrap ((1 : Int) + wo.at.sv ys (1 : Nat) (6 : Int))).toNat (0 : Nat) (0 : Nat) (0 : Int) []) (IntKind.i64.wrap ((2 : Int) + wo.at.sv ys (2 : Nat) (3 : Int))).toNat).length : Int)), ((110 : Nat), AVal.int IntKind.i64 (0 : Int))] []) else none else none else none else none else none else none else bif decide (ys.length = ys.length ∧ (0 : Int) ≤ (1 : Int) ∧ (1 : Int) ≤ (1000 : Int) ∧ (2 : Int) ≤ (6 : Int) ∧ (6 : Int) ≤ (1000 : Int)) && r8.bytes.sp ys && (true && true || true && true) then bif decide (ys.length = ys.length ∧ ys.length ≤ (2000000 : Nat) ∧ (1 : Int) ≤ IntKind.i64.wrap ((1 : Int) + wo.at.sv ys (Int.toNat (1 : Int)) (6 : Int)) ∧ IntKind.i64.wrap ((1 : Int) + wo.at.sv ys (Int.toNat (1 : Int)) (6 : Int)) ≤ (8 : Int)) && (true && (true && true) || false && true) then bif decide (ys.length = ys.length ∧ (0 : Int) ≤ (2 : Int) ∧ (2 : Int) ≤ (1000 : Int) ∧ (2 : Int) ≤ (3 : Int) ∧ (3 : Int) ≤ (1000 : Int)) && r8.bytes.sp ys && (true && true || true && true) then bif decide ((IntKind.i64.wrap ((1 : Int) + wo.at.sv ys (1 : Nat) (6 : Int))).toNat = (gvs.gd.sv ys (IntKind.i64.wrap ((1 : Int) + wo.at.sv ys (1 : Nat) (6 : Int))).toNat (IntKind.i64.wrap ((1 : Int) + wo.at.sv ys (1 : Nat) (6 : Int))).toNat (0 : Nat) (0 : Nat) (0 : Int) []).length) && gvs.gv.sp (gvs.gd.sv ys (IntKind.i64.wrap ((1 : Int) + wo.at.sv ys (1 : Nat) (6 : Int))).toNat (IntKind.i64.wrap ((1 : Int) + wo.at.sv ys (1 : Nat) (6 : Int))).toNat (0 : Nat) (0 : Nat) (0 : Int) []) (IntKind.i64.wrap ((2 : Int) + wo.at.sv ys (2 : Nat) (3 : Int))) && (true && (true && true) || false && true && true) then bif decide ((IntKind.i64.wrap ((1 : Int) + wo.at.sv ys (1 : Nat) (6 : Int))).toNat = (gvs.gd.sv ys (IntKind.i64.wrap ((1 : Int) + wo.at.sv ys (1 : Nat) (6 : Int))).toNat (IntKind.i64.wrap ((1 : Int) + wo.at.sv ys (1 : Nat) (6 : Int))).toNat (0 : Nat) (0 : Nat) (0 : Int) []).length) && gvs.gv.sp (gvs.gd.sv ys (IntKind.i64.wrap ((1 : Int) + wo.at.sv ys (1 : Nat) (6 : Int))).toNat (IntKind.i64.wrap ((1 : Int) + wo.at.sv ys (1 : Nat) (6 : Int))).toNat (0 : Nat) (0 : Nat) (0 : Int) []) (IntKind.i64.wrap ((2 : Int) + wo.at.sv ys (2 : Nat) (3 : Int))) && (true && (true && true) || false && true && true) then bif (↑(gvs.rs.sv (gvs.gd.sv ys (IntKind.i64.wrap ((1 : Int) + wo.at.sv ys (1 : Nat) (6 : Int))).toNat (IntKind.i64.wrap ((1 : Int) + wo.at.sv ys (1 : Nat) (6 : Int))).toNat (0 : Nat) (0 : Nat) (0 : Int) []) (IntKind.i64.wrap ((2 : Int) + wo.at.sv ys (2 : Nat) (3 : Int))).toNat).length : Int) != (↑(gvs.rs.sv (gvs.gd.sv ys (IntKind.i64.wrap ((1 : Int) + wo.at.sv ys (1 : Nat) (6 : Int))).toNat (IntKind.i64.wrap ((1 : Int) + wo.at.sv ys (1 : Nat) (6 : Int))).toNat (0 : Nat) (0 : Nat) (0 : Int) []) (IntKind.i64.wrap ((2 : Int) + wo.at.sv ys (2 : Nat) (3 : Int))).toNat).length : Int) then some (AVal.bool false, []) else L0 f f (mkS (204 : Nat) [((4 : Nat), AVal.bool false), ((12 : Nat), AVal.int IntKind.i64 (IntKind.i64.wrap ((1 : Int) + wo.at.sv ys (1 : Nat) (6 : Int)))), ((13 : Nat), AVal.ro (Cont.rows IntKind.i64 (gvs.gd.sv ys (IntKind.i64.wrap ((1 : Int) + wo.at.sv ys (1 : Nat) (6 : Int))).toNat (IntKind.i64.wrap ((1 : Int) + wo.at.sv ys (1 : Nat) (6 : Int))).toNat (0 : Nat) (0 : Nat) (0 : Int) [])) (IntKind.i64.wrap ((1 : Int) + wo.at.sv ys (1 : Nat) (6 : Int))).toNat (1 : Nat)), ((14 : Nat), AVal.int IntKind.i64 (IntKind.i64.wrap ((2 : Int) + wo.at.sv ys (2 : Nat) (3 : Int)))), ((15 : Nat), AVal.ro (Cont.rows IntKind.i64 (gvs.rs.sv (gvs.gd.sv ys (IntKind.i64.wrap ((1 : Int) + wo.at.sv ys (1 : Nat) (6 : Int))).toNat (IntKind.i64.wrap ((1 : Int) + wo.at.sv ys (1 : Nat) (6 : Int))).toNat (0 : Nat) (0 : Nat) (0 : Int) []) (IntKind.i64.wrap ((2 : Int) + wo.at.sv ys (2 : Nat) (3 : Int))).toNat)) (gvs.rs.sv (gvs.gd.sv ys (IntKind.i64.wrap ((1 : Int) + wo.at.sv ys (1 : Nat) (6 : Int))).toNat (IntKind.i64.wrap ((1 : Int) + wo.at.sv ys (1 : Nat) (6 : Int))).toNat (0 : Nat) (0 : Nat) (0 : Int) []) (IntKind.i64.wrap ((2 : Int) + wo.at.sv ys (2 : Nat) (3 : Int))).toNat).length (1 : Nat)), ((17 : Nat), AVal.ro (Cont.rows IntKind.i64 (gvs.rs.sv (gvs.gd.sv ys (IntKind.i64.wrap ((1 : Int) + wo.at.sv ys (1 : Nat) (6 : Int))).toNat (IntKind.i64.wrap ((1 : Int) + wo.at.sv ys (1 : Nat) (6 : Int))).toNat (0 : Nat) (0 : Nat) (0 : Int) []) (IntKind.i64.wrap ((2 : Int) + wo.at.sv ys (2 : Nat) (3 : Int))).toNat)) (gvs.rs.sv (gvs.gd.sv ys (IntKind.i64.wrap ((1 : Int) + wo.at.sv ys (1 : Nat) (6 : Int))).toNat (IntKind.i64.wrap ((1 : Int) + wo.at.sv ys (1 : Nat) (6 : Int))).toNat (0 : Nat) (0 : Nat) (0 : Int) []) (IntKind.i64.wrap ((2 : Int) + wo.at.sv ys (2 : Nat) (3 : Int))).toNat).length (1 : Nat)), ((109 : Nat), AVal.int IntKind.i64 (↑(gvs.rs.sv (gvs.gd.sv ys (IntKind.i64.wrap ((1 : Int) + wo.at.sv ys (1 : Nat) (6 : Int))).toNat (IntKind.i64.wrap ((1 : Int) + wo.at.sv ys (1 : Nat) (6 : Int))).toNat (0 : Nat) (0 : Nat) (0 : Int) []) (IntKind.i64.wrap ((2 : Int) + wo.at.sv ys (2 : Nat) (3 : Int))).toNat).length : Int)), ((110 : Nat), AVal.int IntKind.i64 (0 : Int))] []) else none else none else none else none else none else none else none else none else none else none) := by kernel_rfl
theorem round0 (W Q : List (List Int)) (n L : Nat) (i f k : Nat) :
  L0 f (k + 1) (mkS 204 [(4, .bool false), (12, .int .i64 ((n : Nat) : Int)), (13, .ro (.rows .i64 W) W.length 1), (14, .int .i64 ((L : Nat) : Int)), (15, .ro (.rows .i64 Q) Q.length 1), (17, .ro (.rows .i64 Q) Q.length 1), (109, .int .i64 ((Q.length : Nat) : Int)), (110, .int .i64 ((i : Nat) : Int))] [])
  = (bif decide ((↑i : Int) < (↑Q.length : Int)) then bif true && (decide ((0 : Int) ≤ (↑i : Int)) && decide ((↑i : Int) < (↑Q.length : Int))) then bif decide ((↑i : Int).toNat < Q.length) then bif true && (decide ((0 : Int) ≤ (↑i : Int)) && decide ((↑i : Int) < (↑Q.length : Int))) then bif decide ((↑i : Int).toNat < Q.length) then bif decide ((gr Q (↑i : Int).toNat).length = (gr Q (↑i : Int).toNat).length ∧ (gr Q (↑i : Int).toNat).length = (gr Q (↑i : Int).toNat).length ∧ (gr Q (↑i : Int).toNat).length ≤ (100 : Nat) ∧ gr Q (↑i : Int).toNat = gr Q (↑i : Int).toNat) && (true && (true && true) || true && true) then L0 f k (mkS (204 : Nat) [((4 : Nat), AVal.bool false), ((12 : Nat), AVal.int IntKind.i64 (↑n : Int)), ((13 : Nat), AVal.ro (Cont.rows IntKind.i64 W) W.length (1 : Nat)), ((14 : Nat), AVal.int IntKind.i64 (↑L : Int)), ((15 : Nat), AVal.ro (Cont.rows IntKind.i64 Q) Q.length (1 : Nat)), ((17 : Nat), AVal.ro (Cont.rows IntKind.i64 Q) Q.length (1 : Nat)), ((109 : Nat), AVal.int IntKind.i64 (↑Q.length : Int)), ((110 : Nat), AVal.int IntKind.i64 (IntKind.i64.wrap ((↑i : Int) + (1 : Int))))] []) else none else none else none else none else none else bif decide (W.length = W.length) && gvs.gv.sp W (↑L : Int) && (true && (true && true) || true && (false && (true && true)) && true) then bif decide (W.length = W.length) && gvs.gv.sp W (↑L : Int) && (true && (true && true) || true && (false && (true && true)) && true) then bif !gvs.mo.sp W (↑L : Int).toNat == gvs.mo.sp W (↑L : Int).toNat then some (AVal.bool false, []) else bif !gvs.mo.sp W (↑L : Int).toNat then some (AVal.bool true, []) else bif (1 : Nat) == (1 : Nat) && ((↑n : Int) == (↑n : Int) && (decide ((0 : Int) ≤ (↑n : Int)) && (decide ((↑n : Int) * (1 : Int) ≤ (140737488355328 : Int)) && decide ((↑n : Int) ≤ (4611686018427387904 : Int))))) then bif (↑(gvs.mr.sv W (↑L : Int).toNat).length : Int) != (↑(gvs.mr.sv W (↑L : Int).toNat).length : Int) then some (AVal.bool false, [{ c := BC.typ (Cont.bools (List.replicate (↑n : Int).toNat false)), ver := (0 : Nat) }]) else bif (↑(gvs.mc.sv W (↑L : Int).toNat) : Int) != (↑(gvs.mc.sv W (↑L : Int).toNat) : Int) then some (AVal.bool false, [{ c := BC.typ (Cont.bools (List.replicate (↑n : Int).toNat false)), ver := (0 : Nat) }]) else L2 f f (mkS (204 : Nat) [((4 : Nat), AVal.bool false), ((20 : Nat), AVal.int IntKind.i64 (↑(gvs.mc.sv W (↑L : Int).toNat) : Int)), ((21 : Nat), AVal.ro (Cont.rows IntKind.i64 (gvs.mr.sv W (↑L : Int).toNat)) (gvs.mr.sv W (↑L : Int).toNat).length (1 : Nat)), ((24 : Nat), AVal.ro (Cont.rows IntKind.i64 (gvs.mr.sv W (↑L : Int).toNat)) (gvs.mr.sv W (↑L : Int).toNat).length (1 : Nat)), ((26 : Nat), AVal.own (0 : Nat) (0 : Nat) (↑n : Int).toNat (0 : Nat) (1 : Nat)), ((27 : Nat), AVal.int IntKind.i64 (0 : Int)), ((156 : Nat), AVal.int IntKind.i64 (↑(gvs.mr.sv W (↑L : Int).toNat).length : Int)), ((157 : Nat), AVal.int IntKind.i64 (0 : Int))] [{ c := BC.typ (Cont.bools (List.replicate (↑n : Int).toNat false)), ver := (0 : Nat) }]) else none else none else none) := by kernel_rfl
theorem round2 (T : List (List Int)) (us : List Bool) (n c : Nat) (s : Int) (i f k : Nat) :
  L2 f (k + 1) (mkS 204 [(4, .bool false), (20, .int .i64 ((c : Nat) : Int)), (21, .ro (.rows .i64 T) T.length 1), (24, .ro (.rows .i64 T) T.length 1), (26, .own 0 0 n 0 1), (27, .int .i64 s), (156, .int .i64 ((T.length : Nat) : Int)), (157, .int .i64 ((i : Nat) : Int))] [⟨.typ (.bools us), 0⟩])
  = (bif decide ((↑i : Int) < (↑T.length : Int)) then bif true && (decide ((0 : Int) ≤ (↑i : Int)) && decide ((↑i : Int) < (↑T.length : Int))) then bif decide ((↑i : Int).toNat < T.length) then bif true && (decide ((0 : Int) ≤ (↑i : Int)) && decide ((↑i : Int) < (↑T.length : Int))) then bif decide ((↑i : Int).toNat < T.length) then bif decide ((gr T (↑i : Int).toNat).length = (gr T (↑i : Int).toNat).length ∧ (gr T (↑i : Int).toNat).length = (gr T (↑i : Int).toNat).length ∧ (gr T (↑i : Int).toNat).length ≤ (100 : Nat) ∧ gr T (↑i : Int).toNat = gr T (↑i : Int).toNat) && (true && (true && true) || true && true) then bif true && (decide ((0 : Int) ≤ (↑i : Int)) && decide ((↑i : Int) < (↑T.length : Int))) then bif decide ((↑i : Int).toNat < T.length) then L4 f k f (mkS (204 : Nat) [((4 : Nat), AVal.bool false), ((20 : Nat), AVal.int IntKind.i64 (↑c : Int)), ((21 : Nat), AVal.ro (Cont.rows IntKind.i64 T) T.length (1 : Nat)), ((24 : Nat), AVal.ro (Cont.rows IntKind.i64 T) T.length (1 : Nat)), ((26 : Nat), AVal.own (0 : Nat) (0 : Nat) n (0 : Nat) (1 : Nat)), ((27 : Nat), AVal.int IntKind.i64 s), ((28 : Nat), AVal.int IntKind.i64 (↑i : Int)), ((156 : Nat), AVal.int IntKind.i64 (↑T.length : Int)), ((157 : Nat), AVal.int IntKind.i64 (↑i : Int)), ((174 : Nat), AVal.int IntKind.i64 (↑(gr T (↑i : Int).toNat).length : Int)), ((175 : Nat), AVal.int IntKind.i64 (0 : Int))] [{ c := BC.typ (Cont.bools us), ver := (0 : Nat) }]) else none else none else none else none else none else none else none else some (AVal.bool (s == (↑c : Int)), [{ c := BC.typ (Cont.bools us), ver := (0 : Nat) }])) := by kernel_rfl
theorem round4 (T : List (List Int)) (us : List Bool) (n c : Nat) (s : Int) (i l j f k k4 : Nat) :
  L4 f k (k4 + 1) (mkS 204 [(4, .bool false), (20, .int .i64 ((c : Nat) : Int)), (21, .ro (.rows .i64 T) T.length 1), (24, .ro (.rows .i64 T) T.length 1), (26, .own 0 0 n 0 1), (27, .int .i64 s), (28, .int .i64 ((i : Nat) : Int)), (156, .int .i64 ((T.length : Nat) : Int)), (157, .int .i64 ((i : Nat) : Int)), (174, .int .i64 ((l : Nat) : Int)), (175, .int .i64 ((j : Nat) : Int))] [⟨.typ (.bools us), 0⟩])
  = (bif decide ((↑j : Int) < (↑l : Int)) then bif true && (decide ((0 : Int) ≤ (↑i : Int)) && decide ((↑i : Int) < (↑T.length : Int))) then bif decide ((↑i : Int).toNat < T.length) then bif true && (decide ((0 : Int) ≤ (↑j : Int)) && decide ((↑j : Int) < (↑(gr T (↑i : Int).toNat).length : Int))) then bif decide ((↑j : Int).toNat < (gr T (↑i : Int).toNat).length) then bif true && (decide ((0 : Int) ≤ gz (gr T (↑i : Int).toNat) (↑j : Int).toNat) && decide (gz (gr T (↑i : Int).toNat) (↑j : Int).toNat < (↑n : Int))) then bif true && decide ((gz (gr T (↑i : Int).toNat) (↑j : Int).toNat).toNat < us.length) then bif gb us (gz (gr T (↑i : Int).toNat) (↑j : Int).toNat).toNat then some (AVal.bool false, [{ c := BC.typ (Cont.bools us), ver := (0 : Nat) }]) else bif true && (decide ((0 : Int) ≤ (↑i : Int)) && decide ((↑i : Int) < (↑T.length : Int))) then bif decide ((↑i : Int).toNat < T.length) then bif true && (decide ((0 : Int) ≤ (↑j : Int)) && decide ((↑j : Int) < (↑(gr T (↑i : Int).toNat).length : Int))) then bif decide ((↑j : Int).toNat < (gr T (↑i : Int).toNat).length) then bif true && (decide ((0 : Int) ≤ gz (gr T (↑i : Int).toNat) (↑j : Int).toNat) && decide (gz (gr T (↑i : Int).toNat) (↑j : Int).toNat < (↑n : Int))) then bif true && (true && (decide ((gz (gr T (↑i : Int).toNat) (↑j : Int).toNat).toNat < us.length) && true)) then L4 f k k4 (mkS (204 : Nat) [((4 : Nat), AVal.bool false), ((20 : Nat), AVal.int IntKind.i64 (↑c : Int)), ((21 : Nat), AVal.ro (Cont.rows IntKind.i64 T) T.length (1 : Nat)), ((24 : Nat), AVal.ro (Cont.rows IntKind.i64 T) T.length (1 : Nat)), ((26 : Nat), AVal.own (0 : Nat) (0 : Nat) n (0 : Nat) (1 : Nat)), ((27 : Nat), AVal.int IntKind.i64 (IntKind.i64.wrap (s + (1 : Int)))), ((28 : Nat), AVal.int IntKind.i64 (↑i : Int)), ((156 : Nat), AVal.int IntKind.i64 (↑T.length : Int)), ((157 : Nat), AVal.int IntKind.i64 (↑i : Int)), ((174 : Nat), AVal.int IntKind.i64 (↑l : Int)), ((175 : Nat), AVal.int IntKind.i64 (IntKind.i64.wrap ((↑j : Int) + (1 : Int))))] [{ c := BC.typ (Cont.bools (us.set (gz (gr T (↑i : Int).toNat) (↑j : Int).toNat).toNat true)), ver := (0 : Nat) }]) else none else none else none else none else none else none else none else none else none else none else none else none else L2 f k (mkS (204 : Nat) [((4 : Nat), AVal.bool false), ((20 : Nat), AVal.int IntKind.i64 (↑c : Int)), ((21 : Nat), AVal.ro (Cont.rows IntKind.i64 T) T.length (1 : Nat)), ((24 : Nat), AVal.ro (Cont.rows IntKind.i64 T) T.length (1 : Nat)), ((26 : Nat), AVal.own (0 : Nat) (0 : Nat) n (0 : Nat) (1 : Nat)), ((27 : Nat), AVal.int IntKind.i64 s), ((156 : Nat), AVal.int IntKind.i64 (↑T.length : Int)), ((157 : Nat), AVal.int IntKind.i64 (IntKind.i64.wrap ((↑i : Int) + (1 : Int))))] [{ c := BC.typ (Cont.bools us), ver := (0 : Nat) }])) := by kernel_rfl
theorem loop4 (T : List (List Int)) (r : List Int) (n c u0 i f k c0 : Nat) (hn : n ≤ 8) (hi : i < T.length) (hb : T.length ≤ 100000) (er : gr T i = r) (hc : c0 ≤ 1000000) (h8 : r.length ≤ 8) (hr : ∀ x ∈ r, 0 ≤ x ∧ x < (n : Int)) (hu : u0 < 256) (ho : gvs.un.sp r u0 r.length = true) : ∀ (d j k4 : Nat), j + d = r.length → d < k4 →
    L4 f k k4 (mkS 204 [(4, .bool false), (20, .int .i64 ((c : Nat) : Int)), (21, .ro (.rows .i64 T) T.length 1), (24, .ro (.rows .i64 T) T.length 1), (26, .own 0 0 n 0 1), (27, .int .i64 (((c0 + j) : Nat) : Int)), (28, .int .i64 ((i : Nat) : Int)), (156, .int .i64 ((T.length : Nat) : Int)), (157, .int .i64 ((i : Nat) : Int)), (174, .int .i64 ((r.length : Nat) : Int)), (175, .int .i64 ((j : Nat) : Int))] [⟨.typ (.bools (gvs.ub.sv n (gvs.us.sv r u0 j))), 0⟩]) = L2 f k (mkS 204 [(4, .bool false), (20, .int .i64 ((c : Nat) : Int)), (21, .ro (.rows .i64 T) T.length 1), (24, .ro (.rows .i64 T) T.length 1), (26, .own 0 0 n 0 1), (27, .int .i64 (((c0 + r.length) : Nat) : Int)), (156, .int .i64 ((T.length : Nat) : Int)), (157, .int .i64 (((i + 1) : Nat) : Int))] [⟨.typ (.bools (gvs.ub.sv n (gvs.us.sv r u0 r.length))), 0⟩]) := by
  intro d
  induction d with
  | zero =>
    intro j k4 hj hk
    obtain ⟨k4, rfl⟩ : ∃ q, k4 = q + 1 := ⟨k4 - 1, by omega⟩
    obtain rfl : j = r.length := by omega
    rw [round4]
    simp -implicitDefEqProofs (disch := omega) only [er, take_one, set_one, decide_eq_true, decide_eq_false, IntWalk.i64_in, beqT, beqF, bneT, bneF, nat_succ, ← Int.natCast_mul, ← Int.natCast_add, Int.toNat_natCast, Int.zero_mul, Int.zero_add, Int.add_zero, Nat.zero_add, Nat.add_zero, Nat.zero_mul, List.length_singleton, List.length_append, List.length_nil, List.length_cons, List.take_length, List.drop_zero, List.replicate_zero, List.take_nil, List.nil_append, Nat.reduceBEq, Nat.reduceMul, Nat.reduceLeDiff, eq_self, and_self, true_and, and_true, decide_true, decide_false, Bool.and_self, Bool.or_self, Bool.and_true, Bool.true_and, Bool.and_false, Bool.false_and, Bool.or_true, Bool.true_or, Bool.or_false, Bool.false_or, Bool.not_true, Bool.not_false, cond_true, cond_false]
  | succ d ih =>
    intro j k4 hj hk
    obtain ⟨k4, rfl⟩ : ∃ q, k4 = q + 1 := ⟨k4 - 1, by omega⟩
    have g := ih (j + 1) k4 (by omega) (by omega)
    have hx := hr _ (gz_mem (show j < r.length by omega))
    have ho2 := gvs.un_at (d + 1) j _ hj (by omega) ho
    have hu2 := gvs.us_lt8 hn hr hu j (by omega)
    obtain ⟨x, ex⟩ : ∃ x : Nat, gz r j = x := ⟨(gz r j).toNat, by omega⟩
    rw [ex, Int.toNat_natCast] at ho2
    have b1 := gvs.ub_get (u := gvs.us.sv r u0 j) (show x < n by omega)
    have b2 := gvs.ub_set hu2 hn (show x < n by omega)
    have b3 := gvs.ub_len n (gvs.us.sv r u0 j)
    rw [ho2] at b1
    rw [gvs.us.sv, ex, Int.toNat_natCast, ← b2] at g
    rw [round4]
    simp -implicitDefEqProofs (disch := omega) only [er, ex, b1, b3, take_one, set_one, decide_eq_true, decide_eq_false, IntWalk.i64_in, beqT, beqF, bneT, bneF, nat_succ, ← Int.natCast_mul, ← Int.natCast_add, Int.toNat_natCast, Int.zero_mul, Int.zero_add, Int.add_zero, Nat.zero_add, Nat.add_zero, Nat.zero_mul, List.length_singleton, List.length_append, List.length_nil, List.length_cons, List.take_length, List.drop_zero, List.replicate_zero, List.take_nil, List.nil_append, Nat.reduceBEq, Nat.reduceMul, Nat.reduceLeDiff, eq_self, and_self, true_and, and_true, decide_true, decide_false, Bool.and_self, Bool.or_self, Bool.and_true, Bool.true_and, Bool.and_false, Bool.false_and, Bool.or_true, Bool.true_or, Bool.or_false, Bool.false_or, Bool.not_true, Bool.not_false, cond_true, cond_false]
    exact g
theorem loop2 (Q : List (List Int)) (l : List Int) (n f : Nat) (g : gvs.LQ n Q l) (hf : 10 < f) (h16 : l.length ≤ 16) : ∀ (d i k : Nat), i + d = l.length → d < k →
    L2 f k (mkS 204 [(4, .bool false), (20, .int .i64 (((gvs.sc.sv Q l l.length) : Nat) : Int)), (21, .ro (.rows .i64 (gvs.pk.sv Q l l.length)) (gvs.pk.sv Q l l.length).length 1), (24, .ro (.rows .i64 (gvs.pk.sv Q l l.length)) (gvs.pk.sv Q l l.length).length 1), (26, .own 0 0 n 0 1), (27, .int .i64 (((gvs.sc.sv Q l i) : Nat) : Int)), (156, .int .i64 (((gvs.pk.sv Q l l.length).length : Nat) : Int)), (157, .int .i64 ((i : Nat) : Int))] [⟨.typ (.bools (gvs.ub.sv n (gvs.su.sv Q l i))), 0⟩]) = some (.bool true, [⟨.typ (.bools (gvs.ub.sv n (gvs.su.sv Q l l.length))), 0⟩]) := by
  have hT : (gvs.pk.sv Q l l.length).length = l.length := gvs.pk_length Q l l.length
  have hsc : ∀ j, j ≤ l.length → gvs.sc.sv Q l j ≤ j * 8 := by
    intro j
    induction j with
    | zero => intro _; exact Nat.le_refl _
    | succ j ih => intro hj; have := ih (by omega); have := g.len j (by omega); rw [gvs.sc.sv]; omega
  intro d
  induction d with
  | zero =>
    intro i k hi hk
    obtain ⟨k, rfl⟩ : ∃ q, k = q + 1 := ⟨k - 1, by omega⟩
    obtain rfl : i = l.length := by omega
    have e0 := beq_self_eq_true ((gvs.sc.sv Q l l.length : Nat) : Int)
    rw [round2]
    simp -implicitDefEqProofs (disch := omega) only [e0, hT, take_one, set_one, decide_eq_true, decide_eq_false, IntWalk.i64_in, beqT, beqF, bneT, bneF, nat_succ, ← Int.natCast_mul, ← Int.natCast_add, Int.toNat_natCast, Int.zero_mul, Int.zero_add, Int.add_zero, Nat.zero_add, Nat.add_zero, Nat.zero_mul, List.length_singleton, List.length_append, List.length_nil, List.length_cons, List.take_length, List.drop_zero, List.replicate_zero, List.take_nil, List.nil_append, Nat.reduceBEq, Nat.reduceMul, Nat.reduceLeDiff, eq_self, and_self, true_and, and_true, decide_true, decide_false, Bool.and_self, Bool.or_self, Bool.and_true, Bool.true_and, Bool.and_false, Bool.false_and, Bool.or_true, Bool.true_or, Bool.or_false, Bool.false_or, Bool.not_true, Bool.not_false, cond_true, cond_false]
  | succ d ih =>
    intro i k hi hk
    obtain ⟨k, rfl⟩ : ∃ q, k = q + 1 := ⟨k - 1, by omega⟩
    have g1 := ih (i + 1) k (by omega) (by omega)
    have hl := hsc i (by omega)
    have er := gvs.pk_get Q l l.length i (by omega)
    have g8 := g.len i (by omega)
    have g2 := loop4 (gvs.pk.sv Q l l.length) (gr Q (gz l i).toNat) n (gvs.sc.sv Q l l.length) (gvs.su.sv Q l i) i f k (gvs.sc.sv Q l i) g.n8 (by omega) (by omega) er (by omega) g8 (g.ran i (by omega)) (g.lt i (by omega)) (gvs.sk_at (d + 1) i _ hi (by omega) g.ok) (gr Q (gz l i).toNat).length 0 f (by omega) (by omega)
    rw [gvs.us.sv] at g2
    rw [gvs.sc.sv, gvs.su.sv] at g1
    rw [round2]
    simp -implicitDefEqProofs (disch := omega) only [er, take_one, set_one, decide_eq_true, decide_eq_false, IntWalk.i64_in, beqT, beqF, bneT, bneF, nat_succ, ← Int.natCast_mul, ← Int.natCast_add, Int.toNat_natCast, Int.zero_mul, Int.zero_add, Int.add_zero, Nat.zero_add, Nat.add_zero, Nat.zero_mul, List.length_singleton, List.length_append, List.length_nil, List.length_cons, List.take_length, List.drop_zero, List.replicate_zero, List.take_nil, List.nil_append, Nat.reduceBEq, Nat.reduceMul, Nat.reduceLeDiff, eq_self, and_self, true_and, and_true, decide_true, decide_false, Bool.and_self, Bool.or_self, Bool.and_true, Bool.true_and, Bool.and_false, Bool.false_and, Bool.or_true, Bool.true_or, Bool.or_false, Bool.false_or, Bool.not_true, Bool.not_false, cond_true, cond_false]
    exact g2.trans g1
theorem loop0 (W : List (List Int)) (n L f : Nat) (hv : gvs.gv.sp W ((L : Nat) : Int) = true) (hn : W.length = n) (hf : 30 < f) (hq : (gvs.rs.sv W L).length ≤ 16384) (h8 : ∀ i, i < (gvs.rs.sv W L).length → (gr (gvs.rs.sv W L) i).length ≤ 8) : ∀ (d i k : Nat), i + d = (gvs.rs.sv W L).length → d < k →
    ∃ H, L0 f k (mkS 204 [(4, .bool false), (12, .int .i64 ((n : Nat) : Int)), (13, .ro (.rows .i64 W) W.length 1), (14, .int .i64 ((L : Nat) : Int)), (15, .ro (.rows .i64 (gvs.rs.sv W L)) (gvs.rs.sv W L).length 1), (17, .ro (.rows .i64 (gvs.rs.sv W L)) (gvs.rs.sv W L).length 1), (109, .int .i64 (((gvs.rs.sv W L).length : Nat) : Int)), (110, .int .i64 ((i : Nat) : Int))] []) = some (.bool true, H) := by
  obtain ⟨g, hL2, hL4⟩ := gvs.valid hv
  have hg8 := g.h8
  intro d
  induction d with
  | zero =>
    intro i k hi hk
    obtain ⟨k, rfl⟩ : ∃ q, k = q + 1 := ⟨k - 1, by omega⟩
    obtain rfl : i = (gvs.rs.sv W L).length := by omega
    have eb := beq_self_eq_true (gvs.mo.sp W L)
    rw [round0, Int.toNat_natCast]
    cases hm : gvs.mo.sp W L
    · rw [hm] at eb
      refine ⟨[], ?_⟩
      simp -implicitDefEqProofs (disch := omega) only [hv, hm, eb, hn, take_one, set_one, decide_eq_true, decide_eq_false, IntWalk.i64_in, beqT, beqF, bneT, bneF, nat_succ, ← Int.natCast_mul, ← Int.natCast_add, Int.toNat_natCast, Int.zero_mul, Int.zero_add, Int.add_zero, Nat.zero_add, Nat.add_zero, Nat.zero_mul, List.length_singleton, List.length_append, List.length_nil, List.length_cons, List.take_length, List.drop_zero, List.replicate_zero, List.take_nil, List.nil_append, Nat.reduceBEq, Nat.reduceMul, Nat.reduceLeDiff, eq_self, and_self, true_and, and_true, decide_true, decide_false, Bool.and_self, Bool.or_self, Bool.and_true, Bool.true_and, Bool.and_false, Bool.false_and, Bool.or_true, Bool.true_or, Bool.or_false, Bool.false_or, Bool.not_true, Bool.not_false, cond_true, cond_false]
    · rw [hm] at eb
      have hr16 : (gvs.rs.sv W L).length ≤ 16 := of_decide_eq_true hm
      obtain ⟨b1, b2, b3⟩ := gvs.bs_good (gvs.rs.sv W L) (gvs.rs.sv W L).length (2 ^ (gvs.rs.sv W L).length) (Nat.le_refl _)
      have ec : gvs.mc.sv W L = gvs.sc.sv (gvs.rs.sv W L) (gvs.mb.sv (gvs.best W L).1 (gvs.rs.sv W L).length) (gvs.mb.sv (gvs.best W L).1 (gvs.rs.sv W L).length).length := by unfold gvs.mc.sv; rw [hm]; exact b3
      have er : gvs.mr.sv W L = gvs.pk.sv (gvs.rs.sv W L) (gvs.mb.sv (gvs.best W L).1 (gvs.rs.sv W L).length) (gvs.mb.sv (gvs.best W L).1 (gvs.rs.sv W L).length).length := by unfold gvs.mr.sv; rw [hm]; rfl
      have hml := gvs.mb_length (gvs.best W L).1 (gvs.rs.sv W L).length
      have hin : ∀ j, j < (gvs.mb.sv (gvs.best W L).1 (gvs.rs.sv W L).length).length → gvs.Rg W.length (gr (gvs.rs.sv W L) (gz (gvs.mb.sv (gvs.best W L).1 (gvs.rs.sv W L).length) j).toNat) ∧ (gr (gvs.rs.sv W L) (gz (gvs.mb.sv (gvs.best W L).1 (gvs.rs.sv W L).length) j).toNat).length ≤ L := fun j hj => by
        have := gvs.mb_ran (m := (gvs.best W L).1) (n := (gvs.rs.sv W L).length) _ (gz_mem hj)
        have hlt : (gz (gvs.mb.sv (gvs.best W L).1 (gvs.rs.sv W L).length) j).toNat < (gvs.rs.sv W L).length := by omega
        rw [gr_eq hlt]
        exact gvs.rs_in g _ (List.getElem_mem hlt)
      have lq : gvs.LQ n (gvs.rs.sv W L) (gvs.mb.sv (gvs.best W L).1 (gvs.rs.sv W L).length) := ⟨by omega, fun j hj => by rw [← hn]; exact (hin j hj).1.ran, fun j hj => by have := (hin j hj).2; omega, b2⟩
      have g2 := loop2 _ _ n f lq (by omega) (by omega) _ 0 f (by rw [Nat.zero_add]) (by omega)
      rw [gvs.su.sv, gvs.ub_zero, gvs.sc.sv, ← er, ← ec] at g2
      refine ⟨[⟨.typ (.bools (gvs.ub.sv n (gvs.su.sv (gvs.rs.sv W L) (gvs.mb.sv (gvs.best W L).1 (gvs.rs.sv W L).length) (gvs.mb.sv (gvs.best W L).1 (gvs.rs.sv W L).length).length))), 0⟩], ?_⟩
      have n1 := bne_self_eq_false ((gvs.mr.sv W L).length : Int)
      have n2 := bne_self_eq_false ((gvs.mc.sv W L : Nat) : Int)
      have n3 := beq_self_eq_true ((n : Nat) : Int)
      simp -implicitDefEqProofs (disch := omega) only [hv, hm, eb, hn, n1, n2, n3, take_one, set_one, decide_eq_true, decide_eq_false, IntWalk.i64_in, beqT, beqF, bneT, bneF, nat_succ, ← Int.natCast_mul, ← Int.natCast_add, Int.toNat_natCast, Int.zero_mul, Int.zero_add, Int.add_zero, Nat.zero_add, Nat.add_zero, Nat.zero_mul, List.length_singleton, List.length_append, List.length_nil, List.length_cons, List.take_length, List.drop_zero, List.replicate_zero, List.take_nil, List.nil_append, Nat.reduceBEq, Nat.reduceMul, Nat.reduceLeDiff, eq_self, and_self, true_and, and_true, decide_true, decide_false, Bool.and_self, Bool.or_self, Bool.and_true, Bool.true_and, Bool.and_false, Bool.false_and, Bool.or_true, Bool.true_or, Bool.or_false, Bool.false_or, Bool.not_true, Bool.not_false, cond_true, cond_false]
      exact g2
  | succ d ih =>
    intro i k hi hk
    obtain ⟨k, rfl⟩ : ∃ q, k = q + 1 := ⟨k - 1, by omega⟩
    obtain ⟨H, g1⟩ := ih (i + 1) k (by omega) (by omega)
    have h8i := h8 i (by omega)
    refine ⟨H, ?_⟩
    rw [round0]
    simp -implicitDefEqProofs (disch := omega) only [take_one, set_one, decide_eq_true, decide_eq_false, IntWalk.i64_in, beqT, beqF, bneT, bneF, nat_succ, ← Int.natCast_mul, ← Int.natCast_add, Int.toNat_natCast, Int.zero_mul, Int.zero_add, Int.add_zero, Nat.zero_add, Nat.add_zero, Nat.zero_mul, List.length_singleton, List.length_append, List.length_nil, List.length_cons, List.take_length, List.drop_zero, List.replicate_zero, List.take_nil, List.nil_append, Nat.reduceBEq, Nat.reduceMul, Nat.reduceLeDiff, eq_self, and_self, true_and, and_true, decide_true, decide_false, Bool.and_self, Bool.or_self, Bool.and_true, Bool.true_and, Bool.and_false, Bool.false_and, Bool.or_true, Bool.true_or, Bool.or_false, Bool.false_or, Bool.not_true, Bool.not_false, cond_true, cond_false]
    exact g1
theorem run : ∀ args v new, R args = some (true, v, new) → ∃ fuel, regc [] (runFn Try.prog (orcF [⟨48, iRoomsOfE.R⟩, ⟨49, sRoomsOfE.R⟩] (orc [⟨36, b10Long.R⟩, ⟨37, b10At.R⟩, ⟨47, B10Friends.R⟩, ⟨44, b10Ints.R⟩, ⟨50, iAreRooms.R⟩, ⟨51, B10Gives.R⟩, ⟨52, iGiveRings.R⟩, ⟨53, sGiveRings.R⟩, ⟨26, iMostGivenE.R⟩, ⟨24, sMostGivenE.R⟩])) hd Dr.std none fuel (bodyOf Try.f7) 204 [4] args []) = some (v, new) := by
  intro args v new h
  unfold R at h
  split at h
  · rename_i xs m ys k
    simp only [Option.some.injEq, Prod.mk.injEq, Bool.and_eq_true, decide_eq_true_eq] at h
    obtain ⟨⟨⟨rfl, rfl⟩, hx, hy⟩, rfl, rfl⟩ := h
    obtain ⟨F, hF⟩ : ∃ F : Nat, F = 200000 := ⟨200000, rfl⟩
    refine ⟨F, ?_⟩
    rw [start]
    by_cases c1 : (1048576 : Int) < (xs.length : Int)
    · simp -implicitDefEqProofs (disch := omega) only [take_one, set_one, decide_eq_true, decide_eq_false, IntWalk.i64_in, beqT, beqF, bneT, bneF, nat_succ, ← Int.natCast_mul, ← Int.natCast_add, Int.toNat_natCast, Int.zero_mul, Int.zero_add, Int.add_zero, Nat.zero_add, Nat.add_zero, Nat.zero_mul, List.length_singleton, List.length_append, List.length_nil, List.length_cons, List.take_length, List.drop_zero, List.replicate_zero, List.take_nil, List.nil_append, Nat.reduceBEq, Nat.reduceMul, Nat.reduceLeDiff, eq_self, and_self, true_and, and_true, decide_true, decide_false, Bool.and_self, Bool.or_self, Bool.and_true, Bool.true_and, Bool.and_false, Bool.false_and, Bool.or_true, Bool.true_or, Bool.or_false, Bool.false_or, Bool.not_true, Bool.not_false, cond_true, cond_false]
      rfl
    by_cases c2 : (1048576 : Int) < (ys.length : Int)
    · simp -implicitDefEqProofs (disch := omega) only [take_one, set_one, decide_eq_true, decide_eq_false, IntWalk.i64_in, beqT, beqF, bneT, bneF, nat_succ, ← Int.natCast_mul, ← Int.natCast_add, Int.toNat_natCast, Int.zero_mul, Int.zero_add, Int.add_zero, Nat.zero_add, Nat.add_zero, Nat.zero_mul, List.length_singleton, List.length_append, List.length_nil, List.length_cons, List.take_length, List.drop_zero, List.replicate_zero, List.take_nil, List.nil_append, Nat.reduceBEq, Nat.reduceMul, Nat.reduceLeDiff, eq_self, and_self, true_and, and_true, decide_true, decide_false, Bool.and_self, Bool.or_self, Bool.and_true, Bool.true_and, Bool.and_false, Bool.false_and, Bool.or_true, Bool.true_or, Bool.or_false, Bool.false_or, Bool.not_true, Bool.not_false, cond_true, cond_false]
      rfl
    obtain ⟨r0, r1⟩ := wo.at_in hy 0 (n := 3) (by decide)
    obtain ⟨k0, k1⟩ := wo.at_in hy 1 (n := 6) (by decide)
    obtain ⟨w0, w1⟩ := wo.at_in hy 2 (n := 3) (by decide)
    have z0 : Int.toNat 0 = 0 := rfl
    have z1 : Int.toNat 1 = 1 := rfl
    have z2 : Int.toNat 2 = 2 := rfl
    have wa_ : IntKind.i64.wrap (2 * wo.at.sv ys 0 3) = 2 * wo.at.sv ys 0 3 := IntWalk.i64_in _ (by omega)
    have wb_ : IntKind.i64.wrap (2 + 2 * wo.at.sv ys 0 3) = 2 + 2 * wo.at.sv ys 0 3 := IntWalk.i64_in _ (by omega)
    have wc_ : IntKind.i64.wrap (1 + wo.at.sv ys 1 6) = 1 + wo.at.sv ys 1 6 := IntWalk.i64_in _ (by omega)
    have wd_ : IntKind.i64.wrap (2 + wo.at.sv ys 2 3) = 2 + wo.at.sv ys 2 3 := IntWalk.i64_in _ (by omega)
    obtain ⟨a, ha⟩ : ∃ r : Nat, 2 + 2 * wo.at.sv ys 0 3 = r := ⟨(2 + 2 * wo.at.sv ys 0 3).toNat, by omega⟩
    obtain ⟨n, hn⟩ : ∃ r : Nat, 1 + wo.at.sv ys 1 6 = r := ⟨(1 + wo.at.sv ys 1 6).toNat, by omega⟩
    obtain ⟨L, hL⟩ : ∃ r : Nat, 2 + wo.at.sv ys 2 3 = r := ⟨(2 + wo.at.sv ys 2 3).toNat, by omega⟩
    rw [z0, z1, wa_, wb_, wc_, wd_, ha, hn, hL]
    have hev : rms.ev.sp ((a : Nat) : Int) = true := by
      simp only [rms.ev.sp, Bool.and_eq_true, decide_eq_true_eq]
      rw [← ha]
      refine ⟨by omega, ?_⟩
      rw [Int.tmod_eq_emod_of_nonneg (by omega)]
      omega
    obtain ⟨hva, hvl⟩ := gvs.fd_va xs hev
    obtain ⟨hgv, hgl⟩ := gvs.gd_sp ys (n := n) (by omega) (by omega) (L := ((L : Nat) : Int)) (by omega) (by omega)
    simp -implicitDefEqProofs only [Int.toNat_natCast]
    generalize gvs.fd.sv xs a a 0 0 0 [] = V at *
    generalize gvs.gd.sv ys n n 0 0 0 [] = W at *
    have hs := rms.va_short hva (b := 4611686018427387904) (by decide)
    obtain ⟨g, hL2, hL4⟩ := gvs.valid hgv
    have hg8 := g.h8
    have hrs : (gvs.rs.sv W L).length ≤ 16384 := gvs.rs_le g (by omega)
    have h8 : ∀ i, i < (gvs.rs.sv W L).length → (gr (gvs.rs.sv W L) i).length ≤ 8 := fun i hi => by
      rw [gr_eq hi]
      have := (gvs.rs_in g _ (List.getElem_mem hi)).2
      omega
    obtain ⟨H, gg⟩ := loop0 W n L F hgv hgl (by omega) (by omega) h8 (gvs.rs.sv W L).length 0 F (by omega) (by omega)
    have e1 := beq_self_eq_true (rms.ok.sp V)
    have n1 := bne_self_eq_false ((gvs.rs.sv W L).length : Int)
    rw [hgl] at gg
    cases hk : rms.ok.sp V
    · rw [hk] at e1
      simp -implicitDefEqProofs (disch := omega) only [hx, hy, hs, hk, e1, n1, hgv, take_one, set_one, decide_eq_true, decide_eq_false, IntWalk.i64_in, beqT, beqF, bneT, bneF, nat_succ, ← Int.natCast_mul, ← Int.natCast_add, Int.toNat_natCast, Int.zero_mul, Int.zero_add, Int.add_zero, Nat.zero_add, Nat.add_zero, Nat.zero_mul, List.length_singleton, List.length_append, List.length_nil, List.length_cons, List.take_length, List.drop_zero, List.replicate_zero, List.take_nil, List.nil_append, Nat.reduceBEq, Nat.reduceMul, Nat.reduceLeDiff, eq_self, and_self, true_and, and_true, decide_true, decide_false, Bool.and_self, Bool.or_self, Bool.and_true, Bool.true_and, Bool.and_false, Bool.false_and, Bool.or_true, Bool.true_or, Bool.or_false, Bool.false_or, Bool.not_true, Bool.not_false, cond_true, cond_false]
      exact (congrArg (regc []) gg).trans rfl
    · rw [hk] at e1
      have em : rms.mo.sv V = rms.out.sv V := by unfold rms.mo.sv; rw [hk]; rfl
      have el := rms.out_len V
      have o1 := rms.out_rg hk
      have o2 := rms.out_uniq hk
      have o3 := rms.out_pr hk
      obtain ⟨_, o4⟩ := rms.out_ok hk
      have hal : a ≤ 8 := by
        simp only [rms.ev.sp, Bool.and_eq_true, decide_eq_true_eq] at hev
        omega
      rw [hvl] at o1 o2
      rw [em]
      simp -implicitDefEqProofs (disch := omega) only [hx, hy, hs, hk, e1, n1, hgv, hva, o1, o2, o3, o4, el, hvl, take_one, set_one, decide_eq_true, decide_eq_false, IntWalk.i64_in, beqT, beqF, bneT, bneF, nat_succ, ← Int.natCast_mul, ← Int.natCast_add, Int.toNat_natCast, Int.zero_mul, Int.zero_add, Int.add_zero, Nat.zero_add, Nat.add_zero, Nat.zero_mul, List.length_singleton, List.length_append, List.length_nil, List.length_cons, List.take_length, List.drop_zero, List.replicate_zero, List.take_nil, List.nil_append, Nat.reduceBEq, Nat.reduceMul, Nat.reduceLeDiff, eq_self, and_self, true_and, and_true, decide_true, decide_false, Bool.and_self, Bool.or_self, Bool.and_true, Bool.true_and, Bool.and_false, Bool.false_and, Bool.or_true, Bool.true_or, Bool.or_false, Bool.false_or, Bool.not_true, Bool.not_false, cond_true, cond_false]
      exact (congrArg (regc []) gg).trans rfl
  · cases h
theorem ok : EntOk Try.prog ⟨7, R⟩ :=
  ent_okAG (ks := []) mixed (A := (orcF [⟨48, iRoomsOfE.R⟩, ⟨49, sRoomsOfE.R⟩] (orc [⟨36, b10Long.R⟩, ⟨37, b10At.R⟩, ⟨47, B10Friends.R⟩, ⟨44, b10Ints.R⟩, ⟨50, iAreRooms.R⟩, ⟨51, B10Gives.R⟩, ⟨52, iGiveRings.R⟩, ⟨53, sGiveRings.R⟩, ⟨26, iMostGivenE.R⟩, ⟨24, sMostGivenE.R⟩]))) (orcF_ok (by simp only [List.mem_cons, List.not_mem_nil, or_false, forall_eq_or_imp, forall_eq]; exact ⟨iRoomsOfE.ok, sRoomsOfE.ok⟩) (orc_ok (by simp only [List.mem_cons, List.not_mem_nil, or_false, forall_eq_or_imp, forall_eq]; exact ⟨b10Long.ok, b10At.ok, B10Friends.ok, b10Ints.ok, iAreRooms.ok, B10Gives.ok, iGiveRings.ok, sGiveRings.ok, iMostGivenE.ok, sMostGivenE.ok⟩))) Try.func7 (by kernel_rfl) (by kernel_rfl) (n := 204) (ts := [4]) (hd := hd) (dr := Dr.std) (cut := none) (by kernel_rfl) (by kernel_rfl) (by kernel_rfl) run
end fFriends

namespace FnFriends
def R := fFriends.R
theorem ok : EntOk Try.prog ⟨7, R⟩ := fFriends.ok
end FnFriends

end Go.Proofs.Ytkoongajnnaeoaa.Ab
