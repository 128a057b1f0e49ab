/-
  Functions: houses that are drawn.
-/
import Derived.Test.YtkoongajnnaeoaaFnHL
import Derived.Test.YtkoongajnnaeoaaFnHD
namespace Go.Proofs.Ytkoongajnnaeoaa.Ab
open Go
set_option linter.unusedVariables false
set_option linter.unusedSimpArgs false
set_option maxRecDepth 100000

namespace hse
/-- Houses drawn: orders of all, one behind the other. -/
def hw.sv (xs : List Int) (n : Nat) : Nat → Nat → Int → List (List Int) → List (List Int)
  | 0, _, _, W => W
  | d + 1, a, s, W => hw.sv xs n d (wo.oa.sv n 0 a) (wo.ox.sv xs n 0 a s) (W ++ [wo.od.sv xs n 0 a s []])
theorem oa_le : ∀ (d k a : Nat), wo.oa.sv d k a ≤ a + d
  | 0, _, _ => Nat.le_refl _
  | d + 1, k, a => by
    have h := oa_le d (k + 1) (wo.ka.sv k a)
    have h2 : wo.ka.sv k a ≤ a + 1 := by unfold wo.ka.sv; cases decide (k = 0) <;> simp only [cond_true, cond_false] <;> omega
    rw [wo.oa.sv]
    omega
theorem ord0 : wo.Ord 0 [] := ⟨rfl, fun x hx => by simp at hx, by simp, fun j hj => by omega⟩
theorem hw_ok (xs : List Int) (n : Nat) : ∀ (d a : Nat) (s : Int) (W : List (List Int)), (∀ r ∈ W, wo.Ord n r) → (∀ r ∈ hw.sv xs n d a s W, wo.Ord n r) ∧ (hw.sv xs n d a s W).length = W.length + d
  | 0, _, _, W, h => ⟨h, rfl⟩
  | d + 1, a, s, W, h => by
    have o := wo.od_ord xs n 0 a s [] ord0
    rw [Nat.zero_add] at o
    obtain ⟨h1, h2⟩ := hw_ok xs n d (wo.oa.sv n 0 a) (wo.ox.sv xs n 0 a s) (W ++ [wo.od.sv xs n 0 a s []]) (fun r hr => by
      rcases List.mem_append.1 hr with hr | hr
      · exact h r hr
      · rw [List.mem_singleton] at hr; subst hr; exact o)
    refine ⟨h1, ?_⟩
    rw [hw.sv, h2, List.length_append, List.length_singleton]
    omega
theorem hw_len (xs : List Int) (n : Nat) : (hw.sv xs n n 0 0 []).length = n := by
  rw [(hw_ok xs n n 0 0 [] (fun r hr => by simp at hr)).2]; simp
theorem hw_sp (xs : List Int) {n : Nat} (h1 : 1 ≤ n) (h8 : n ≤ 8) : sp (hw.sv xs n n 0 0 []) = true := by
  have h := (hw_ok xs n n 0 0 [] (fun r hr => by simp at hr)).1
  have hl := hw_len xs n
  simp only [sp, Bool.and_eq_true, decide_eq_true_eq, List.all_eq_true]
  refine ⟨⟨by omega, by omega⟩, fun r hr => ?_⟩
  have o := h r hr
  rw [hl]
  exact ⟨o.len, o.ran, o.nd⟩
theorem od_sp (xs : List Int) (n a : Nat) (s : Int) : odr.sp (wo.od.sv xs n 0 a s []) = true ∧ (wo.od.sv xs n 0 a s []).length = n := by
  have o := wo.od_ord xs n 0 a s [] ord0
  rw [Nat.zero_add] at o
  refine ⟨?_, o.len⟩
  simp only [odr.sp, Bool.and_eq_true, decide_eq_true_eq, List.all_eq_true]
  rw [o.len]
  exact ⟨o.ran, o.nd⟩
end hse

namespace B10Houses
def R : List AVal → Option (Bool × AVal × List Blk)
  | [.ro (.ints .u8 xs) m 1, .int .i64 n] => some (decide (m = xs.length ∧ m ≤ 2000000 ∧ 1 ≤ n ∧ n ≤ 5) && r8.bytes.sp xs, .ro (.rows .i64 (hse.hw.sv xs n.toNat n.toNat 0 0 [])) n.toNat 1, [])
  | _ => none
def hd : Nat → Head := fun _ => ⟨[998, 1, 5, 6, 7], none⟩
noncomputable def L (f n : Nat) (s : State) := loopAt Try.prog (orcW [⟨93, l05DrawOrder.R⟩] [⟨63, l00From.R⟩]) hd Dr.std 0 f (bodyOf Try.f38) 0 [true, true, true, false, true] (retK Try.prog [4] 0 (some 0)) n s
theorem start (xs : List Int) (n : Nat) (f : Nat) :
  runFn Try.prog (orcW [⟨93, l05DrawOrder.R⟩] [⟨63, l00From.R⟩]) hd Dr.std (some 0) f (bodyOf Try.f38) 23 [4] [.ro (.ints .u8 xs) xs.length 1, .int .i64 ((n : Nat) : Int)] []
  = (bif true && (true && true || true && (false && true && true)) then L f f (mkS (23 : Nat) [((1 : Nat), AVal.int IntKind.i64 (↑n : Int)), ((5 : Nat), AVal.ptr (0 : Nat) (0 : Nat) (0 : Nat)), ((6 : Nat), AVal.own (1 : Nat) (0 : Nat) (0 : Nat) (0 : Nat) (1 : Nat)), ((7 : Nat), AVal.int IntKind.i64 (0 : Int))] [{ c := BC.cells [AVal.ro (Cont.ints IntKind.u8 xs) xs.length (1 : Nat), AVal.int IntKind.i64 (0 : Int), AVal.int IntKind.u64 (0 : Int)], ver := (0 : Nat) }, { c := BC.typ (Cont.rows IntKind.i64 (List.replicate (0 : Nat) [])), ver := (0 : Nat) }]) else none) := by kernel_rfl
theorem round (xs : List Int) (W : List (List Int)) (n q i : Nat) (a s : Int) (f c : Nat) :
  L f (c + 1) (mkS 23 [(1, .int .i64 ((n : Nat) : Int)), (5, .ptr 0 0 0), (6, .own 1 0 q 0 1), (7, .int .i64 ((i : Nat) : Int))] [⟨.cells [.ro (.ints .u8 xs) xs.length 1, .int .i64 a, .int .u64 s], 0⟩, ⟨.typ (.rows .i64 W), 0⟩])
  = (bif decide ((↑i : Int) < (↑n : Int)) then bif decide (xs.length = xs.length ∧ xs.length ≤ (2000000 : Nat) ∧ (0 : Int) ≤ a ∧ a ≤ (100 : Int) ∧ (0 : Int) ≤ (↑n : Int) ∧ (↑n : Int) ≤ (8 : Int)) && r8.bytes.sp xs && (true && (true && true)) then bif (1 : Nat) == (1 : Nat) && (1 : Nat) == (1 : Nat) && (true && (true && true) && (true && true && (decide (q + (List.take (1 : Nat) (List.drop (0 : Nat) ((List.replicate (1 : Nat) []).set (0 : Nat) (List.take (↑n : Int).toNat (wo.od.sv xs (↑n : Int).toNat (0 : Nat) a.toNat s []))))).length ≤ (4611686018427387904 : Nat)) && decide ((q + (List.take (1 : Nat) (List.drop (0 : Nat) ((List.replicate (1 : Nat) []).set (0 : Nat) (List.take (↑n : Int).toNat (wo.od.sv xs (↑n : Int).toNat (0 : Nat) a.toNat s []))))).length) * (24 : Nat) ≤ (140737488355328 : Nat))))) then L f c (mkS (23 : Nat) [((1 : Nat), AVal.int IntKind.i64 (↑n : Int)), ((5 : Nat), AVal.ptr (0 : Nat) (0 : Nat) (0 : Nat)), ((6 : Nat), AVal.own (1 : Nat) (0 : Nat) (q + (List.take (1 : Nat) (List.drop (0 : Nat) ((List.replicate (1 : Nat) []).set (0 : Nat) (List.take (↑n : Int).toNat (wo.od.sv xs (↑n : Int).toNat (0 : Nat) a.toNat s []))))).length) (0 : Nat) (1 : Nat)), ((7 : Nat), AVal.int IntKind.i64 (IntKind.i64.wrap ((↑i : Int) + (1 : Int))))] [{ c := BC.cells [AVal.ro (Cont.ints IntKind.u8 xs) xs.length (1 : Nat), AVal.int IntKind.i64 (↑(wo.oa.sv (↑n : Int).toNat (0 : Nat) a.toNat) : Int), AVal.int IntKind.u64 (wo.ox.sv xs (↑n : Int).toNat (0 : Nat) a.toNat s)], ver := (0 : Nat) }, { c := BC.typ (Cont.rows IntKind.i64 (List.take q W ++ List.take (1 : Nat) (List.drop (0 : Nat) ((List.replicate (1 : Nat) []).set (0 : Nat) (List.take (↑n : Int).toNat (wo.od.sv xs (↑n : Int).toNat (0 : Nat) a.toNat s [])))))), ver := (0 : Nat) }]) else none else none else some (AVal.ro (Cont.rows IntKind.i64 W) q (1 : Nat), [])) := by kernel_rfl
theorem loop (xs : List Int) (n f : Nat) (hn : n ≤ 5) (hx : xs.length ≤ 2000000) (hb : r8.bytes.sp xs = true) : ∀ (d i c a : Nat) (s : Int) (W : List (List Int)), i + d = n → d < c → W.length = i → a ≤ i * 5 →
    L f c (mkS 23 [(1, .int .i64 ((n : Nat) : Int)), (5, .ptr 0 0 0), (6, .own 1 0 i 0 1), (7, .int .i64 ((i : Nat) : Int))] [⟨.cells [.ro (.ints .u8 xs) xs.length 1, .int .i64 ((a : Nat) : Int), .int .u64 s], 0⟩, ⟨.typ (.rows .i64 W), 0⟩]) = some (.ro (.rows .i64 (hse.hw.sv xs n d a s W)) n 1, []) := by
  intro d
  induction d with
  | zero =>
    intro i c a s W hi hc hl ha
    obtain ⟨c, rfl⟩ : ∃ q, c = q + 1 := ⟨c - 1, by omega⟩
    obtain rfl : i = n := by omega
    rw [round, hse.hw.sv]
    simp -implicitDefEqProofs (disch := omega) only [take_one, set_one, decide_eq_true, decide_eq_false, IntWalk.i64_in, beqT, beqF, bneT, bneF, nat_succ, ← Int.natCast_mul, ← Int.natCast_add, Int.toNat_natCast, Int.zero_mul, Int.zero_add, Int.add_zero, Nat.zero_add, Nat.add_zero, Nat.zero_mul, List.length_singleton, List.length_append, List.length_nil, List.length_cons, List.take_length, List.drop_zero, List.replicate_zero, List.take_nil, List.nil_append, Nat.reduceBEq, Nat.reduceMul, Nat.reduceLeDiff, eq_self, and_self, true_and, and_true, decide_true, decide_false, Bool.and_self, Bool.or_self, Bool.and_true, Bool.true_and, Bool.and_false, Bool.false_and, Bool.or_true, Bool.true_or, Bool.or_false, Bool.false_or, Bool.not_true, Bool.not_false, cond_true, cond_false]
  | succ d ih =>
    intro i c a s W hi hc hl ha
    obtain ⟨c, rfl⟩ : ∃ q, c = q + 1 := ⟨c - 1, by omega⟩
    have ho := hse.oa_le n 0 a
    have ol := (hse.od_sp xs n a s).2
    have tw : W.take i = W := List.take_of_length_le (by omega)
    have to : (wo.od.sv xs n 0 a s []).take n = (wo.od.sv xs n 0 a s []) := List.take_of_length_le (by omega)
    have g := ih (i + 1) c (wo.oa.sv n 0 a) (wo.ox.sv xs n 0 a s) (W ++ [(wo.od.sv xs n 0 a s [])]) (by omega) (by omega) (by rw [List.length_append, List.length_singleton]; omega) (by omega)
    have s1 : (List.replicate 1 ([] : List Int)).set 0 (wo.od.sv xs n 0 a s []) = [(wo.od.sv xs n 0 a s [])] := rfl
    have s2 : [(wo.od.sv xs n 0 a s [])].take 1 = [(wo.od.sv xs n 0 a s [])] := rfl
    rw [round, hse.hw.sv]
    simp -implicitDefEqProofs (disch := omega) only [hb, tw, to, s1, s2, take_one, set_one, decide_eq_true, decide_eq_false, IntWalk.i64_in, beqT, beqF, bneT, bneF, nat_succ, ← Int.natCast_mul, ← Int.natCast_add, Int.toNat_natCast, Int.zero_mul, Int.zero_add, Int.add_zero, Nat.zero_add, Nat.add_zero, Nat.zero_mul, List.length_singleton, List.length_append, List.length_nil, List.length_cons, List.take_length, List.drop_zero, List.replicate_zero, List.take_nil, List.nil_append, Nat.reduceBEq, Nat.reduceMul, Nat.reduceLeDiff, eq_self, and_self, true_and, and_true, decide_true, decide_false, Bool.and_self, Bool.or_self, Bool.and_true, Bool.true_and, Bool.and_false, Bool.false_and, Bool.or_true, Bool.true_or, Bool.or_false, Bool.false_or, Bool.not_true, Bool.not_false, cond_true, cond_false]
    exact g
theorem run : ∀ args v new, R args = some (true, v, new) → ∃ fuel, runFn Try.prog (orcW [⟨93, l05DrawOrder.R⟩] [⟨63, l00From.R⟩]) hd Dr.std (some 0) fuel (bodyOf Try.f38) 23 [4] args [] = some (v, new) := by
  intro args v new h
  unfold R at h
  split at h
  · rename_i xs m n
    simp only [Option.some.injEq, Prod.mk.injEq, Bool.and_eq_true, decide_eq_true_eq] at h
    obtain ⟨⟨⟨rfl, h1, h2, h3⟩, hb⟩, rfl, rfl⟩ := h
    obtain ⟨n, rfl⟩ : ∃ q : Nat, n = q := ⟨n.toNat, by omega⟩
    obtain ⟨F, hF⟩ : ∃ F : Nat, F = 100 := ⟨100, rfl⟩
    refine ⟨F, ?_⟩
    have g := loop xs n F (by omega) h1 hb n 0 F 0 0 [] (by omega) (by omega) rfl (by omega)
    rw [start, Int.toNat_natCast]
    simp -implicitDefEqProofs (disch := omega) only [take_one, set_one, decide_eq_true, decide_eq_false, IntWalk.i64_in, beqT, beqF, bneT, bneF, nat_succ, ← Int.natCast_mul, ← Int.natCast_add, Int.toNat_natCast, Int.zero_mul, Int.zero_add, Int.add_zero, Nat.zero_add, Nat.add_zero, Nat.zero_mul, List.length_singleton, List.length_append, List.length_nil, List.length_cons, List.take_length, List.drop_zero, List.replicate_zero, List.take_nil, List.nil_append, Nat.reduceBEq, Nat.reduceMul, Nat.reduceLeDiff, eq_self, and_self, true_and, and_true, decide_true, decide_false, Bool.and_self, Bool.or_self, Bool.and_true, Bool.true_and, Bool.and_false, Bool.false_and, Bool.or_true, Bool.true_or, Bool.or_false, Bool.false_or, Bool.not_true, Bool.not_false, cond_true, cond_false]
    exact g
  · cases h
theorem ok : EntOk Try.prog ⟨38, R⟩ :=
  ent_okA mixed (A := (orcW [⟨93, l05DrawOrder.R⟩] [⟨63, l00From.R⟩])) (orcW_ok (by simp only [List.mem_cons, List.not_mem_nil, or_false, forall_eq_or_imp, forall_eq]; exact l05DrawOrder.ok) (by simp only [List.mem_cons, List.not_mem_nil, or_false, forall_eq_or_imp, forall_eq]; exact l00From.ok)) Try.func38 (by kernel_rfl) (by kernel_rfl) (n := 23) (ts := [4]) (hd := hd) (dr := Dr.std) (cut := (some 0)) (by kernel_rfl) (by kernel_rfl) (by kernel_rfl) run
end B10Houses

end Go.Proofs.Ytkoongajnnaeoaa.Ab
