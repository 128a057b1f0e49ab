/-
  Functions: houses; lists of truths.
-/
import Derived.Test.YtkoongajnnaeoaaFnHA
import Derived.Test.YtkoongajnnaeoaaFnUD
import Derived.Test.YtkoongajnnaeoaaFnQ
namespace Go.Proofs.Ytkoongajnnaeoaa.Ab
open Go
set_option linter.unusedVariables false
set_option linter.unusedSimpArgs false
set_option maxRecDepth 100000

namespace hse
/-- The dearest that is left, by a list of truths. -/
def ds.sv (r : List Int) (ls : List Bool) : Int := gz r (fidx.sq (fun h : Int => gb ls h.toNat) r 0).toNat
def lf.sv (out : List Int) (n : Nat) : List Bool := (List.range n).map fun i => decide (gz out i < 0)
theorem lf_length (out : List Int) (n : Nat) : (lf.sv out n).length = n := by simp [lf.sv]
theorem lf_get {out : List Int} {n i : Nat} (h : i < n) : gb (lf.sv out n) i = decide (gz out i < 0) := by
  rw [isAll.gb_eq (by rw [lf_length]; exact h)]; simp [lf.sv]
theorem fidx_congr {p q : Int → Bool} : ∀ (l : List Int) (i : Nat), (∀ x ∈ l, p x = q x) → fidx.sq p l i = fidx.sq q l i
  | [], i, _ => rfl
  | x :: r, i, h => by
    simp only [fidx.sq]
    rw [h x (List.mem_cons_self ..), fidx_congr r (i + 1) fun y hy => h y (List.mem_cons_of_mem _ hy)]
theorem ds_pt {W : List (List Int)} {n : Nat} (v : V W n) {out : List Int} {i : Nat} (hi : i < n) : ds.sv (gr W i) (lf.sv out n) = pt W out (i : Int) := by
  unfold ds.sv pt
  rw [Int.toNat_natCast, fidx_congr (q := fun h : Int => decide (gz out h.toNat < 0)) (gr W i) 0 fun x hx => by
    have := v.rin i hi x hx
    exact lf_get (by omega)]
theorem lf_set {out : List Int} {n i : Nat} (hl : out.length = n) (hi : i < n) {x : Int} (hx : 0 ≤ x) : lf.sv (out.set i x) n = (lf.sv out n).set i false := by
  refine List.ext_getElem (by simp [lf.sv]) fun j h1 h2 => ?_
  rw [lf_length] at h1
  have a := lf_get (out := out.set i x) h1
  rw [isAll.gb_eq (by rw [lf_length]; exact h1), gz_set (by omega)] at a
  rw [a, List.getElem_set]
  by_cases e : i = j
  · rw [if_pos e, if_pos e, decide_eq_false (by omega)]
  · rw [if_neg e, if_neg e]
    have b := lf_get (out := out) h1
    rw [isAll.gb_eq (by rw [lf_length]; exact h1)] at b
    exact b.symm
/-- Somebody is left. -/
theorem lf_any {out : List Int} {n : Nat} : (lf.sv out n).any (fun y => true == y) = decide (0 < cnt out n) := by
  rw [Bool.eq_iff_iff, List.any_eq_true, decide_eq_true_eq, cnt_pos]
  constructor
  · rintro ⟨y, hy, e⟩
    simp only [lf.sv, List.mem_map, List.mem_range] at hy
    obtain ⟨i, hi, rfl⟩ := hy
    have : decide (gz out i < 0) = true := by have := beq_iff_eq.1 e; exact this.symm
    exact ⟨i, hi, of_decide_eq_true this⟩
  · rintro ⟨i, hi, h⟩
    refine ⟨true, ?_, rfl⟩
    simp only [lf.sv, List.mem_map, List.mem_range]
    exact ⟨i, hi, decide_eq_true h⟩
theorem uniq_ok {n : Int} : ∀ {xs pre : List Int}, (∀ x ∈ xs, 0 ≤ x ∧ x < n) → xs.Nodup → (∀ x ∈ xs, x ∉ pre) → uniq.sq n pre xs = true
  | [], _, _, _, _ => rfl
  | y :: r, pre, h, nd, dj => by
    have hy := h y (List.mem_cons_self ..)
    rw [List.nodup_cons] at nd
    have hn : pre.any (has.sp y) = false := by
      rw [List.any_eq_false]
      intro z hz e
      simp only [has.sp, beq_iff_eq] at e
      subst e
      exact dj _ (List.mem_cons_self ..) hz
    simp only [uniq.sq, hn, Bool.not_false, Bool.and_true, Bool.and_eq_true, decide_eq_true_eq]
    refine ⟨by omega, uniq_ok (fun x hx => h x (List.mem_cons_of_mem _ hx)) nd.2 fun x hx hm => ?_⟩
    rcases List.mem_append.1 hm with hm | hm
    · exact dj x (List.mem_cons_of_mem _ hx) hm
    · rw [List.mem_singleton] at hm; subst hm; exact nd.1 hx
theorem sp_uniq {W : List (List Int)} (h : sp W = true) {r : List Int} (hr : r ∈ W) : uniq.sq (W.length : Int) [] r = true ∧ r.length = W.length := by
  simp only [sp, Bool.and_eq_true, decide_eq_true_eq, List.all_eq_true] at h
  obtain ⟨a, b, c⟩ := h.2 r hr
  exact ⟨uniq_ok b c (fun x _ => by simp), a⟩
theorem sp_lists {W : List (List Int)} (h : sp W = true) : lo.sp (W.length : Int) W = true := by
  simp only [lo.sp, List.all_eq_true]
  exact fun r hr => (sp_uniq h hr).1
theorem sp_short {W : List (List Int)} (h : sp W = true) (B : Nat) (hB : 8 ≤ B) : short.sp B W = true := by
  simp only [short.sp, List.all_eq_true, decide_eq_true_eq]
  intro r hr
  have a := (sp_uniq h hr).2
  have b := (valid h).h8
  omega
end hse

namespace slRepeatB
def R : List AVal → Option (Bool × AVal × List Blk)
  | [.ro (.bools xs) m 1, .int .i64 k] => some (decide (m = 1 ∧ xs.length = 1 ∧ 1 ≤ k ∧ k ≤ 8), .own 0 0 k.toNat 0 1, [⟨.typ (.bools (List.replicate k.toNat (gb xs 0))), 0⟩])
  | _ => none
def hd : Nat → Head := fun _ => ⟨[7, 8], some 1⟩
theorem run : ∀ args v new, R args = some (true, v, new) → ∃ fuel, runFn Try.prog (orc [⟨145, bMul.R⟩]) hd Dr.std (some 1) fuel (bodyOf Try.f96) 48 [4] args [] = some (v, new) := by
  intro args v new h
  unfold R at h
  split at h
  · rename_i xs m k
    simp only [Option.some.injEq, Prod.mk.injEq, decide_eq_true_eq] at h
    obtain ⟨⟨rfl, hx, h1, h2⟩, rfl, rfl⟩ := h
    obtain ⟨c, rfl⟩ := List.length_eq_one_iff.1 hx
    have hc : k = 1 ∨ k = 2 ∨ k = 3 ∨ k = 4 ∨ k = 5 ∨ k = 6 ∨ k = 7 ∨ k = 8 := by omega
    rcases hc with rfl | rfl | rfl | rfl | rfl | rfl | rfl | rfl <;> exact ⟨10, by kernel_rfl⟩
  · cases h
theorem ok : EntOk Try.prog ⟨96, R⟩ :=
  ent_okA mixed (A := (orc [⟨145, bMul.R⟩])) (orc_ok (by simp only [List.mem_cons, List.not_mem_nil, or_false, forall_eq_or_imp, forall_eq]; exact bMul.ok)) Try.func96 (by kernel_rfl) (by kernel_rfl) (n := 48) (ts := [4]) (hd := hd) (dr := Dr.std) (cut := (some 1)) (by kernel_rfl) (by kernel_rfl) (by kernel_rfl) run
end slRepeatB

namespace slIndexB
def R : List AVal → Option (Bool × AVal × List Blk)
  | [.ro (.bools ls) m 1, .bool v] => some (decide (m ≤ ls.length ∧ m ≤ 1000), .int .i64 (fidx.sq (fun y => v == y) (ls.take m) 0), [])
  | _ => none
def hd : Nat → Head := fun _ => ⟨[0, 1, 4, 7, 8], none⟩
noncomputable def L (f n : Nat) (s : State) := loopAt Try.prog (orc []) hd Dr.std 0 f (bodyOf Try.f146) 0 [true, false, true] (retK Try.prog [4] 0 none) n s
theorem start (ls : List Bool) (m : Nat) (v : Bool) (f : Nat) :
  runFn Try.prog (orc []) hd Dr.std none f (bodyOf Try.f146) 19 [4] [.ro (.bools ls) m 1, .bool v] []
  = (L f f (mkS (19 : Nat) [((0 : Nat), AVal.ro (Cont.bools ls) m (1 : Nat)), ((1 : Nat), AVal.bool v), ((4 : Nat), AVal.int IntKind.i64 (0 : Int)), ((7 : Nat), AVal.int IntKind.i64 (↑m : Int)), ((8 : Nat), AVal.int IntKind.i64 (0 : Int))] [])) := by kernel_rfl
theorem round (ls : List Bool) (m : Nat) (v : Bool) (i f n : Nat) :
  L f (n + 1) (mkS 19 [(0, .ro (.bools ls) m 1), (1, .bool v), (4, .int .i64 0), (7, .int .i64 m), (8, .int .i64 i)] [])
  = (bif decide ((↑i : Int) < (↑m : Int)) then bif true && (decide ((0 : Int) ≤ (↑i : Int)) && decide ((↑i : Int) < (↑m : Int))) then bif decide ((↑i : Int).toNat < ls.length) then bif v == gb ls (↑i : Int).toNat then some (AVal.int IntKind.i64 (↑i : Int), []) else L f n (mkS (19 : Nat) [((0 : Nat), AVal.ro (Cont.bools ls) m (1 : Nat)), ((1 : Nat), AVal.bool v), ((4 : Nat), AVal.int IntKind.i64 (0 : Int)), ((7 : Nat), AVal.int IntKind.i64 (↑m : Int)), ((8 : Nat), AVal.int IntKind.i64 (IntKind.i64.wrap ((↑i : Int) + (1 : Int))))] []) else none else none else some (AVal.int IntKind.i64 (-1 : Int), [])) := by kernel_rfl
theorem loop (ls : List Bool) (m : Nat) (v : Bool) (f : Nat) (hx : m ≤ ls.length) (hb : m ≤ 1000) : ∀ (d i n : Nat), i + d = m → d < n →
    L f n (mkS 19 [(0, .ro (.bools ls) m 1), (1, .bool v), (4, .int .i64 0), (7, .int .i64 m), (8, .int .i64 ((i : Nat) : Int))] []) = some (.int .i64 (fidx.sq (fun y => v == y) ((ls.take m).drop i) i), []) := by
  intro d
  induction d with
  | zero =>
    intro i n hi hn
    obtain ⟨n, rfl⟩ : ∃ k, n = k + 1 := ⟨n - 1, by omega⟩
    obtain rfl : i = m := by omega
    rw [round, List.drop_of_length_le (by rw [List.length_take]; omega)]
    simp -implicitDefEqProofs (disch := omega) only [take_one, set_one, decide_eq_true, decide_eq_false, IntWalk.i64_in, beqT, beqF, bneT, bneF, nat_succ, ← Int.natCast_mul, ← Int.natCast_add, Int.toNat_natCast, Int.zero_mul, Int.zero_add, Int.add_zero, Nat.zero_add, Nat.add_zero, Nat.zero_mul, List.length_singleton, List.length_append, List.length_nil, List.length_cons, List.take_length, List.drop_zero, List.replicate_zero, List.take_nil, List.nil_append, Nat.reduceBEq, Nat.reduceMul, Nat.reduceLeDiff, eq_self, and_self, true_and, and_true, decide_true, decide_false, Bool.and_self, Bool.or_self, Bool.and_true, Bool.true_and, Bool.and_false, Bool.false_and, Bool.or_true, Bool.true_or, Bool.or_false, Bool.false_or, Bool.not_true, Bool.not_false, cond_true, cond_false]
    rfl
  | succ d ih =>
    intro i n hi hn
    obtain ⟨n, rfl⟩ : ∃ k, n = k + 1 := ⟨n - 1, by omega⟩
    have g := ih (i + 1) n (by omega) (by omega)
    have hl : i < (ls.take m).length := by rw [List.length_take]; omega
    have e : (ls.take m)[i] = gb ls i := by rw [isAll.gb_eq (by omega)]; simp
    rw [round, List.drop_eq_getElem_cons hl, e]
    simp only [fidx.sq]
    simp -implicitDefEqProofs (disch := omega) only [take_one, set_one, decide_eq_true, decide_eq_false, IntWalk.i64_in, beqT, beqF, bneT, bneF, nat_succ, ← Int.natCast_mul, ← Int.natCast_add, Int.toNat_natCast, Int.zero_mul, Int.zero_add, Int.add_zero, Nat.zero_add, Nat.add_zero, Nat.zero_mul, List.length_singleton, List.length_append, List.length_nil, List.length_cons, List.take_length, List.drop_zero, List.replicate_zero, List.take_nil, List.nil_append, Nat.reduceBEq, Nat.reduceMul, Nat.reduceLeDiff, eq_self, and_self, true_and, and_true, decide_true, decide_false, Bool.and_self, Bool.or_self, Bool.and_true, Bool.true_and, Bool.and_false, Bool.false_and, Bool.or_true, Bool.true_or, Bool.or_false, Bool.false_or, Bool.not_true, Bool.not_false, cond_true, cond_false]
    cases hc : v == gb ls i
    · exact g
    · rfl
theorem run : ∀ args v new, R args = some (true, v, new) → ∃ fuel, runFn Try.prog (orc []) hd Dr.std none fuel (bodyOf Try.f146) 19 [4] args [] = some (v, new) := by
  intro args v new h
  unfold R at h
  split at h
  · rename_i ls m v
    simp only [Option.some.injEq, Prod.mk.injEq, decide_eq_true_eq] at h
    obtain ⟨⟨h1, h2⟩, rfl, rfl⟩ := h
    refine ⟨m + 1, ?_⟩
    have g := loop ls m v (m + 1) h1 h2 m 0 (m + 1) (by omega) (by omega)
    rw [List.drop_zero] at g
    rw [start]
    exact g
  · cases h
theorem ok : EntOk Try.prog ⟨146, R⟩ :=
  ent_okA mixed (A := (orc [])) (orc_ok (by simp)) Try.func146 (by kernel_rfl) (by kernel_rfl) (n := 19) (ts := [4]) (hd := hd) (dr := Dr.std) (cut := none) (by kernel_rfl) (by kernel_rfl) (by kernel_rfl) run
end slIndexB

namespace slContainsB
def R : List AVal → Option (Bool × AVal × List Blk)
  | [.ro (.bools ls) m 1, .bool v] => some (decide (m ≤ ls.length ∧ m ≤ 1000), .bool ((ls.take m).any (fun y => v == y)), [])
  | _ => none
theorem go (ls : List Bool) (m : Nat) (v : Bool) :
  runFn Try.prog (orc [⟨146, slIndexB.R⟩]) hd0 Dr.std none 0 (bodyOf Try.f97) 9 [4] [.ro (.bools ls) m 1, .bool v] []
  = (bif decide (m ≤ ls.length ∧ m ≤ (1000 : Nat)) && (true && (true && true) || true && true) then some (AVal.bool (decide ((0 : Int) ≤ fidx.sq (fun y => v == y) (List.take m ls) (0 : Nat))), []) else none) := by kernel_rfl
theorem run : ∀ args v new, R args = some (true, v, new) → ∃ fuel, runFn Try.prog (orc [⟨146, slIndexB.R⟩]) hd0 Dr.std none fuel (bodyOf Try.f97) 9 [4] args [] = some (v, new) := by
  intro args v new h
  unfold R at h
  split at h
  · rename_i ls m v
    simp only [Option.some.injEq, Prod.mk.injEq, decide_eq_true_eq] at h
    obtain ⟨⟨h1, h2⟩, rfl, rfl⟩ := h
    refine ⟨0, ?_⟩
    rw [go]
    simp only [h1, h2, and_self, decide_true, Bool.and_self, Bool.or_self, Bool.and_true, Bool.or_true, cond_true, fidx_ge]
  · cases h
theorem ok : EntOk Try.prog ⟨97, R⟩ :=
  ent_okA mixed (A := (orc [⟨146, slIndexB.R⟩])) (orc_ok (by simp only [List.mem_cons, List.not_mem_nil, or_false, forall_eq_or_imp, forall_eq]; exact slIndexB.ok)) Try.func97 (by kernel_rfl) (by kernel_rfl) (n := 9) (ts := [4]) (hd := hd0) (dr := Dr.std) (cut := none) (by kernel_rfl) (by kernel_rfl) (by kernel_rfl) run
end slContainsB

namespace areHouses
def R : List AVal → Option (Bool × AVal × List Blk)
  | [.ro (.rows .i64 W) m 1] => some (decide (m = W.length) && hse.sp W, .bool true, [])
  | _ => none
def hd : Nat → Head := fun _ => ⟨[0, 2, 5, 6, 7], none⟩
noncomputable def L (f n : Nat) (s : State) := loopAt Try.prog (orc [⟨102, isAll.R⟩]) hd Dr.std 0 f (bodyOf Try.f94) 0 [true, false, true] (retK Try.prog [2] 0 none) n s
theorem start (W : List (List Int)) (f : Nat) :
  runFn Try.prog (orc [⟨102, isAll.R⟩]) hd Dr.std none f (bodyOf Try.f94) 30 [2] [.ro (.rows .i64 W) W.length 1] []
  = (L f f (mkS (30 : Nat) [((0 : Nat), AVal.ro (Cont.rows IntKind.i64 W) W.length (1 : Nat)), ((2 : Nat), AVal.bool false), ((5 : Nat), AVal.ro (Cont.rows IntKind.i64 W) W.length (1 : Nat)), ((6 : Nat), AVal.int IntKind.i64 (↑W.length : Int)), ((7 : Nat), AVal.int IntKind.i64 (0 : Int))] [])) := by kernel_rfl
theorem round (W : List (List Int)) (i f n : Nat) :
  L f (n + 1) (mkS 30 [(0, .ro (.rows .i64 W) W.length 1), (2, .bool false), (5, .ro (.rows .i64 W) W.length 1), (6, .int .i64 W.length), (7, .int .i64 i)] [])
  = (bif decide ((↑i : Int) < (↑W.length : Int)) then bif true && (decide ((0 : Int) ≤ (↑i : Int)) && decide ((↑i : Int) < (↑W.length : Int))) then bif decide ((↑i : Int).toNat < W.length) then bif (↑(gr W (↑i : Int).toNat).length : Int) != (↑W.length : Int) then some (AVal.bool false, []) else bif decide ((gr W (↑i : Int).toNat).length ≤ (gr W (↑i : Int).toNat).length ∧ (gr W (↑i : Int).toNat).length ≤ (1000000000 : Nat)) && (true && true || true && true) then bif !uniq.sq (↑(gr W (↑i : Int).toNat).length : Int) [] (List.take (gr W (↑i : Int).toNat).length (gr W (↑i : Int).toNat)) then some (AVal.bool false, []) else L f n (mkS (30 : Nat) [((0 : Nat), AVal.ro (Cont.rows IntKind.i64 W) W.length (1 : Nat)), ((2 : Nat), AVal.bool false), ((5 : Nat), AVal.ro (Cont.rows IntKind.i64 W) W.length (1 : Nat)), ((6 : Nat), AVal.int IntKind.i64 (↑W.length : Int)), ((7 : Nat), AVal.int IntKind.i64 (IntKind.i64.wrap ((↑i : Int) + (1 : Int))))] []) else none else none else none else bif decide ((1 : Int) ≤ (↑W.length : Int)) then some (AVal.bool (decide ((↑W.length : Int) ≤ (8 : Int))), []) else some (AVal.bool false, [])) := by kernel_rfl
theorem loop (W : List (List Int)) (f : Nat) (hs : hse.sp W = true) (h1 : 1 ≤ W.length) (h8 : W.length ≤ 8) : ∀ (d k n : Nat), k + d = W.length → d < n →
    L f n (mkS 30 [(0, .ro (.rows .i64 W) W.length 1), (2, .bool false), (5, .ro (.rows .i64 W) W.length 1), (6, .int .i64 W.length), (7, .int .i64 ((k : Nat) : Int))] []) = some (.bool true, []) := by
  intro d
  induction d with
  | zero =>
    intro k n hk hn
    obtain ⟨n, rfl⟩ : ∃ k, n = k + 1 := ⟨n - 1, by omega⟩
    obtain rfl : k = W.length := by omega
    rw [round]
    simp -implicitDefEqProofs (disch := omega) only [take_one, set_one, decide_eq_true, decide_eq_false, IntWalk.i64_in, beqT, beqF, bneT, bneF, nat_succ, ← Int.natCast_mul, ← Int.natCast_add, Int.toNat_natCast, Int.zero_mul, Int.zero_add, Int.add_zero, Nat.zero_add, Nat.add_zero, Nat.zero_mul, List.length_singleton, List.length_append, List.length_nil, List.length_cons, List.take_length, List.drop_zero, List.replicate_zero, List.take_nil, List.nil_append, Nat.reduceBEq, Nat.reduceMul, Nat.reduceLeDiff, eq_self, and_self, true_and, and_true, decide_true, decide_false, Bool.and_self, Bool.or_self, Bool.and_true, Bool.true_and, Bool.and_false, Bool.false_and, Bool.or_true, Bool.true_or, Bool.or_false, Bool.false_or, Bool.not_true, Bool.not_false, cond_true, cond_false]
  | succ d ih =>
    intro k n hk hn
    obtain ⟨n, rfl⟩ : ∃ k, n = k + 1 := ⟨n - 1, by omega⟩
    have g := ih (k + 1) n (by omega) (by omega)
    obtain ⟨u1, u2⟩ := hse.sp_uniq hs (hse.gr_mem (W := W) (i := k) (by omega))
    have u3 : List.take W.length (gr W k) = gr W k := List.take_of_length_le (by omega)
    rw [round]
    simp -implicitDefEqProofs (disch := omega) only [u1, u2, u3, take_one, set_one, decide_eq_true, decide_eq_false, IntWalk.i64_in, beqT, beqF, bneT, bneF, nat_succ, ← Int.natCast_mul, ← Int.natCast_add, Int.toNat_natCast, Int.zero_mul, Int.zero_add, Int.add_zero, Nat.zero_add, Nat.add_zero, Nat.zero_mul, List.length_singleton, List.length_append, List.length_nil, List.length_cons, List.take_length, List.drop_zero, List.replicate_zero, List.take_nil, List.nil_append, Nat.reduceBEq, Nat.reduceMul, Nat.reduceLeDiff, eq_self, and_self, true_and, and_true, decide_true, decide_false, Bool.and_self, Bool.or_self, Bool.and_true, Bool.true_and, Bool.and_false, Bool.false_and, Bool.or_true, Bool.true_or, Bool.or_false, Bool.false_or, Bool.not_true, Bool.not_false, cond_true, cond_false]
    exact g
theorem run : ∀ args v new, R args = some (true, v, new) → ∃ fuel, runFn Try.prog (orc [⟨102, isAll.R⟩]) hd Dr.std none fuel (bodyOf Try.f94) 30 [2] args [] = some (v, new) := by
  intro args v new h
  unfold R at h
  split at h
  · rename_i W m
    simp only [Option.some.injEq, Prod.mk.injEq, Bool.and_eq_true, decide_eq_true_eq] at h
    obtain ⟨⟨rfl, hs⟩, rfl, rfl⟩ := h
    have v := hse.valid hs
    have h1 := v.h1
    have h8 := v.h8
    obtain ⟨F, hF⟩ : ∃ F : Nat, F = 100 := ⟨100, rfl⟩
    refine ⟨F, ?_⟩
    rw [start]
    exact loop W F hs h1 h8 W.length 0 F (by omega) (by omega)
  · cases h
theorem ok : EntOk Try.prog ⟨94, R⟩ :=
  ent_okA mixed (A := (orc [⟨102, isAll.R⟩])) (orc_ok (by simp only [List.mem_cons, List.not_mem_nil, or_false, forall_eq_or_imp, forall_eq]; exact isAll.ok)) Try.func94 (by kernel_rfl) (by kernel_rfl) (n := 30) (ts := [2]) (hd := hd) (dr := Dr.std) (cut := none) (by kernel_rfl) (by kernel_rfl) (by kernel_rfl) run
end areHouses

namespace l05Whole
def R : List AVal → Option (Bool × AVal × List Blk)
  | [.ro (.rows .i64 W) m 1] => some (decide (m = W.length) && hse.sp W, .bool true, [])
  | _ => none
def hd : Nat → Head := fun _ => ⟨[0, 2, 3, 20, 21], none⟩
noncomputable def L (f n : Nat) (s : State) := loopAt Try.prog (orc [⟨135, l05Lists.R⟩]) hd Dr.std 0 f (bodyOf Try.f100) 0 [true, true, true, false, true] (retK Try.prog [2] 0 none) n s
theorem start (W : List (List Int)) (f : Nat) :
  runFn Try.prog (orc [⟨135, l05Lists.R⟩]) hd Dr.std none f (bodyOf Try.f100) 32 [2] [.ro (.rows .i64 W) W.length 1] []
  = (bif decide ((↑W.length : Int) < (1 : Int)) then some (AVal.bool false, []) else bif decide ((8 : Int) < (↑W.length : Int)) then some (AVal.bool false, []) else bif decide (W.length = W.length ∧ W.length ≤ (4611686018427387904 : Nat) ∧ (0 : Int) ≤ (↑W.length : Int) ∧ (↑W.length : Int) ≤ (4611686018427387904 : Int)) && short.sp (4611686018427387904 : Nat) W && (true && (true && true) || true && true) then bif !(lo.sp (↑W.length : Int) W && decide ((↑W.length : Int) = (↑W.length : Int))) then some (AVal.bool false, []) else L f f (mkS (32 : Nat) [((0 : Nat), AVal.ro (Cont.rows IntKind.i64 W) W.length (1 : Nat)), ((2 : Nat), AVal.bool false), ((3 : Nat), AVal.int IntKind.i64 (↑W.length : Int)), ((20 : Nat), AVal.int IntKind.i64 (↑W.length : Int)), ((21 : Nat), AVal.int IntKind.i64 (0 : Int))] []) else none) := by kernel_rfl
theorem round (W : List (List Int)) (i f n : Nat) :
  L f (n + 1) (mkS 32 [(0, .ro (.rows .i64 W) W.length 1), (2, .bool false), (3, .int .i64 W.length), (20, .int .i64 W.length), (21, .int .i64 i)] [])
  = (bif decide ((↑i : Int) < (↑W.length : Int)) then bif true && (decide ((0 : Int) ≤ (↑i : Int)) && decide ((↑i : Int) < (↑W.length : Int))) then bif decide ((↑i : Int).toNat < W.length) then bif (↑(gr W (↑i : Int).toNat).length : Int) != (↑W.length : Int) then some (AVal.bool false, []) else L f n (mkS (32 : Nat) [((0 : Nat), AVal.ro (Cont.rows IntKind.i64 W) W.length (1 : Nat)), ((2 : Nat), AVal.bool false), ((3 : Nat), AVal.int IntKind.i64 (↑W.length : Int)), ((20 : Nat), AVal.int IntKind.i64 (↑W.length : Int)), ((21 : Nat), AVal.int IntKind.i64 (IntKind.i64.wrap ((↑i : Int) + (1 : Int))))] []) else none else none else some (AVal.bool true, [])) := by kernel_rfl
theorem loop (W : List (List Int)) (f : Nat) (hs : hse.sp W = true) (h1 : 1 ≤ W.length) (h8 : W.length ≤ 8) : ∀ (d k n : Nat), k + d = W.length → d < n →
    L f n (mkS 32 [(0, .ro (.rows .i64 W) W.length 1), (2, .bool false), (3, .int .i64 W.length), (20, .int .i64 W.length), (21, .int .i64 ((k : Nat) : Int))] []) = some (.bool true, []) := by
  intro d
  induction d with
  | zero =>
    intro k n hk hn
    obtain ⟨n, rfl⟩ : ∃ k, n = k + 1 := ⟨n - 1, by omega⟩
    obtain rfl : k = W.length := by omega
    rw [round]
    simp -implicitDefEqProofs (disch := omega) only [take_one, set_one, decide_eq_true, decide_eq_false, IntWalk.i64_in, beqT, beqF, bneT, bneF, nat_succ, ← Int.natCast_mul, ← Int.natCast_add, Int.toNat_natCast, Int.zero_mul, Int.zero_add, Int.add_zero, Nat.zero_add, Nat.add_zero, Nat.zero_mul, List.length_singleton, List.length_append, List.length_nil, List.length_cons, List.take_length, List.drop_zero, List.replicate_zero, List.take_nil, List.nil_append, Nat.reduceBEq, Nat.reduceMul, Nat.reduceLeDiff, eq_self, and_self, true_and, and_true, decide_true, decide_false, Bool.and_self, Bool.or_self, Bool.and_true, Bool.true_and, Bool.and_false, Bool.false_and, Bool.or_true, Bool.true_or, Bool.or_false, Bool.false_or, Bool.not_true, Bool.not_false, cond_true, cond_false]
  | succ d ih =>
    intro k n hk hn
    obtain ⟨n, rfl⟩ : ∃ k, n = k + 1 := ⟨n - 1, by omega⟩
    have g := ih (k + 1) n (by omega) (by omega)
    obtain ⟨u1, u2⟩ := hse.sp_uniq hs (hse.gr_mem (W := W) (i := k) (by omega))
    rw [round]
    simp -implicitDefEqProofs (disch := omega) only [u1, u2, take_one, set_one, decide_eq_true, decide_eq_false, IntWalk.i64_in, beqT, beqF, bneT, bneF, nat_succ, ← Int.natCast_mul, ← Int.natCast_add, Int.toNat_natCast, Int.zero_mul, Int.zero_add, Int.add_zero, Nat.zero_add, Nat.add_zero, Nat.zero_mul, List.length_singleton, List.length_append, List.length_nil, List.length_cons, List.take_length, List.drop_zero, List.replicate_zero, List.take_nil, List.nil_append, Nat.reduceBEq, Nat.reduceMul, Nat.reduceLeDiff, eq_self, and_self, true_and, and_true, decide_true, decide_false, Bool.and_self, Bool.or_self, Bool.and_true, Bool.true_and, Bool.and_false, Bool.false_and, Bool.or_true, Bool.true_or, Bool.or_false, Bool.false_or, Bool.not_true, Bool.not_false, cond_true, cond_false]
    exact g
theorem run : ∀ args v new, R args = some (true, v, new) → ∃ fuel, runFn Try.prog (orc [⟨135, l05Lists.R⟩]) hd Dr.std none fuel (bodyOf Try.f100) 32 [2] args [] = some (v, new) := by
  intro args v new h
  unfold R at h
  split at h
  · rename_i W m
    simp only [Option.some.injEq, Prod.mk.injEq, Bool.and_eq_true, decide_eq_true_eq] at h
    obtain ⟨⟨rfl, hs⟩, rfl, rfl⟩ := h
    have v := hse.valid hs
    have h1 := v.h1
    have h8 := v.h8
    obtain ⟨F, hF⟩ : ∃ F : Nat, F = 100 := ⟨100, rfl⟩
    refine ⟨F, ?_⟩
    have sh := hse.sp_short hs 4611686018427387904 (by decide)
    have sl := hse.sp_lists hs
    have g := loop W F hs h1 h8 W.length 0 F (by omega) (by omega)
    rw [start]
    simp -implicitDefEqProofs (disch := omega) only [sh, sl, take_one, set_one, decide_eq_true, decide_eq_false, IntWalk.i64_in, beqT, beqF, bneT, bneF, nat_succ, ← Int.natCast_mul, ← Int.natCast_add, Int.toNat_natCast, Int.zero_mul, Int.zero_add, Int.add_zero, Nat.zero_add, Nat.add_zero, Nat.zero_mul, List.length_singleton, List.length_append, List.length_nil, List.length_cons, List.take_length, List.drop_zero, List.replicate_zero, List.take_nil, List.nil_append, Nat.reduceBEq, Nat.reduceMul, Nat.reduceLeDiff, eq_self, and_self, true_and, and_true, decide_true, decide_false, Bool.and_self, Bool.or_self, Bool.and_true, Bool.true_and, Bool.and_false, Bool.false_and, Bool.or_true, Bool.true_or, Bool.or_false, Bool.false_or, Bool.not_true, Bool.not_false, cond_true, cond_false]
    exact g
  · cases h
theorem ok : EntOk Try.prog ⟨100, R⟩ :=
  ent_okA mixed (A := (orc [⟨135, l05Lists.R⟩])) (orc_ok (by simp only [List.mem_cons, List.not_mem_nil, or_false, forall_eq_or_imp, forall_eq]; exact l05Lists.ok)) Try.func100 (by kernel_rfl) (by kernel_rfl) (n := 32) (ts := [2]) (hd := hd) (dr := Dr.std) (cut := none) (by kernel_rfl) (by kernel_rfl) (by kernel_rfl) run
end l05Whole

namespace dearest1
def R : List AVal → Option (Bool × AVal × List Blk)
  | [.int .i64 h, .rom [.ro (.bools ls) k 1] 0] => some (decide (k = ls.length ∧ 0 ≤ h ∧ h < (k : Int)), .bool (gb ls h.toNat), [])
  | _ => none
theorem go (h : Int) (ls : List Bool) (k : Nat) :
  runFn Try.prog (orc []) hd0 Dr.std none 0 (bodyOf Try.f148) 8 [3] [.int .i64 h, .rom [.ro (.bools ls) k 1] 0] []
  = (bif true && (decide ((0 : Int) ≤ h) && decide (h < (↑k : Int))) then bif decide (h.toNat < ls.length) then some (AVal.bool (gb ls h.toNat), []) else none else none) := by kernel_rfl
theorem run : ∀ args v new, R args = some (true, v, new) → ∃ fuel, runFn Try.prog (orc []) hd0 Dr.std none fuel (bodyOf Try.f148) 8 [3] args [] = some (v, new) := by
  intro args v new h
  unfold R at h
  split at h
  · rename_i x ls k
    simp only [Option.some.injEq, Prod.mk.injEq, decide_eq_true_eq] at h
    obtain ⟨⟨rfl, h1, h2⟩, rfl, rfl⟩ := h
    refine ⟨0, ?_⟩
    rw [go]
    simp -implicitDefEqProofs (disch := omega) only [take_one, set_one, decide_eq_true, decide_eq_false, IntWalk.i64_in, beqT, beqF, bneT, bneF, nat_succ, ← Int.natCast_mul, ← Int.natCast_add, Int.toNat_natCast, Int.zero_mul, Int.zero_add, Int.add_zero, Nat.zero_add, Nat.add_zero, Nat.zero_mul, List.length_singleton, List.length_append, List.length_nil, List.length_cons, List.take_length, List.drop_zero, List.replicate_zero, List.take_nil, List.nil_append, Nat.reduceBEq, Nat.reduceMul, Nat.reduceLeDiff, eq_self, and_self, true_and, and_true, decide_true, decide_false, Bool.and_self, Bool.or_self, Bool.and_true, Bool.true_and, Bool.and_false, Bool.false_and, Bool.or_true, Bool.true_or, Bool.or_false, Bool.false_or, Bool.not_true, Bool.not_false, cond_true, cond_false]
  · cases h
theorem ok : EntOk Try.prog ⟨148, R⟩ :=
  ent_okA mixed (A := (orc [])) (orc_ok (by simp)) Try.func148 (by kernel_rfl) (by kernel_rfl) (n := 8) (ts := [3]) (hd := hd0) (dr := Dr.std) (cut := none) (by kernel_rfl) (by kernel_rfl) (by kernel_rfl) run
end dearest1

namespace dearIdx
def R : List AVal → Option (Bool × AVal × List Blk)
  | [.ro (.ints .i64 r) m 1, .fn ff [.rom [.ro (.bools ls) k 1] 0]] => some (decide (m = r.length ∧ k = ls.length ∧ m ≤ 1000 ∧ ff = 148) && (r.all fun x => decide (0 ≤ x) && decide (x < (ls.length : Int))), .int .i64 (fidx.sq (fun h : Int => gb ls h.toNat) r 0), [])
  | _ => none
def hd : Nat → Head := fun _ => ⟨[0, 1, 4, 7, 8], none⟩
noncomputable def L (f n : Nat) (s : State) := loopAt Try.prog (orc [⟨148, dearest1.R⟩]) hd Dr.std 0 f (bodyOf Try.f147) 0 [true, false, true] (retK Try.prog [4] 0 none) n s
theorem start (r : List Int) (ls : List Bool) (f : Nat) :
  runFn Try.prog (orc [⟨148, dearest1.R⟩]) hd Dr.std none f (bodyOf Try.f147) 19 [4] [.ro (.ints .i64 r) r.length 1, .fn 148 [.rom [.ro (.bools ls) ls.length 1] 0]] []
  = (L f f (mkS (19 : Nat) [((0 : Nat), AVal.ro (Cont.ints IntKind.i64 r) r.length (1 : Nat)), ((1 : Nat), AVal.fn (148 : Nat) [AVal.rom [AVal.ro (Cont.bools ls) ls.length (1 : Nat)] (0 : Nat)]), ((4 : Nat), AVal.int IntKind.i64 (0 : Int)), ((7 : Nat), AVal.int IntKind.i64 (↑r.length : Int)), ((8 : Nat), AVal.int IntKind.i64 (0 : Int))] [])) := by kernel_rfl
theorem round (r : List Int) (ls : List Bool) (i f n : Nat) :
  L f (n + 1) (mkS 19 [(0, .ro (.ints .i64 r) r.length 1), (1, .fn 148 [.rom [.ro (.bools ls) ls.length 1] 0]), (4, .int .i64 0), (7, .int .i64 r.length), (8, .int .i64 i)] [])
  = (bif decide ((↑i : Int) < (↑r.length : Int)) then bif true && (decide ((0 : Int) ≤ (↑i : Int)) && decide ((↑i : Int) < (↑r.length : Int))) then bif decide ((↑i : Int).toNat < r.length) then bif decide (ls.length = ls.length ∧ (0 : Int) ≤ gz r (↑i : Int).toNat ∧ gz r (↑i : Int).toNat < (↑ls.length : Int)) && (true && (true && true && true) || true && true) then bif gb ls (gz r (↑i : Int).toNat).toNat then some (AVal.int IntKind.i64 (↑i : Int), []) else L f n (mkS (19 : Nat) [((0 : Nat), AVal.ro (Cont.ints IntKind.i64 r) r.length (1 : Nat)), ((1 : Nat), AVal.fn (148 : Nat) [AVal.rom [AVal.ro (Cont.bools ls) ls.length (1 : Nat)] (0 : Nat)]), ((4 : Nat), AVal.int IntKind.i64 (0 : Int)), ((7 : Nat), AVal.int IntKind.i64 (↑r.length : Int)), ((8 : Nat), AVal.int IntKind.i64 (IntKind.i64.wrap ((↑i : Int) + (1 : Int))))] []) else none else none else none else some (AVal.int IntKind.i64 (-1 : Int), [])) := by kernel_rfl
theorem loop (r : List Int) (ls : List Bool) (f : Nat) (hr : ∀ x ∈ r, 0 ≤ x ∧ x < (ls.length : Int)) (hb : r.length ≤ 1000) : ∀ (d i n : Nat), i + d = r.length → d < n →
    L f n (mkS 19 [(0, .ro (.ints .i64 r) r.length 1), (1, .fn 148 [.rom [.ro (.bools ls) ls.length 1] 0]), (4, .int .i64 0), (7, .int .i64 r.length), (8, .int .i64 ((i : Nat) : Int))] []) = some (.int .i64 (fidx.sq (fun h : Int => gb ls h.toNat) (r.drop i) i), []) := by
  intro d
  induction d with
  | zero =>
    intro i n hi hn
    obtain ⟨n, rfl⟩ : ∃ k, n = k + 1 := ⟨n - 1, by omega⟩
    rw [round, List.drop_of_length_le (by omega)]
    simp -implicitDefEqProofs (disch := omega) only [take_one, set_one, decide_eq_true, decide_eq_false, IntWalk.i64_in, beqT, beqF, bneT, bneF, nat_succ, ← Int.natCast_mul, ← Int.natCast_add, Int.toNat_natCast, Int.zero_mul, Int.zero_add, Int.add_zero, Nat.zero_add, Nat.add_zero, Nat.zero_mul, List.length_singleton, List.length_append, List.length_nil, List.length_cons, List.take_length, List.drop_zero, List.replicate_zero, List.take_nil, List.nil_append, Nat.reduceBEq, Nat.reduceMul, Nat.reduceLeDiff, eq_self, and_self, true_and, and_true, decide_true, decide_false, Bool.and_self, Bool.or_self, Bool.and_true, Bool.true_and, Bool.and_false, Bool.false_and, Bool.or_true, Bool.true_or, Bool.or_false, Bool.false_or, Bool.not_true, Bool.not_false, cond_true, cond_false]
    rfl
  | succ d ih =>
    intro i n hi hn
    obtain ⟨n, rfl⟩ : ∃ k, n = k + 1 := ⟨n - 1, by omega⟩
    have g := ih (i + 1) n (by omega) (by omega)
    have hl : i < r.length := by omega
    have hx := hr _ (gz_mem hl)
    rw [round, List.drop_eq_getElem_cons hl, ← gz_eq hl]
    simp only [fidx.sq]
    simp -implicitDefEqProofs (disch := omega) only [take_one, set_one, decide_eq_true, decide_eq_false, IntWalk.i64_in, beqT, beqF, bneT, bneF, nat_succ, ← Int.natCast_mul, ← Int.natCast_add, Int.toNat_natCast, Int.zero_mul, Int.zero_add, Int.add_zero, Nat.zero_add, Nat.add_zero, Nat.zero_mul, List.length_singleton, List.length_append, List.length_nil, List.length_cons, List.take_length, List.drop_zero, List.replicate_zero, List.take_nil, List.nil_append, Nat.reduceBEq, Nat.reduceMul, Nat.reduceLeDiff, eq_self, and_self, true_and, and_true, decide_true, decide_false, Bool.and_self, Bool.or_self, Bool.and_true, Bool.true_and, Bool.and_false, Bool.false_and, Bool.or_true, Bool.true_or, Bool.or_false, Bool.false_or, Bool.not_true, Bool.not_false, cond_true, cond_false]
    cases hc : gb ls (gz r i).toNat
    · exact g
    · rfl
theorem run : ∀ args v new, R args = some (true, v, new) → ∃ fuel, runFn Try.prog (orc [⟨148, dearest1.R⟩]) hd Dr.std none fuel (bodyOf Try.f147) 19 [4] args [] = some (v, new) := by
  intro args v new h
  unfold R at h
  split at h
  · rename_i r m ff ls k
    simp only [Option.some.injEq, Prod.mk.injEq, Bool.and_eq_true, decide_eq_true_eq, List.all_eq_true] at h
    obtain ⟨⟨⟨rfl, rfl, h1, rfl⟩, hr⟩, rfl, rfl⟩ := h
    refine ⟨r.length + 1, ?_⟩
    have g := loop r ls (r.length + 1) hr h1 r.length 0 (r.length + 1) (by omega) (by omega)
    rw [List.drop_zero] at g
    rw [start]
    exact g
  · cases h
theorem ok : EntOk Try.prog ⟨147, R⟩ :=
  ent_okA mixed (A := (orc [⟨148, dearest1.R⟩])) (orc_ok (by simp only [List.mem_cons, List.not_mem_nil, or_false, forall_eq_or_imp, forall_eq]; exact dearest1.ok)) Try.func147 (by kernel_rfl) (by kernel_rfl) (n := 19) (ts := [4]) (hd := hd) (dr := Dr.std) (cut := none) (by kernel_rfl) (by kernel_rfl) (by kernel_rfl) run
end dearIdx

namespace dearest
def R : List AVal → Option (Bool × AVal × List Blk)
  | [.ro (.ints .i64 r) m 1, .ro (.bools ls) k 1] => some (decide (m = r.length ∧ k = ls.length ∧ m ≤ 1000) && ((r.all fun x => decide (0 ≤ x) && decide (x < (ls.length : Int))) && r.any (fun h : Int => gb ls h.toNat)), .int .i64 (hse.ds.sv r ls), [])
  | _ => none
theorem go (r : List Int) (ls : List Bool) :
  runFn Try.prog (orc [⟨147, dearIdx.R⟩]) hd0 Dr.std (some 0) 0 (bodyOf Try.f99) 11 [4] [.ro (.ints .i64 r) r.length 1, .ro (.bools ls) ls.length 1] []
  = (bif (decide (r.length = r.length ∧ ls.length = ls.length ∧ r.length ≤ (1000 : Nat) ∧ (148 : Nat) = (148 : FuncId)) && r.all fun x => decide ((0 : Int) ≤ x) && decide (x < (↑ls.length : Int))) && (true && false || true && true) then bif true && (decide ((0 : Int) ≤ fidx.sq (fun h => gb ls h.toNat) r (0 : Nat)) && decide (fidx.sq (fun h => gb ls h.toNat) r (0 : Nat) < (↑r.length : Int))) then bif decide ((fidx.sq (fun h => gb ls h.toNat) r (0 : Nat)).toNat < r.length) then some (AVal.int IntKind.i64 (gz r (fidx.sq (fun h => gb ls h.toNat) r (0 : Nat)).toNat), []) else none else none else none) := by kernel_rfl
theorem run : ∀ args v new, R args = some (true, v, new) → ∃ fuel, runFn Try.prog (orc [⟨147, dearIdx.R⟩]) hd0 Dr.std (some 0) fuel (bodyOf Try.f99) 11 [4] args [] = some (v, new) := by
  intro args v new h
  unfold R at h
  split at h
  · rename_i r m ls k
    simp only [Option.some.injEq, Prod.mk.injEq, Bool.and_eq_true, decide_eq_true_eq] at h
    obtain ⟨⟨⟨rfl, rfl, h1⟩, hr, ha⟩, rfl, rfl⟩ := h
    refine ⟨0, ?_⟩
    rcases hse.fidx_p (0 : Int) (fun h : Int => gb ls h.toNat) r 0 with ⟨e, h2⟩ | ⟨k, e, h2, h3, h4⟩
    · exfalso
      obtain ⟨y, hy, e2⟩ := List.any_eq_true.1 ha
      rw [h2 y hy] at e2
      cases e2
    · rw [go]
      unfold hse.ds.sv
      rw [e, Nat.zero_add]
      simp -implicitDefEqProofs (disch := omega) only [hr, take_one, set_one, decide_eq_true, decide_eq_false, IntWalk.i64_in, beqT, beqF, bneT, bneF, nat_succ, ← Int.natCast_mul, ← Int.natCast_add, Int.toNat_natCast, Int.zero_mul, Int.zero_add, Int.add_zero, Nat.zero_add, Nat.add_zero, Nat.zero_mul, List.length_singleton, List.length_append, List.length_nil, List.length_cons, List.take_length, List.drop_zero, List.replicate_zero, List.take_nil, List.nil_append, Nat.reduceBEq, Nat.reduceMul, Nat.reduceLeDiff, eq_self, and_self, true_and, and_true, decide_true, decide_false, Bool.and_self, Bool.or_self, Bool.and_true, Bool.true_and, Bool.and_false, Bool.false_and, Bool.or_true, Bool.true_or, Bool.or_false, Bool.false_or, Bool.not_true, Bool.not_false, cond_true, cond_false]
  · cases h
theorem ok : EntOk Try.prog ⟨99, R⟩ :=
  ent_okA mixed (A := (orc [⟨147, dearIdx.R⟩])) (orc_ok (by simp only [List.mem_cons, List.not_mem_nil, or_false, forall_eq_or_imp, forall_eq]; exact dearIdx.ok)) Try.func99 (by kernel_rfl) (by kernel_rfl) (n := 11) (ts := [4]) (hd := hd0) (dr := Dr.std) (cut := (some 0)) (by kernel_rfl) (by kernel_rfl) (by kernel_rfl) run
end dearest

namespace points
def R : List AVal → Option (Bool × AVal × List Blk)
  | [.int .i64 i, .rom [.ro (.rows .i64 W) m 1] 0, .rom [.ro (.bools ls) k 1] 0] => some (decide (m = W.length ∧ k = m ∧ k = ls.length ∧ 0 ≤ i ∧ i < (m : Int)) && (hse.sp W && ls.any (fun y => true == y)), .int .i64 (hse.ds.sv (gr W i.toNat) ls), [])
  | _ => none
theorem go (i : Int) (W : List (List Int)) (ls : List Bool) :
  runFn Try.prog (orc [⟨99, dearest.R⟩]) hd0 Dr.std none 0 (bodyOf Try.f98) 11 [4] [.int .i64 i, .rom [.ro (.rows .i64 W) W.length 1] 0, .rom [.ro (.bools ls) ls.length 1] 0] []
  = (bif true && (decide ((0 : Int) ≤ i) && decide (i < (↑W.length : Int))) then bif decide (i.toNat < W.length) then bif decide ((gr W i.toNat).length = (gr W i.toNat).length ∧ ls.length = ls.length ∧ (gr W i.toNat).length ≤ (1000 : Nat)) && (((gr W i.toNat).all fun x => decide ((0 : Int) ≤ x) && decide (x < (↑ls.length : Int))) && (gr W i.toNat).any fun h => gb ls h.toNat) && (true && (true && true) || true && true) then some (AVal.int IntKind.i64 (hse.ds.sv (gr W i.toNat) ls), []) else none else none else none) := by kernel_rfl
theorem run : ∀ args v new, R args = some (true, v, new) → ∃ fuel, runFn Try.prog (orc [⟨99, dearest.R⟩]) hd0 Dr.std none fuel (bodyOf Try.f98) 11 [4] args [] = some (v, new) := by
  intro args v new h
  unfold R at h
  split at h
  · rename_i i W m ls k
    simp only [Option.some.injEq, Prod.mk.injEq, Bool.and_eq_true, decide_eq_true_eq] at h
    obtain ⟨⟨⟨rfl, e1, rfl, h1, h2⟩, hs, ha⟩, rfl, rfl⟩ := h
    have v := hse.valid hs
    have h8 := v.h8
    obtain ⟨i, rfl⟩ : ∃ q : Nat, i = q := ⟨i.toNat, by omega⟩
    have hi : i < W.length := by omega
    have rl := v.rl i hi
    have hr : ((gr W i).all fun x => decide (0 ≤ x) && decide (x < (ls.length : Int))) = true := by
      simp only [List.all_eq_true, Bool.and_eq_true, decide_eq_true_eq]
      rw [e1]
      exact v.rin i hi
    have hany : (gr W i).any (fun h : Int => gb ls h.toNat) = true := by
      obtain ⟨y, hy, e2⟩ := List.any_eq_true.1 ha
      obtain ⟨j, hj, rfl⟩ := List.getElem_of_mem hy
      obtain ⟨k, hk, e3⟩ := v.has hi (x := (j : Int)) ⟨by omega, by omega⟩
      refine List.any_eq_true.2 ⟨gz (gr W i) k, gz_mem (by omega), ?_⟩
      rw [e3, Int.toNat_natCast, isAll.gb_eq hj]
      exact (beq_iff_eq.1 e2).symm
    refine ⟨0, ?_⟩
    rw [go]
    simp -implicitDefEqProofs (disch := omega) only [hr, hany, take_one, set_one, decide_eq_true, decide_eq_false, IntWalk.i64_in, beqT, beqF, bneT, bneF, nat_succ, ← Int.natCast_mul, ← Int.natCast_add, Int.toNat_natCast, Int.zero_mul, Int.zero_add, Int.add_zero, Nat.zero_add, Nat.add_zero, Nat.zero_mul, List.length_singleton, List.length_append, List.length_nil, List.length_cons, List.take_length, List.drop_zero, List.replicate_zero, List.take_nil, List.nil_append, Nat.reduceBEq, Nat.reduceMul, Nat.reduceLeDiff, eq_self, and_self, true_and, and_true, decide_true, decide_false, Bool.and_self, Bool.or_self, Bool.and_true, Bool.true_and, Bool.and_false, Bool.false_and, Bool.or_true, Bool.true_or, Bool.or_false, Bool.false_or, Bool.not_true, Bool.not_false, cond_true, cond_false]
  · cases h
theorem ok : EntOk Try.prog ⟨98, R⟩ :=
  ent_okA mixed (A := (orc [⟨99, dearest.R⟩])) (orc_ok (by simp only [List.mem_cons, List.not_mem_nil, or_false, forall_eq_or_imp, forall_eq]; exact dearest.ok)) Try.func98 (by kernel_rfl) (by kernel_rfl) (n := 11) (ts := [4]) (hd := hd0) (dr := Dr.std) (cut := none) (by kernel_rfl) (by kernel_rfl) (by kernel_rfl) run
end points

end Go.Proofs.Ytkoongajnnaeoaa.Ab
