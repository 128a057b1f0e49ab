/-
  Functions: numbers below n, n = 1 too; the law of arrows: its run.
-/
import Derived.Test.YtgblgofmdhekiaaFnA2
import Derived.Test.YtgblgofmdhekiaaFnBy
import Derived.Test.YtgblgofmdhekiaaFnAU
import Derived.Test.YtgblgofmdhekiaaAbFrz
namespace Go.Proofs.Ytgblgofmdhekiaa.Ab
open Go
set_option linter.unusedVariables false
set_option linter.unusedSimpArgs false
set_option maxRecDepth 100000

namespace srcPick1
def R : List AVal → Heap → Option (Bool × AVal × Heap)
  | [.ptr 0 0 0, .int .i64 k], [⟨.cells [.ro (.ints .u8 xs) m 1, .int .i64 a, .int .u64 s], 0⟩] => some (decide (m = xs.length ∧ m ≤ 1000000 ∧ 0 ≤ a ∧ a ≤ 1000000 ∧ k = 1), .int .i64 0, [⟨.cells [.ro (.ints .u8 xs) m 1, .int .i64 a, .int .u64 s], 0⟩])
  | _, _ => none
theorem go (xs : List Int) (a s k : Int) :
  runFn Try.prog (orc []) hd0 Dr.std none 0 (bodyOf Try.f37) 20 [4] [.ptr 0 0 0, .int .i64 k] [⟨.cells [.ro (.ints .u8 xs) xs.length 1, .int .i64 a, .int .u64 s], 0⟩]
  = (bif true && true then bif decide (k ≤ (1 : Int)) then some (AVal.int IntKind.i64 (0 : Int), [{ c := BC.cells [AVal.ro (Cont.ints IntKind.u8 xs) xs.length (1 : Nat), AVal.int IntKind.i64 a, AVal.int IntKind.u64 s], ver := (0 : Nat) }]) else none else none) := by kernel_rfl
theorem run : ∀ args H v new, R args H = some (true, v, new) → ∃ fuel, runFn Try.prog (orc []) hd0 Dr.std none fuel (bodyOf Try.f37) 20 [4] args H = some (v, new) := by
  intro args H v new h
  unfold R at h
  split at h
  · rename_i k xs m a s
    simp only [Option.some.injEq, Prod.mk.injEq, decide_eq_true_eq] at h
    obtain ⟨⟨rfl, h1, h2, h3, rfl⟩, rfl, rfl⟩ := h
    refine ⟨0, ?_⟩
    rw [go]
    simp -implicitDefEqProofs (disch := omega) only [take_one, set_one, decide_eq_true, decide_eq_false, IntWalk.i64_in, beqT, beqF, bneT, bneF, nat_succ, ← Int.natCast_mul, ← Int.natCast_add, Int.toNat_natCast, Int.zero_mul, Int.zero_add, Int.add_zero, Nat.zero_add, Nat.add_zero, Nat.zero_mul, List.length_singleton, List.length_append, List.length_nil, List.length_cons, List.take_length, List.drop_zero, List.replicate_zero, List.take_nil, List.nil_append, Nat.reduceBEq, Nat.reduceMul, Nat.reduceLeDiff, eq_self, and_self, true_and, and_true, decide_true, decide_false, Bool.and_self, Bool.or_self, Bool.and_true, Bool.true_and, Bool.and_false, Bool.false_and, Bool.or_true, Bool.true_or, Bool.or_false, Bool.false_or, Bool.not_true, Bool.not_false, cond_true, cond_false]
  · cases h
theorem ok : EntWOk Try.prog ⟨37, R⟩ :=
  entw_ok mixed (A := (orc [])) (orc_ok (by simp)) Try.func37 (by kernel_rfl) (by kernel_rfl) (n := 20) (ts := [4]) (hd := hd0) (dr := Dr.std) (cut := none) (by kernel_rfl) (by kernel_rfl) (by kernel_rfl) run
end srcPick1

namespace r8
theorem go_one (xs : List Int) : ∀ (d a : Nat) (s : Int), go.sv xs 1 d a s = List.replicate d 0
  | 0, _, _ => rfl
  | d + 1, a, s => by rw [go.sv, go_one xs d, Int.tmod_one, List.replicate_succ]
end r8
namespace R8Below1
def R : List AVal → Option (Bool × AVal × List Blk)
  | [.ro (.ints .u8 xs) m 1, .int .i64 k, .int .i64 w] => some (decide (m = xs.length ∧ m ≤ 1000000 ∧ 0 ≤ k ∧ k ≤ 1000 ∧ w = 1), .own 0 0 (r8.bel.sv xs k.toNat w).length 0 1, [⟨.typ (.ints .i64 (r8.bel.sv xs k.toNat w)), 0⟩])
  | _ => none
def hd : Nat → Head := fun _ => ⟨[1, 2, 7, 8], some 2⟩
noncomputable def L (f n : Nat) (s : State) := loopAt Try.prog (orcW [⟨37, srcPick1.R⟩] [⟨35, l00From.R⟩]) hd Dr.std 0 f (bodyOf Try.f27) 0 [true, true, true, false] (retK Try.prog [6] 0 none) n s
theorem start (xs : List Int) (k : Int) (f : Nat) :
  runFn Try.prog (orcW [⟨37, srcPick1.R⟩] [⟨35, l00From.R⟩]) hd Dr.std none f (bodyOf Try.f27) 23 [6] [.ro (.ints .u8 xs) xs.length 1, .int .i64 k, .int .i64 1] []
  = (bif true && (true && true || true && (false && true && true)) then L f f (mkS (23 : Nat) [((1 : Nat), AVal.int IntKind.i64 k), ((2 : Nat), AVal.int IntKind.i64 (1 : Int)), ((7 : Nat), AVal.ptr (0 : Nat) (0 : Nat) (0 : Nat)), ((8 : Nat), AVal.own (1 : Nat) (0 : Nat) (0 : Nat) (0 : Nat) (1 : Nat))] [{ c := BC.cells [AVal.ro (Cont.ints IntKind.u8 xs) xs.length (1 : Nat), AVal.int IntKind.i64 (0 : Int), AVal.int IntKind.u64 (0 : Int)], ver := (0 : Nat) }, { c := BC.typ (Cont.ints IntKind.i64 (List.replicate (0 : Nat) (0 : Int))), ver := (0 : Nat) }]) else none) := by kernel_rfl
theorem round (xs os : List Int) (k a s : Int) (q f n : Nat) :
  L f (n + 1) (mkS 23 [(1, .int .i64 k), (2, .int .i64 1), (7, .ptr 0 0 0), (8, .own 1 0 q 0 1)] [⟨.cells [.ro (.ints .u8 xs) xs.length 1, .int .i64 a, .int .u64 s], 0⟩, ⟨.typ (.ints .i64 os), 0⟩])
  = (bif decide ((0 : Int) < k) then bif decide (xs.length = xs.length ∧ xs.length ≤ (1000000 : Nat) ∧ (0 : Int) ≤ a ∧ a ≤ (1000000 : Int) ∧ (1 : Int) = (1 : Int)) && (true && (true && true)) then bif (1 : Nat) == (1 : Nat) && (1 : Nat) == (1 : Nat) && (true && (true && true) && (true && true && (decide (q + (1 : Nat) ≤ (4611686018427387904 : Nat)) && decide ((q + (1 : Nat)) * (8 : Nat) ≤ (140737488355328 : Nat))))) then L f n (mkS (23 : Nat) [((1 : Nat), AVal.int IntKind.i64 (IntKind.i64.wrap (k - (1 : Int)))), ((2 : Nat), AVal.int IntKind.i64 (1 : Int)), ((7 : Nat), AVal.ptr (0 : Nat) (0 : Nat) (0 : Nat)), ((8 : Nat), AVal.own (1 : Nat) (0 : Nat) (q + (1 : Nat)) (0 : Nat) (1 : Nat))] [{ c := BC.cells [AVal.ro (Cont.ints IntKind.u8 xs) xs.length (1 : Nat), AVal.int IntKind.i64 a, AVal.int IntKind.u64 s], ver := (0 : Nat) }, { c := BC.typ (Cont.ints IntKind.i64 (List.take q os ++ List.take (1 : Nat) (List.drop (0 : Nat) ((List.replicate (1 : Nat) (0 : Int)).set (0 : Nat) (0 : Int))))), ver := (0 : Nat) }]) else none else none else some (AVal.own (1 : Nat) (0 : Nat) q (0 : Nat) (1 : Nat), [{ c := BC.cells [AVal.ro (Cont.ints IntKind.u8 xs) xs.length (1 : Nat), AVal.int IntKind.i64 a, AVal.int IntKind.u64 s], ver := (0 : Nat) }, { c := BC.typ (Cont.ints IntKind.i64 os), ver := (0 : Nat) }])) := by kernel_rfl
theorem loop (xs : List Int) (f : Nat) (hx : xs.length ≤ 1000000) (s : Int) : ∀ (d n i : Nat), i + d ≤ 1000 → d < n →
    ∃ C, L f n (mkS 23 [(1, .int .i64 (d : Int)), (2, .int .i64 1), (7, .ptr 0 0 0), (8, .own 1 0 i 0 1)] [⟨.cells [.ro (.ints .u8 xs) xs.length 1, .int .i64 0, .int .u64 s], 0⟩, ⟨.typ (.ints .i64 (List.replicate i 0)), 0⟩]) = some (.own 1 0 (i + d) 0 1, [C, ⟨.typ (.ints .i64 (List.replicate (i + d) 0)), 0⟩]) := by
  intro d
  induction d with
  | zero =>
    intro n i hi hn
    obtain ⟨n, rfl⟩ : ∃ q, n = q + 1 := ⟨n - 1, by omega⟩
    refine ⟨⟨.cells [.ro (.ints .u8 xs) xs.length 1, .int .i64 0, .int .u64 s], 0⟩, ?_⟩
    rw [round]
    simp -implicitDefEqProofs (disch := omega) only [take_one, set_one, decide_eq_true, decide_eq_false, IntWalk.i64_in, beqT, beqF, bneT, bneF, nat_succ, ← Int.natCast_mul, ← Int.natCast_add, Int.toNat_natCast, Int.zero_mul, Int.zero_add, Int.add_zero, Nat.zero_add, Nat.add_zero, Nat.zero_mul, List.length_singleton, List.length_append, List.length_nil, List.length_cons, List.take_length, List.drop_zero, List.replicate_zero, List.take_nil, List.nil_append, Nat.reduceBEq, Nat.reduceMul, Nat.reduceLeDiff, eq_self, and_self, true_and, and_true, decide_true, decide_false, Bool.and_self, Bool.or_self, Bool.and_true, Bool.true_and, Bool.and_false, Bool.false_and, Bool.or_true, Bool.true_or, Bool.or_false, Bool.false_or, Bool.not_true, Bool.not_false, cond_true, cond_false]
  | succ d ih =>
    intro n i hi hn
    obtain ⟨n, rfl⟩ : ∃ q, n = q + 1 := ⟨n - 1, by omega⟩
    obtain ⟨C, g⟩ := ih n (i + 1) (by omega) (by omega)
    rw [List.replicate_succ'] at g
    refine ⟨C, ?_⟩
    rw [show i + (d + 1) = i + 1 + d by omega, ← g, round]
    have ht : (List.replicate i (0 : Int)).take i = List.replicate i 0 := List.take_of_length_le (by simp)
    have hl : (List.replicate i (0 : Int)).length = i := List.length_replicate
    have wd : IntKind.i64.wrap (((d + 1 : Nat) : Int) - 1) = (d : Int) := by rw [IntWalk.i64_in _ (by omega)]; omega
    simp -implicitDefEqProofs (disch := omega) only [ht, hl, wd, take_one, set_one, decide_eq_true, decide_eq_false, IntWalk.i64_in, beqT, beqF, bneT, bneF, nat_succ, ← Int.natCast_mul, ← Int.natCast_add, Int.toNat_natCast, Int.zero_mul, Int.zero_add, Int.add_zero, Nat.zero_add, Nat.add_zero, Nat.zero_mul, List.length_singleton, List.length_append, List.length_nil, List.length_cons, List.take_length, List.drop_zero, List.replicate_zero, List.take_nil, List.nil_append, Nat.reduceBEq, Nat.reduceMul, Nat.reduceLeDiff, eq_self, and_self, true_and, and_true, decide_true, decide_false, Bool.and_self, Bool.or_self, Bool.and_true, Bool.true_and, Bool.and_false, Bool.false_and, Bool.or_true, Bool.true_or, Bool.or_false, Bool.false_or, Bool.not_true, Bool.not_false, cond_true, cond_false]
theorem run : ∀ args v new, R args = some (true, v, new) → ∃ fuel, regc [1] (runFn Try.prog (orcW [⟨37, srcPick1.R⟩] [⟨35, l00From.R⟩]) hd Dr.std none fuel (bodyOf Try.f27) 23 [6] args []) = some (v, new) := by
  intro args v new h
  unfold R at h
  split at h
  · rename_i xs m k w
    simp only [Option.some.injEq, Prod.mk.injEq, decide_eq_true_eq] at h
    obtain ⟨⟨rfl, h1, h2, h3, rfl⟩, rfl, rfl⟩ := h
    obtain ⟨k, rfl⟩ : ∃ q : Nat, k = q := ⟨k.toNat, by omega⟩
    obtain ⟨F, hF⟩ : ∃ F : Nat, F = 2000 := ⟨2000, rfl⟩
    refine ⟨F, ?_⟩
    obtain ⟨C, hC⟩ := loop xs F h1 0 k F 0 (by omega) (by omega)
    rw [start, Int.toNat_natCast]
    unfold r8.bel.sv
    rw [r8.go_one, List.length_replicate]
    rw [Nat.zero_add] at hC
    exact (congrArg (regc [1]) hC).trans rfl
  · cases h
theorem ok : EntOk Try.prog ⟨27, R⟩ :=
  ent_okAG (ks := [1]) mixed (A := (orcW [⟨37, srcPick1.R⟩] [⟨35, l00From.R⟩])) (orcW_ok (by simp only [List.mem_cons, List.not_mem_nil, or_false, forall_eq_or_imp, forall_eq]; exact srcPick1.ok) (by simp only [List.mem_cons, List.not_mem_nil, or_false, forall_eq_or_imp, forall_eq]; exact l00From.ok)) Try.func27 (by kernel_rfl) (by kernel_rfl) (n := 23) (ts := [6]) (hd := hd) (dr := Dr.std) (cut := none) (by kernel_rfl) (by kernel_rfl) (by kernel_rfl) run
end R8Below1

namespace below
/-- Numbers below n, for n = 1 too. -/
def R : List AVal → Option (Bool × AVal × List Blk)
  | [.ro (.ints .u8 xs) m 1, .int .i64 k, .int .i64 w] => some (decide (m = xs.length ∧ m ≤ 1000000 ∧ 0 ≤ k ∧ k ≤ 1000 ∧ 1 ≤ w ∧ w ≤ 200), .own 0 0 (r8.bel.sv xs k.toNat w).length 0 1, [⟨.typ (.ints .i64 (r8.bel.sv xs k.toNat w)), 0⟩])
  | _ => none
theorem ok : EntOk Try.prog ⟨27, R⟩ := R8Below.ok.cases R8Below1.ok (by
  intro args v new h
  unfold R at h
  split at h
  · rename_i xs m k w
    simp only [Option.some.injEq, Prod.mk.injEq, decide_eq_true_eq] at h
    obtain ⟨⟨h0, h1, h2, h3, h4, h5⟩, rfl, rfl⟩ := h
    by_cases hw : w = 1
    · right; simp [R8Below1.R, h0, h1, h2, h3, hw]; omega
    · left; simp [R8Below.R, h0, h1, h2, h3]; omega
  · cases h)
end below

namespace arw
/-- The turns that are drawn. -/
def tn.sv (zs : List Int) (i : Nat) : List Nat := (List.range i).map fun (j : Nat) => fdiv .f32 (FloatKind.f32.nearest (r8.at.sv zs (j : Int) 17)) 1120403456
theorem tn_len (zs : List Int) (i : Nat) : (tn.sv zs i).length = i := by simp [tn.sv]
theorem tn_succ (zs : List Int) (i : Nat) : tn.sv zs (i + 1) = tn.sv zs i ++ [fdiv .f32 (FloatKind.f32.nearest (r8.at.sv zs (i : Int) 17)) 1120403456] := by simp [tn.sv, List.range_succ]
theorem law {zs : List Int} (h : r8.bytes.sp zs = true) {c : Nat} (h1 : 1 ≤ c) (h2 : c ≤ 10) : agr.Law (tn.sv zs c) := by
  have e : tn.sv zs c = ((List.range c).map fun j => (r8.at.sv zs ((j : Nat) : Int) 17).toNat).map agr.tk := by
    unfold tn.sv
    rw [List.map_map]
    apply List.map_congr_left
    intro j _
    have := (r8.at_in h (j : Int) 17 (by decide)).1
    show _ = fdiv .f32 (FloatKind.f32.nearest (((r8.at.sv zs (j : Int) 17).toNat : Nat) : Int)) 1120403456
    rw [Int.toNat_of_nonneg this]
  rw [e]
  refine agr.law (by simpa using h1) (by simpa using h2) ?_
  intro k hk
  obtain ⟨j, _, rfl⟩ := List.mem_map.mp hk
  have := r8.at_in h (j : Int) 17 (by decide)
  omega
theorem sp_of {xs : List Int} {n : Nat} (h1 : 1 ≤ xs.length) (h2 : xs.length ≤ 64) (hn1 : 1 ≤ n) (hn : n < 13) (h : ∀ x ∈ xs, 0 ≤ x ∧ x < (n : Int)) : ar.sp xs (n : Int) = true := by
  unfold ar.sp
  rw [decide_eq_true h1, decide_eq_true h2, decide_eq_true (show (1 : Int) ≤ (n : Int) by omega), decide_eq_true (show (n : Int) ≤ 64 by omega)]
  simp only [Bool.and_self, Bool.true_and, List.all_eq_true, Bool.and_eq_true, decide_eq_true_eq]
  intro x hx
  have := h x hx
  exact ⟨this.1, by omega⟩
theorem mod_of {xs : List Int} {n : Nat} (hn : n < 13) (h : ∀ x ∈ xs, 0 ≤ x ∧ x < (n : Int)) : (ar.o.sv xs (n : Int)).all fl.modc.sp = true := by
  rw [List.all_eq_true]
  intro z hz
  obtain ⟨x, hx, rfl⟩ := List.mem_map.mp hz
  have := h x hx
  exact fl.point_mod (ar.t_ok (by omega) this.1 (by omega))
theorem o_len (xs : List Int) (n : Int) : (ar.o.sv xs n).length = xs.length := by simp [ar.o.sv]
/-- Facts on chosen arrows. -/
structure Arr (A : List (Nat × Nat)) (c : Nat) : Prop where
  len : A.length = c
  mod : A.all fl.modc.sp = true
  ok : an.long.ok.sp (fl.mean.sv A).1 (fl.mean.sv A).2 = true
  gt : (FloatKind.f64.format.order (fwid.sv (an.long.sv (fl.mean.sv A).1 (fl.mean.sv A).2)) 4607186922399644778 == some Ordering.gt) = false
  one : ∀ i, i < c → an.long.ok.sp (gc A i).1 (gc A i).2 = true ∧ ord.sp .f64 (fsub .f64 (fwid.sv (an.long.sv (gc A i).1 (gc A i).2)) 4607182418800017408) (fsub .f64 4607182418800017408 (fwid.sv (an.long.sv (gc A i).1 (gc A i).2))) = true ∧
    (FloatKind.f64.format.order (fmax.sv .f64 (fsub .f64 (fwid.sv (an.long.sv (gc A i).1 (gc A i).2)) 4607182418800017408) (fsub .f64 4607182418800017408 (fwid.sv (an.long.sv (gc A i).1 (gc A i).2)))) 4562254508917369340 == some Ordering.gt) = false
theorem arr {xs : List Int} {n : Nat} (h1 : 1 ≤ xs.length) (h2 : xs.length ≤ 10) (hn : n < 13) (h : ∀ x ∈ xs, 0 ≤ x ∧ x < (n : Int)) : Arr (ar.o.sv xs (n : Int)) xs.length := by
  have e : ar.o.sv xs (n : Int) = (xs.map Int.toNat).map fun c => (agr.gre n c, agr.gim n c) := by
    unfold ar.o.sv
    rw [List.map_map]
    apply List.map_congr_left
    intro x hx
    show _ = ((ar.one.sv (n : Int) ((x.toNat : Nat) : Int)).1, (ar.one.sv (n : Int) ((x.toNat : Nat) : Int)).2)
    rw [Int.toNat_of_nonneg (h x hx).1]
  obtain ⟨m1, m2⟩ := agr.mean_long (xs := xs.map Int.toNat) (n := n) (by simpa using h1) (by simpa using h2) hn (by
    intro c hc
    obtain ⟨x, hx, rfl⟩ := List.mem_map.mp hc
    have := h x hx
    omega)
  rw [← e] at m1 m2
  refine ⟨o_len _ _, mod_of hn h, m1, m2, ?_⟩
  intro i hi
  have hx : xs[i] ∈ xs := List.getElem_mem hi
  have hb := h _ hx
  have hg : gc (ar.o.sv xs (n : Int)) i = ar.one.sv (n : Int) ((xs[i].toNat : Nat) : Int) := by
    rw [Int.toNat_of_nonneg hb.1]
    unfold gc ar.o.sv
    simp [List.getD_eq_getElem?_getD, List.getElem?_map, List.getElem?_eq_getElem hi]
  rw [hg]
  have l := agr.l_all n hn xs[i].toNat (by omega)
  unfold agr.chkL agr.gok.sp agr.gap agr.gt64.sp at l
  simp only [Bool.and_eq_true, Bool.not_eq_true'] at l
  exact ⟨l.1, l.2.1, l.2.2⟩
/-- Facts on three votes. -/
theorem vote {n : Nat} (hn1 : 1 ≤ n) (hn : n < 13) {v : Int} (h0 : 0 ≤ v) (h1 : v < (n : Int)) : ar.sp [v, v, v] (n : Int) = true ∧ (ar.o.sv [v, v, v] (n : Int)).length = 3 ∧ (ar.o.sv [v, v, v] (n : Int)).all fl.modc.sp = true ∧
    ((an.ang.ok.sp (fl.mean.sv (ar.o.sv [v, v, v] (n : Int))).2 (fl.mean.sv (ar.o.sv [v, v, v] (n : Int))).1 = true ∧ flo.fin.sp (an.ang.sv (fl.mean.sv (ar.o.sv [v, v, v] (n : Int))).2 (fl.mean.sv (ar.o.sv [v, v, v] (n : Int))).1) = true) ∧
    (agr.gok.sp (fwid.sv (an.ang.sv (fl.mean.sv (ar.o.sv [v, v, v] (n : Int))).2 (fl.mean.sv (ar.o.sv [v, v, v] (n : Int))).1)) (fdiv .f64 (FloatKind.f64.nearest v) (FloatKind.f64.nearest (n : Int))) = true ∧
     ∀ W, W = agr.gap (fwid.sv (an.ang.sv (fl.mean.sv (ar.o.sv [v, v, v] (n : Int))).2 (fl.mean.sv (ar.o.sv [v, v, v] (n : Int))).1)) (fdiv .f64 (FloatKind.f64.nearest v) (FloatKind.f64.nearest (n : Int))) → (agr.gok.sp W 0 = true ∧ agr.gok.sp W 4607182418800017408 = true) ∧ (agr.gt64.sp (agr.gap W 0) 4562254508917369340 && agr.gt64.sp (agr.gap W 4607182418800017408) 4562254508917369340) = false)) := by
  obtain ⟨k, rfl⟩ : ∃ k : Nat, v = k := ⟨v.toNat, by omega⟩
  have hx : ∀ x ∈ [(k : Int), k, k], 0 ≤ x ∧ x < (n : Int) := by
    intro x hx
    simp only [List.mem_cons, List.not_mem_nil, or_false, or_self] at hx
    omega
  have c := agr.v_all n hn k (by omega)
  unfold agr.chkV agr.fa agr.va agr.mv at c
  simp only [Bool.and_eq_true, Bool.not_eq_true'] at c
  refine ⟨sp_of (by simp) (by simp) hn1 hn hx, by simp [ar.o.sv], mod_of hn hx, c.1, c.2.1.1, ?_⟩
  intro W hW
  rw [hW]
  exact ⟨c.2.1.2, c.2.2⟩
theorem bel_in {zs : List Int} (h : r8.bytes.sp zs = true) {n : Nat} (hn : 1 ≤ n) (c : Nat) : ∀ x ∈ r8.bel.sv zs c (n : Int), 0 ≤ x ∧ x < (n : Int) := r8.go_in h (by omega) _ _ _
theorem bel_len (zs : List Int) (c : Nat) (n : Int) : (r8.bel.sv zs c n).length = c := r8.go_length _ _ _ _ _
end arw

namespace fArrows
def R : List AVal → Option (Bool × AVal × List Blk)
  | [.ro (.ints .u8 xs) m 1, .ro (.ints .u8 ys) k 1] => some (decide (m = xs.length ∧ k = ys.length) && (r8.bytes.sp xs && r8.bytes.sp ys), .bool true, [])
  | _ => none
def hd : Nat → Head := fun i => bif eqN i 0 then ⟨[998, 0, 1, 5, 6, 8, 12], none⟩ else bif eqN i 2 then ⟨[998, 0, 6, 20, 21], none⟩ else ⟨[998, 6, 20, 22, 24, 26, 29, 30], none⟩
noncomputable def L0 (f n : Nat) (s : State) := loopAt Try.prog (orcF [⟨27, layF below.R⟩, ⟨28, layF iArrowsOf_t.R⟩, ⟨32, layF iAgreeOnce_t.R⟩, ⟨33, layF iAgreeRounds_t.R⟩] (orc [⟨7, r8Long.R⟩, ⟨9, r8At.R⟩, ⟨29, MeanArrow.R⟩, ⟨30, LongOf.R⟩, ⟨26, r8Gap.R⟩, ⟨31, TurnOfMean.R⟩, ⟨34, r8Wide.R⟩])) hd Dr.std 0 f (bodyOf Try.f6) 0 [true, true, true, true, true, true, true, true, false, true] (retK Try.prog [4] 0 none) n s
noncomputable def L2 (f n : Nat) (s : State) := loopAt Try.prog (orcF [⟨27, layF below.R⟩, ⟨28, layF iArrowsOf_t.R⟩, ⟨32, layF iAgreeOnce_t.R⟩, ⟨33, layF iAgreeRounds_t.R⟩] (orc [⟨7, r8Long.R⟩, ⟨9, r8At.R⟩, ⟨29, MeanArrow.R⟩, ⟨30, LongOf.R⟩, ⟨26, r8Gap.R⟩, ⟨31, TurnOfMean.R⟩, ⟨34, r8Wide.R⟩])) hd Dr.std 0 f (bodyOf Try.f6) 0 [true, true, true, true, true, true, true, true, true, true, true, true, true, true, true, true, true, false, true] (retK Try.prog [4] 0 none) n s
noncomputable def L4 (f n : Nat) (s : State) := loopAt Try.prog (orcF [⟨27, layF below.R⟩, ⟨28, layF iArrowsOf_t.R⟩, ⟨32, layF iAgreeOnce_t.R⟩, ⟨33, layF iAgreeRounds_t.R⟩] (orc [⟨7, r8Long.R⟩, ⟨9, r8At.R⟩, ⟨29, MeanArrow.R⟩, ⟨30, LongOf.R⟩, ⟨26, r8Gap.R⟩, ⟨31, TurnOfMean.R⟩, ⟨34, r8Wide.R⟩])) hd Dr.std 0 f (bodyOf Try.f6) 0 [true, true, true, true, true, true, true, true, true, true, true, true, true, true, true, true, true, true, true, true, true, true, true, false, true] (retK Try.prog [4] 0 none) n s
theorem start (zs us : List Int) (f : Nat) :
  runFn Try.prog (orcF [⟨27, layF below.R⟩, ⟨28, layF iArrowsOf_t.R⟩, ⟨32, layF iAgreeOnce_t.R⟩, ⟨33, layF iAgreeRounds_t.R⟩] (orc [⟨7, r8Long.R⟩, ⟨9, r8At.R⟩, ⟨29, MeanArrow.R⟩, ⟨30, LongOf.R⟩, ⟨26, r8Gap.R⟩, ⟨31, TurnOfMean.R⟩, ⟨34, r8Wide.R⟩])) hd Dr.std none f (bodyOf Try.f6) 225 [4] [.ro (.ints .u8 zs) zs.length 1, .ro (.ints .u8 us) us.length 1] []
  = (bif true && (true && (true && true) || true && true) then bif decide ((48 : Int) < (↑zs.length : Int)) || decide ((48 : Int) < (↑us.length : Int)) then some (AVal.bool true, []) else bif decide (us.length = us.length ∧ (0 : Int) ≤ (40 : Int)) && (true && true || true && true) then bif decide (us.length = us.length ∧ (0 : Int) ≤ (41 : Int)) && (true && true || true && true) then bif decide (zs.length = zs.length ∧ zs.length ≤ (1000000 : Nat) ∧ (0 : Int) ≤ IntKind.i64.wrap ((1 : Int) + r8.at.sv us (41 : Int) (10 : Int)) ∧ IntKind.i64.wrap ((1 : Int) + r8.at.sv us (41 : Int) (10 : Int)) ≤ (1000 : Int) ∧ (1 : Int) ≤ IntKind.i64.wrap ((1 : Int) + r8.at.sv us (40 : Int) (12 : Int)) ∧ IntKind.i64.wrap ((1 : Int) + r8.at.sv us (40 : Int) (12 : Int)) ≤ (200 : Int)) && (true && (true && true)) then bif decide ((r8.bel.sv zs (IntKind.i64.wrap ((1 : Int) + r8.at.sv us (41 : Int) (10 : Int))).toNat (IntKind.i64.wrap ((1 : Int) + r8.at.sv us (40 : Int) (12 : Int)))).length = (r8.bel.sv zs (IntKind.i64.wrap ((1 : Int) + r8.at.sv us (41 : Int) (10 : Int))).toNat (IntKind.i64.wrap ((1 : Int) + r8.at.sv us (40 : Int) (12 : Int)))).length ∧ (r8.bel.sv zs (IntKind.i64.wrap ((1 : Int) + r8.at.sv us (41 : Int) (10 : Int))).toNat (IntKind.i64.wrap ((1 : Int) + r8.at.sv us (40 : Int) (12 : Int)))).length ≤ (4611686018427387904 : Nat)) && ar.sp (r8.bel.sv zs (IntKind.i64.wrap ((1 : Int) + r8.at.sv us (41 : Int) (10 : Int))).toNat (IntKind.i64.wrap ((1 : Int) + r8.at.sv us (40 : Int) (12 : Int)))) (IntKind.i64.wrap ((1 : Int) + r8.at.sv us (40 : Int) (12 : Int))) && (true && true && (true && true)) then bif decide ((ar.o.sv (r8.bel.sv zs (IntKind.i64.wrap ((1 : Int) + r8.at.sv us (41 : Int) (10 : Int))).toNat (IntKind.i64.wrap ((1 : Int) + r8.at.sv us (40 : Int) (12 : Int)))) (IntKind.i64.wrap ((1 : Int) + r8.at.sv us (40 : Int) (12 : Int)))).length = (ar.o.sv (r8.bel.sv zs (IntKind.i64.wrap ((1 : Int) + r8.at.sv us (41 : Int) (10 : Int))).toNat (IntKind.i64.wrap ((1 : Int) + r8.at.sv us (40 : Int) (12 : Int)))) (IntKind.i64.wrap ((1 : Int) + r8.at.sv us (40 : Int) (12 : Int)))).length ∧ (1 : Nat) ≤ (ar.o.sv (r8.bel.sv zs (IntKind.i64.wrap ((1 : Int) + r8.at.sv us (41 : Int) (10 : Int))).toNat (IntKind.i64.wrap ((1 : Int) + r8.at.sv us (40 : Int) (12 : Int)))) (IntKind.i64.wrap ((1 : Int) + r8.at.sv us (40 : Int) (12 : Int)))).length ∧ (ar.o.sv (r8.bel.sv zs (IntKind.i64.wrap ((1 : Int) + r8.at.sv us (41 : Int) (10 : Int))).toNat (IntKind.i64.wrap ((1 : Int) + r8.at.sv us (40 : Int) (12 : Int)))) (IntKind.i64.wrap ((1 : Int) + r8.at.sv us (40 : Int) (12 : Int)))).length ≤ (64 : Nat)) && (ar.o.sv (r8.bel.sv zs (IntKind.i64.wrap ((1 : Int) + r8.at.sv us (41 : Int) (10 : Int))).toNat (IntKind.i64.wrap ((1 : Int) + r8.at.sv us (40 : Int) (12 : Int)))) (IntKind.i64.wrap ((1 : Int) + r8.at.sv us (40 : Int) (12 : Int)))).all fl.modc.sp && (true && true || true && true && true) then bif (↑(ar.o.sv (r8.bel.sv zs (IntKind.i64.wrap ((1 : Int) + r8.at.sv us (41 : Int) (10 : Int))).toNat (IntKind.i64.wrap ((1 : Int) + r8.at.sv us (40 : Int) (12 : Int)))) (IntKind.i64.wrap ((1 : Int) + r8.at.sv us (40 : Int) (12 : Int)))).length : Int) != IntKind.i64.wrap ((1 : Int) + r8.at.sv us (41 : Int) (10 : Int)) then some (AVal.bool false, []) else bif an.long.ok.sp (fl.mean.sv (ar.o.sv (r8.bel.sv zs (IntKind.i64.wrap ((1 : Int) + r8.at.sv us (41 : Int) (10 : Int))).toNat (IntKind.i64.wrap ((1 : Int) + r8.at.sv us (40 : Int) (12 : Int)))) (IntKind.i64.wrap ((1 : Int) + r8.at.sv us (40 : Int) (12 : Int))))).1 (fl.mean.sv (ar.o.sv (r8.bel.sv zs (IntKind.i64.wrap ((1 : Int) + r8.at.sv us (41 : Int) (10 : Int))).toNat (IntKind.i64.wrap ((1 : Int) + r8.at.sv us (40 : Int) (12 : Int)))) (IntKind.i64.wrap ((1 : Int) + r8.at.sv us (40 : Int) (12 : Int))))).2 && (true && true || true && true) then bif FloatKind.f64.format.order (fwid.sv (an.long.sv (fl.mean.sv (ar.o.sv (r8.bel.sv zs (IntKind.i64.wrap ((1 : Int) + r8.at.sv us (41 : Int) (10 : Int))).toNat (IntKind.i64.wrap ((1 : Int) + r8.at.sv us (40 : Int) (12 : Int)))) (IntKind.i64.wrap ((1 : Int) + r8.at.sv us (40 : Int) (12 : Int))))).1 (fl.mean.sv (ar.o.sv (r8.bel.sv zs (IntKind.i64.wrap ((1 : Int) + r8.at.sv us (41 : Int) (10 : Int))).toNat (IntKind.i64.wrap ((1 : Int) + r8.at.sv us (40 : Int) (12 : Int)))) (IntKind.i64.wrap ((1 : Int) + r8.at.sv us (40 : Int) (12 : Int))))).2)) (4607186922399644778 : Nat) == some Ordering.gt then some (AVal.bool false, []) else L0 f f (mkS (225 : Nat) [((0 : Nat), AVal.ro (Cont.ints IntKind.u8 zs) zs.length (1 : Nat)), ((1 : Nat), AVal.ro (Cont.ints IntKind.u8 us) us.length (1 : Nat)), ((5 : Nat), AVal.int IntKind.i64 (IntKind.i64.wrap ((1 : Int) + r8.at.sv us (40 : Int) (12 : Int)))), ((6 : Nat), AVal.int IntKind.i64 (IntKind.i64.wrap ((1 : Int) + r8.at.sv us (41 : Int) (10 : Int)))), ((8 : Nat), AVal.ro (Cont.cpxs FloatKind.f32 (ar.o.sv (r8.bel.sv zs (IntKind.i64.wrap ((1 : Int) + r8.at.sv us (41 : Int) (10 : Int))).toNat (IntKind.i64.wrap ((1 : Int) + r8.at.sv us (40 : Int) (12 : Int)))) (IntKind.i64.wrap ((1 : Int) + r8.at.sv us (40 : Int) (12 : Int))))) (ar.o.sv (r8.bel.sv zs (IntKind.i64.wrap ((1 : Int) + r8.at.sv us (41 : Int) (10 : Int))).toNat (IntKind.i64.wrap ((1 : Int) + r8.at.sv us (40 : Int) (12 : Int)))) (IntKind.i64.wrap ((1 : Int) + r8.at.sv us (40 : Int) (12 : Int)))).length (1 : Nat)), ((12 : Nat), AVal.int IntKind.i64 (0 : Int))] []) else none else none else none else none else none else none else none) := by kernel_rfl
theorem round0 (zs us : List Int) (n c i : Int) (A : List (Nat × Nat)) (f k : Nat) :
  L0 f (k + 1) (mkS 225 [(0, .ro (.ints .u8 zs) zs.length 1), (1, .ro (.ints .u8 us) us.length 1), (5, .int .i64 n), (6, .int .i64 c), (8, .ro (.cpxs .f32 A) A.length 1), (12, .int .i64 i)] [])
  = (bif decide (i < c) then bif true && (decide ((0 : Int) ≤ i) && decide (i < (↑A.length : Int))) then bif decide (i.toNat < A.length) then bif an.long.ok.sp (gc A i.toNat).1 (gc A i.toNat).2 && (true && true || true && true) then bif ord.sp FloatKind.f64 (fsub FloatKind.f64 (fwid.sv (an.long.sv (gc A i.toNat).1 (gc A i.toNat).2)) (4607182418800017408 : Nat)) (fsub FloatKind.f64 (4607182418800017408 : Nat) (fwid.sv (an.long.sv (gc A i.toNat).1 (gc A i.toNat).2))) && (true && true || true && true) then bif FloatKind.f64.format.order (fmax.sv FloatKind.f64 (fsub FloatKind.f64 (fwid.sv (an.long.sv (gc A i.toNat).1 (gc A i.toNat).2)) (4607182418800017408 : Nat)) (fsub FloatKind.f64 (4607182418800017408 : Nat) (fwid.sv (an.long.sv (gc A i.toNat).1 (gc A i.toNat).2)))) (4562254508917369340 : Nat) == some Ordering.gt then some (AVal.top, []) else L0 f k (mkS (225 : Nat) [((0 : Nat), AVal.ro (Cont.ints IntKind.u8 zs) zs.length (1 : Nat)), ((1 : Nat), AVal.ro (Cont.ints IntKind.u8 us) us.length (1 : Nat)), ((5 : Nat), AVal.int IntKind.i64 n), ((6 : Nat), AVal.int IntKind.i64 c), ((8 : Nat), AVal.ro (Cont.cpxs FloatKind.f32 A) A.length (1 : Nat)), ((12 : Nat), AVal.int IntKind.i64 (IntKind.i64.wrap (i + (1 : Int))))] []) else none else none else none else none else bif decide (us.length = us.length ∧ (0 : Int) ≤ (42 : Int)) && (true && (true && (true && true)) || true && true) then bif decide ((3 : Nat) = ((((List.replicate (3 : Nat) (0 : Int)).set (0 : Nat) (r8.at.sv us (42 : Int) n)).set (1 : Nat) (r8.at.sv us (42 : Int) n)).set (2 : Nat) (r8.at.sv us (42 : Int) n)).length ∧ (3 : Nat) ≤ (4611686018427387904 : Nat)) && ar.sp ((((List.replicate (3 : Nat) (0 : Int)).set (0 : Nat) (r8.at.sv us (42 : Int) n)).set (1 : Nat) (r8.at.sv us (42 : Int) n)).set (2 : Nat) (r8.at.sv us (42 : Int) n)) n && (true && true && (true && true)) then bif decide ((ar.o.sv ((((List.replicate (3 : Nat) (0 : Int)).set (0 : Nat) (r8.at.sv us (42 : Int) n)).set (1 : Nat) (r8.at.sv us (42 : Int) n)).set (2 : Nat) (r8.at.sv us (42 : Int) n)) n).length = (ar.o.sv ((((List.replicate (3 : Nat) (0 : Int)).set (0 : Nat) (r8.at.sv us (42 : Int) n)).set (1 : Nat) (r8.at.sv us (42 : Int) n)).set (2 : Nat) (r8.at.sv us (42 : Int) n)) n).length ∧ (1 : Nat) ≤ (ar.o.sv ((((List.replicate (3 : Nat) (0 : Int)).set (0 : Nat) (r8.at.sv us (42 : Int) n)).set (1 : Nat) (r8.at.sv us (42 : Int) n)).set (2 : Nat) (r8.at.sv us (42 : Int) n)) n).length ∧ (ar.o.sv ((((List.replicate (3 : Nat) (0 : Int)).set (0 : Nat) (r8.at.sv us (42 : Int) n)).set (1 : Nat) (r8.at.sv us (42 : Int) n)).set (2 : Nat) (r8.at.sv us (42 : Int) n)) n).length ≤ (64 : Nat)) && (ar.o.sv ((((List.replicate (3 : Nat) (0 : Int)).set (0 : Nat) (r8.at.sv us (42 : Int) n)).set (1 : Nat) (r8.at.sv us (42 : Int) n)).set (2 : Nat) (r8.at.sv us (42 : Int) n)) n).all fl.modc.sp && (an.ang.ok.sp (fl.mean.sv (ar.o.sv ((((List.replicate (3 : Nat) (0 : Int)).set (0 : Nat) (r8.at.sv us (42 : Int) n)).set (1 : Nat) (r8.at.sv us (42 : Int) n)).set (2 : Nat) (r8.at.sv us (42 : Int) n)) n)).2 (fl.mean.sv (ar.o.sv ((((List.replicate (3 : Nat) (0 : Int)).set (0 : Nat) (r8.at.sv us (42 : Int) n)).set (1 : Nat) (r8.at.sv us (42 : Int) n)).set (2 : Nat) (r8.at.sv us (42 : Int) n)) n)).1 && flo.fin.sp (an.ang.sv (fl.mean.sv (ar.o.sv ((((List.replicate (3 : Nat) (0 : Int)).set (0 : Nat) (r8.at.sv us (42 : Int) n)).set (1 : Nat) (r8.at.sv us (42 : Int) n)).set (2 : Nat) (r8.at.sv us (42 : Int) n)) n)).2 (fl.mean.sv (ar.o.sv ((((List.replicate (3 : Nat) (0 : Int)).set (0 : Nat) (r8.at.sv us (42 : Int) n)).set (1 : Nat) (r8.at.sv us (42 : Int) n)).set (2 : Nat) (r8.at.sv us (42 : Int) n)) n)).1)) && (true && true || true && true && true) then bif ord.sp FloatKind.f64 (fsub FloatKind.f64 (fwid.sv (an.ang.sv (fl.mean.sv (ar.o.sv ((((List.replicate (3 : Nat) (0 : Int)).set (0 : Nat) (r8.at.sv us (42 : Int) n)).set (1 : Nat) (r8.at.sv us (42 : Int) n)).set (2 : Nat) (r8.at.sv us (42 : Int) n)) n)).2 (fl.mean.sv (ar.o.sv ((((List.replicate (3 : Nat) (0 : Int)).set (0 : Nat) (r8.at.sv us (42 : Int) n)).set (1 : Nat) (r8.at.sv us (42 : Int) n)).set (2 : Nat) (r8.at.sv us (42 : Int) n)) n)).1)) (fdiv FloatKind.f64 (FloatKind.f64.nearest (r8.at.sv us (42 : Int) n)) (FloatKind.f64.nearest n))) (fsub FloatKind.f64 (fdiv FloatKind.f64 (FloatKind.f64.nearest (r8.at.sv us (42 : Int) n)) (FloatKind.f64.nearest n)) (fwid.sv (an.ang.sv (fl.mean.sv (ar.o.sv ((((List.replicate (3 : Nat) (0 : Int)).set (0 : Nat) (r8.at.sv us (42 : Int) n)).set (1 : Nat) (r8.at.sv us (42 : Int) n)).set (2 : Nat) (r8.at.sv us (42 : Int) n)) n)).2 (fl.mean.sv (ar.o.sv ((((List.replicate (3 : Nat) (0 : Int)).set (0 : Nat) (r8.at.sv us (42 : Int) n)).set (1 : Nat) (r8.at.sv us (42 : Int) n)).set (2 : Nat) (r8.at.sv us (42 : Int) n)) n)).1))) && (true && (true && true) || true && true) then bif ord.sp FloatKind.f64 (fsub FloatKind.f64 (fmax.sv FloatKind.f64 (fsub FloatKind.f64 (fwid.sv (an.ang.sv (fl.mean.sv (ar.o.sv ((((List.replicate (3 : Nat) (0 : Int)).set (0 : Nat) (r8.at.sv us (42 : Int) n)).set (1 : Nat) (r8.at.sv us (42 : Int) n)).set (2 : Nat) (r8.at.sv us (42 : Int) n)) n)).2 (fl.mean.sv (ar.o.sv ((((List.replicate (3 : Nat) (0 : Int)).set (0 : Nat) (r8.at.sv us (42 : Int) n)).set (1 : Nat) (r8.at.sv us (42 : Int) n)).set (2 : Nat) (r8.at.sv us (42 : Int) n)) n)).1)) (fdiv FloatKind.f64 (FloatKind.f64.nearest (r8.at.sv us (42 : Int) n)) (FloatKind.f64.nearest n))) (fsub FloatKind.f64 (fdiv FloatKind.f64 (FloatKind.f64.nearest (r8.at.sv us (42 : Int) n)) (FloatKind.f64.nearest n)) (fwid.sv (an.ang.sv (fl.mean.sv (ar.o.sv ((((List.replicate (3 : Nat) (0 : Int)).set (0 : Nat) (r8.at.sv us (42 : Int) n)).set (1 : Nat) (r8.at.sv us (42 : Int) n)).set (2 : Nat) (r8.at.sv us (42 : Int) n)) n)).2 (fl.mean.sv (ar.o.sv ((((List.replicate (3 : Nat) (0 : Int)).set (0 : Nat) (r8.at.sv us (42 : Int) n)).set (1 : Nat) (r8.at.sv us (42 : Int) n)).set (2 : Nat) (r8.at.sv us (42 : Int) n)) n)).1)))) (0 : Nat)) (fsub FloatKind.f64 (0 : Nat) (fmax.sv FloatKind.f64 (fsub FloatKind.f64 (fwid.sv (an.ang.sv (fl.mean.sv (ar.o.sv ((((List.replicate (3 : Nat) (0 : Int)).set (0 : Nat) (r8.at.sv us (42 : Int) n)).set (1 : Nat) (r8.at.sv us (42 : Int) n)).set (2 : Nat) (r8.at.sv us (42 : Int) n)) n)).2 (fl.mean.sv (ar.o.sv ((((List.replicate (3 : Nat) (0 : Int)).set (0 : Nat) (r8.at.sv us (42 : Int) n)).set (1 : Nat) (r8.at.sv us (42 : Int) n)).set (2 : Nat) (r8.at.sv us (42 : Int) n)) n)).1)) (fdiv FloatKind.f64 (FloatKind.f64.nearest (r8.at.sv us (42 : Int) n)) (FloatKind.f64.nearest n))) (fsub FloatKind.f64 (fdiv FloatKind.f64 (FloatKind.f64.nearest (r8.at.sv us (42 : Int) n)) (FloatKind.f64.nearest n)) (fwid.sv (an.ang.sv (fl.mean.sv (ar.o.sv ((((List.replicate (3 : Nat) (0 : Int)).set (0 : Nat) (r8.at.sv us (42 : Int) n)).set (1 : Nat) (r8.at.sv us (42 : Int) n)).set (2 : Nat) (r8.at.sv us (42 : Int) n)) n)).2 (fl.mean.sv (ar.o.sv ((((List.replicate (3 : Nat) (0 : Int)).set (0 : Nat) (r8.at.sv us (42 : Int) n)).set (1 : Nat) (r8.at.sv us (42 : Int) n)).set (2 : Nat) (r8.at.sv us (42 : Int) n)) n)).1))))) && (true && true || true && true) then bif FloatKind.f64.format.order (fmax.sv FloatKind.f64 (fsub FloatKind.f64 (fmax.sv FloatKind.f64 (fsub FloatKind.f64 (fwid.sv (an.ang.sv (fl.mean.sv (ar.o.sv ((((List.replicate (3 : Nat) (0 : Int)).set (0 : Nat) (r8.at.sv us (42 : Int) n)).set (1 : Nat) (r8.at.sv us (42 : Int) n)).set (2 : Nat) (r8.at.sv us (42 : Int) n)) n)).2 (fl.mean.sv (ar.o.sv ((((List.replicate (3 : Nat) (0 : Int)).set (0 : Nat) (r8.at.sv us (42 : Int) n)).set (1 : Nat) (r8.at.sv us (42 : Int) n)).set (2 : Nat) (r8.at.sv us (42 : Int) n)) n)).1)) (fdiv FloatKind.f64 (FloatKind.f64.nearest (r8.at.sv us (42 : Int) n)) (FloatKind.f64.nearest n))) (fsub FloatKind.f64 (fdiv FloatKind.f64 (FloatKind.f64.nearest (r8.at.sv us (42 : Int) n)) (FloatKind.f64.nearest n)) (fwid.sv (an.ang.sv (fl.mean.sv (ar.o.sv ((((List.replicate (3 : Nat) (0 : Int)).set (0 : Nat) (r8.at.sv us (42 : Int) n)).set (1 : Nat) (r8.at.sv us (42 : Int) n)).set (2 : Nat) (r8.at.sv us (42 : Int) n)) n)).2 (fl.mean.sv (ar.o.sv ((((List.replicate (3 : Nat) (0 : Int)).set (0 : Nat) (r8.at.sv us (42 : Int) n)).set (1 : Nat) (r8.at.sv us (42 : Int) n)).set (2 : Nat) (r8.at.sv us (42 : Int) n)) n)).1)))) (0 : Nat)) (fsub FloatKind.f64 (0 : Nat) (fmax.sv FloatKind.f64 (fsub FloatKind.f64 (fwid.sv (an.ang.sv (fl.mean.sv (ar.o.sv ((((List.replicate (3 : Nat) (0 : Int)).set (0 : Nat) (r8.at.sv us (42 : Int) n)).set (1 : Nat) (r8.at.sv us (42 : Int) n)).set (2 : Nat) (r8.at.sv us (42 : Int) n)) n)).2 (fl.mean.sv (ar.o.sv ((((List.replicate (3 : Nat) (0 : Int)).set (0 : Nat) (r8.at.sv us (42 : Int) n)).set (1 : Nat) (r8.at.sv us (42 : Int) n)).set (2 : Nat) (r8.at.sv us (42 : Int) n)) n)).1)) (fdiv FloatKind.f64 (FloatKind.f64.nearest (r8.at.sv us (42 : Int) n)) (FloatKind.f64.nearest n))) (fsub FloatKind.f64 (fdiv FloatKind.f64 (FloatKind.f64.nearest (r8.at.sv us (42 : Int) n)) (FloatKind.f64.nearest n)) (fwid.sv (an.ang.sv (fl.mean.sv (ar.o.sv ((((List.replicate (3 : Nat) (0 : Int)).set (0 : Nat) (r8.at.sv us (42 : Int) n)).set (1 : Nat) (r8.at.sv us (42 : Int) n)).set (2 : Nat) (r8.at.sv us (42 : Int) n)) n)).2 (fl.mean.sv (ar.o.sv ((((List.replicate (3 : Nat) (0 : Int)).set (0 : Nat) (r8.at.sv us (42 : Int) n)).set (1 : Nat) (r8.at.sv us (42 : Int) n)).set (2 : Nat) (r8.at.sv us (42 : Int) n)) n)).1)))))) (4562254508917369340 : Nat) == some Ordering.gt then bif ord.sp FloatKind.f64 (fsub FloatKind.f64 (fmax.sv FloatKind.f64 (fsub FloatKind.f64 (fwid.sv (an.ang.sv (fl.mean.sv (ar.o.sv ((((List.replicate (3 : Nat) (0 : Int)).set (0 : Nat) (r8.at.sv us (42 : Int) n)).set (1 : Nat) (r8.at.sv us (42 : Int) n)).set (2 : Nat) (r8.at.sv us (42 : Int) n)) n)).2 (fl.mean.sv (ar.o.sv ((((List.replicate (3 : Nat) (0 : Int)).set (0 : Nat) (r8.at.sv us (42 : Int) n)).set (1 : Nat) (r8.at.sv us (42 : Int) n)).set (2 : Nat) (r8.at.sv us (42 : Int) n)) n)).1)) (fdiv FloatKind.f64 (FloatKind.f64.nearest (r8.at.sv us (42 : Int) n)) (FloatKind.f64.nearest n))) (fsub FloatKind.f64 (fdiv FloatKind.f64 (FloatKind.f64.nearest (r8.at.sv us (42 : Int) n)) (FloatKind.f64.nearest n)) (fwid.sv (an.ang.sv (fl.mean.sv (ar.o.sv ((((List.replicate (3 : Nat) (0 : Int)).set (0 : Nat) (r8.at.sv us (42 : Int) n)).set (1 : Nat) (r8.at.sv us (42 : Int) n)).set (2 : Nat) (r8.at.sv us (42 : Int) n)) n)).2 (fl.mean.sv (ar.o.sv ((((List.replicate (3 : Nat) (0 : Int)).set (0 : Nat) (r8.at.sv us (42 : Int) n)).set (1 : Nat) (r8.at.sv us (42 : Int) n)).set (2 : Nat) (r8.at.sv us (42 : Int) n)) n)).1)))) (4607182418800017408 : Nat)) (fsub FloatKind.f64 (4607182418800017408 : Nat) (fmax.sv FloatKind.f64 (fsub FloatKind.f64 (fwid.sv (an.ang.sv (fl.mean.sv (ar.o.sv ((((List.replicate (3 : Nat) (0 : Int)).set (0 : Nat) (r8.at.sv us (42 : Int) n)).set (1 : Nat) (r8.at.sv us (42 : Int) n)).set (2 : Nat) (r8.at.sv us (42 : Int) n)) n)).2 (fl.mean.sv (ar.o.sv ((((List.replicate (3 : Nat) (0 : Int)).set (0 : Nat) (r8.at.sv us (42 : Int) n)).set (1 : Nat) (r8.at.sv us (42 : Int) n)).set (2 : Nat) (r8.at.sv us (42 : Int) n)) n)).1)) (fdiv FloatKind.f64 (FloatKind.f64.nearest (r8.at.sv us (42 : Int) n)) (FloatKind.f64.nearest n))) (fsub FloatKind.f64 (fdiv FloatKind.f64 (FloatKind.f64.nearest (r8.at.sv us (42 : Int) n)) (FloatKind.f64.nearest n)) (fwid.sv (an.ang.sv (fl.mean.sv (ar.o.sv ((((List.replicate (3 : Nat) (0 : Int)).set (0 : Nat) (r8.at.sv us (42 : Int) n)).set (1 : Nat) (r8.at.sv us (42 : Int) n)).set (2 : Nat) (r8.at.sv us (42 : Int) n)) n)).2 (fl.mean.sv (ar.o.sv ((((List.replicate (3 : Nat) (0 : Int)).set (0 : Nat) (r8.at.sv us (42 : Int) n)).set (1 : Nat) (r8.at.sv us (42 : Int) n)).set (2 : Nat) (r8.at.sv us (42 : Int) n)) n)).1))))) && (true && true || true && true) then bif FloatKind.f64.format.order (fmax.sv FloatKind.f64 (fsub FloatKind.f64 (fmax.sv FloatKind.f64 (fsub FloatKind.f64 (fwid.sv (an.ang.sv (fl.mean.sv (ar.o.sv ((((List.replicate (3 : Nat) (0 : Int)).set (0 : Nat) (r8.at.sv us (42 : Int) n)).set (1 : Nat) (r8.at.sv us (42 : Int) n)).set (2 : Nat) (r8.at.sv us (42 : Int) n)) n)).2 (fl.mean.sv (ar.o.sv ((((List.replicate (3 : Nat) (0 : Int)).set (0 : Nat) (r8.at.sv us (42 : Int) n)).set (1 : Nat) (r8.at.sv us (42 : Int) n)).set (2 : Nat) (r8.at.sv us (42 : Int) n)) n)).1)) (fdiv FloatKind.f64 (FloatKind.f64.nearest (r8.at.sv us (42 : Int) n)) (FloatKind.f64.nearest n))) (fsub FloatKind.f64 (fdiv FloatKind.f64 (FloatKind.f64.nearest (r8.at.sv us (42 : Int) n)) (FloatKind.f64.nearest n)) (fwid.sv (an.ang.sv (fl.mean.sv (ar.o.sv ((((List.replicate (3 : Nat) (0 : Int)).set (0 : Nat) (r8.at.sv us (42 : Int) n)).set (1 : Nat) (r8.at.sv us (42 : Int) n)).set (2 : Nat) (r8.at.sv us (42 : Int) n)) n)).2 (fl.mean.sv (ar.o.sv ((((List.replicate (3 : Nat) (0 : Int)).set (0 : Nat) (r8.at.sv us (42 : Int) n)).set (1 : Nat) (r8.at.sv us (42 : Int) n)).set (2 : Nat) (r8.at.sv us (42 : Int) n)) n)).1)))) (4607182418800017408 : Nat)) (fsub FloatKind.f64 (4607182418800017408 : Nat) (fmax.sv FloatKind.f64 (fsub FloatKind.f64 (fwid.sv (an.ang.sv (fl.mean.sv (ar.o.sv ((((List.replicate (3 : Nat) (0 : Int)).set (0 : Nat) (r8.at.sv us (42 : Int) n)).set (1 : Nat) (r8.at.sv us (42 : Int) n)).set (2 : Nat) (r8.at.sv us (42 : Int) n)) n)).2 (fl.mean.sv (ar.o.sv ((((List.replicate (3 : Nat) (0 : Int)).set (0 : Nat) (r8.at.sv us (42 : Int) n)).set (1 : Nat) (r8.at.sv us (42 : Int) n)).set (2 : Nat) (r8.at.sv us (42 : Int) n)) n)).1)) (fdiv FloatKind.f64 (FloatKind.f64.nearest (r8.at.sv us (42 : Int) n)) (FloatKind.f64.nearest n))) (fsub FloatKind.f64 (fdiv FloatKind.f64 (FloatKind.f64.nearest (r8.at.sv us (42 : Int) n)) (FloatKind.f64.nearest n)) (fwid.sv (an.ang.sv (fl.mean.sv (ar.o.sv ((((List.replicate (3 : Nat) (0 : Int)).set (0 : Nat) (r8.at.sv us (42 : Int) n)).set (1 : Nat) (r8.at.sv us (42 : Int) n)).set (2 : Nat) (r8.at.sv us (42 : Int) n)) n)).2 (fl.mean.sv (ar.o.sv ((((List.replicate (3 : Nat) (0 : Int)).set (0 : Nat) (r8.at.sv us (42 : Int) n)).set (1 : Nat) (r8.at.sv us (42 : Int) n)).set (2 : Nat) (r8.at.sv us (42 : Int) n)) n)).1)))))) (4562254508917369340 : Nat) == some Ordering.gt then some (AVal.bool false, [{ c := BC.typ (Cont.ints IntKind.i64 ((((List.replicate (3 : Nat) (0 : Int)).set (0 : Nat) (r8.at.sv us (42 : Int) n)).set (1 : Nat) (r8.at.sv us (42 : Int) n)).set (2 : Nat) (r8.at.sv us (42 : Int) n))), ver := (0 : Nat) }]) else L2 f f (mkS (225 : Nat) [((0 : Nat), AVal.ro (Cont.ints IntKind.u8 zs) zs.length (1 : Nat)), ((6 : Nat), AVal.int IntKind.i64 c), ((20 : Nat), AVal.own (0 : Nat) (0 : Nat) (0 : Nat) (0 : Nat) (1 : Nat)), ((21 : Nat), AVal.int IntKind.i64 (0 : Int))] [{ c := BC.typ (Cont.flts FloatKind.f32 (List.replicate (0 : Nat) (0 : Nat))), ver := (0 : Nat) }]) else none else L2 f f (mkS (225 : Nat) [((0 : Nat), AVal.ro (Cont.ints IntKind.u8 zs) zs.length (1 : Nat)), ((6 : Nat), AVal.int IntKind.i64 c), ((20 : Nat), AVal.own (0 : Nat) (0 : Nat) (0 : Nat) (0 : Nat) (1 : Nat)), ((21 : Nat), AVal.int IntKind.i64 (0 : Int))] [{ c := BC.typ (Cont.flts FloatKind.f32 (List.replicate (0 : Nat) (0 : Nat))), ver := (0 : Nat) }]) else none else none else none else none else none) := by kernel_rfl
theorem round2 (zs : List Int) (c i : Int) (q : Nat) (T : List Nat) (f k : Nat) :
  L2 f (k + 1) (mkS 225 [(0, .ro (.ints .u8 zs) zs.length 1), (6, .int .i64 c), (20, .own 0 0 q 0 1), (21, .int .i64 i)] [⟨.typ (.flts .f32 T), 0⟩])
  = (bif decide (i < c) then bif decide (zs.length = zs.length ∧ (0 : Int) ≤ i) && (true && (true && true) || true && true) then bif (1 : Nat) == (1 : Nat) && (1 : Nat) == (1 : Nat) && (true && (true && true) && (true && true && (decide (q + (List.take (1 : Nat) (List.drop (0 : Nat) ((List.replicate (1 : Nat) (0 : Nat)).set (0 : Nat) (fdiv FloatKind.f32 (FloatKind.f32.nearest (r8.at.sv zs i (17 : Int))) (1120403456 : Nat))))).length ≤ (4611686018427387904 : Nat)) && decide ((q + (List.take (1 : Nat) (List.drop (0 : Nat) ((List.replicate (1 : Nat) (0 : Nat)).set (0 : Nat) (fdiv FloatKind.f32 (FloatKind.f32.nearest (r8.at.sv zs i (17 : Int))) (1120403456 : Nat))))).length) * (4 : Nat) ≤ (140737488355328 : Nat))))) then L2 f k (mkS (225 : Nat) [((0 : Nat), AVal.ro (Cont.ints IntKind.u8 zs) zs.length (1 : Nat)), ((6 : Nat), AVal.int IntKind.i64 c), ((20 : Nat), AVal.own (0 : Nat) (0 : Nat) (q + (List.take (1 : Nat) (List.drop (0 : Nat) ((List.replicate (1 : Nat) (0 : Nat)).set (0 : Nat) (fdiv FloatKind.f32 (FloatKind.f32.nearest (r8.at.sv zs i (17 : Int))) (1120403456 : Nat))))).length) (0 : Nat) (1 : Nat)), ((21 : Nat), AVal.int IntKind.i64 (IntKind.i64.wrap (i + (1 : Int))))] [{ c := BC.typ (Cont.flts FloatKind.f32 (List.take q T ++ List.take (1 : Nat) (List.drop (0 : Nat) ((List.replicate (1 : Nat) (0 : Nat)).set (0 : Nat) (fdiv FloatKind.f32 (FloatKind.f32.nearest (r8.at.sv zs i (17 : Int))) (1120403456 : Nat)))))), ver := (0 : Nat) }]) else none else none else bif decide (q = T.length ∧ q ≤ (4611686018427387904 : Nat)) && ag.sp T (1040187392 : Nat) && (true && true && (true && true)) then bif decide (q = T.length ∧ q ≤ (4611686018427387904 : Nat)) && ag.sp T (0 : Nat) && (true && true && (true && true)) then bif decide (q = T.length ∧ q ≤ (4611686018427387904 : Nat)) && ag.rsp.sp T (1040187392 : Nat) (981668463 : Nat) (256 : Int) && (true && (true && true) && (true && true)) then bif (↑(ag.o.sv T (1040187392 : Nat)).length : Int) != c then some (AVal.bool false, [{ c := BC.typ (Cont.flts FloatKind.f32 T), ver := (0 : Nat) }]) else bif (↑(ag.o.sv T (0 : Nat)).length : Int) != c then some (AVal.bool false, [{ c := BC.typ (Cont.flts FloatKind.f32 T), ver := (0 : Nat) }]) else bif (↑(ag.ro.sv T (1040187392 : Nat) (981668463 : Nat) (256 : Int)).length : Int) != c then some (AVal.bool false, [{ c := BC.typ (Cont.flts FloatKind.f32 T), ver := (0 : Nat) }]) else bif decide (ag.rn.sv T (1040187392 : Nat) (981668463 : Nat) (256 : Int) < (1 : Int)) then some (AVal.bool false, [{ c := BC.typ (Cont.flts FloatKind.f32 T), ver := (0 : Nat) }]) else bif decide ((256 : Int) < ag.rn.sv T (1040187392 : Nat) (981668463 : Nat) (256 : Int)) then some (AVal.bool false, [{ c := BC.typ (Cont.flts FloatKind.f32 T), ver := (0 : Nat) }]) else bif decide (q = T.length ∧ (1 : Nat) ≤ q ∧ q ≤ (64 : Nat)) && wd.w.ok.sp T && (false && true || true && true) then L4 f f (mkS (225 : Nat) [((6 : Nat), AVal.int IntKind.i64 c), ((20 : Nat), AVal.own (0 : Nat) (0 : Nat) q (0 : Nat) (1 : Nat)), ((22 : Nat), AVal.ro (Cont.flts FloatKind.f32 (ag.o.sv T (1040187392 : Nat))) (ag.o.sv T (1040187392 : Nat)).length (1 : Nat)), ((24 : Nat), AVal.ro (Cont.flts FloatKind.f32 (ag.o.sv T (0 : Nat))) (ag.o.sv T (0 : Nat)).length (1 : Nat)), ((26 : Nat), AVal.ro (Cont.flts FloatKind.f32 (ag.ro.sv T (1040187392 : Nat) (981668463 : Nat) (256 : Int))) (ag.ro.sv T (1040187392 : Nat) (981668463 : Nat) (256 : Int)).length (1 : Nat)), ((29 : Nat), AVal.flt FloatKind.f64 (wd.w.sv T)), ((30 : Nat), AVal.int IntKind.i64 (0 : Int))] [{ c := BC.typ (Cont.flts FloatKind.f32 T), ver := (0 : Nat) }]) else none else none else none else none) := by kernel_rfl
theorem round4 (c i : Int) (q w : Nat) (T X Y Z : List Nat) (f k : Nat) :
  L4 f (k + 1) (mkS 225 [(6, .int .i64 c), (20, .own 0 0 q 0 1), (22, .ro (.flts .f32 X) X.length 1), (24, .ro (.flts .f32 Y) Y.length 1), (26, .ro (.flts .f32 Z) Z.length 1), (29, .flt .f64 w), (30, .int .i64 i)] [⟨.typ (.flts .f32 T), 0⟩])
  = (bif decide (i < c) then bif true && (decide ((0 : Int) ≤ i) && decide (i < (↑Y.length : Int))) then bif decide (i.toNat < Y.length) then bif true && (decide ((0 : Int) ≤ i) && decide (i < (↑q : Int))) then bif true && decide (i.toNat < T.length) then bif FloatKind.f32.format.order (gn Y i.toNat) (gn T i.toNat) != some Ordering.eq then some (AVal.top, [{ c := BC.typ (Cont.flts FloatKind.f32 T), ver := (0 : Nat) }]) else L4 f k (mkS (225 : Nat) [((6 : Nat), AVal.int IntKind.i64 c), ((20 : Nat), AVal.own (0 : Nat) (0 : Nat) q (0 : Nat) (1 : Nat)), ((22 : Nat), AVal.ro (Cont.flts FloatKind.f32 X) X.length (1 : Nat)), ((24 : Nat), AVal.ro (Cont.flts FloatKind.f32 Y) Y.length (1 : Nat)), ((26 : Nat), AVal.ro (Cont.flts FloatKind.f32 Z) Z.length (1 : Nat)), ((29 : Nat), AVal.flt FloatKind.f64 w), ((30 : Nat), AVal.int IntKind.i64 (IntKind.i64.wrap (i + (1 : Int))))] [{ c := BC.typ (Cont.flts FloatKind.f32 T), ver := (0 : Nat) }]) else none else none else none else none else bif decide (X.length = X.length ∧ (1 : Nat) ≤ X.length ∧ X.length ≤ (64 : Nat)) && wd.w.ok.sp X && (true && true || true && true) then bif FloatKind.f64.format.order (wd.w.sv X) (fadd FloatKind.f64 w (4562254508917369340 : Nat)) == some Ordering.lt || FloatKind.f64.format.order (wd.w.sv X) (fadd FloatKind.f64 w (4562254508917369340 : Nat)) == some Ordering.eq then bif decide (Z.length = Z.length ∧ (1 : Nat) ≤ Z.length ∧ Z.length ≤ (64 : Nat)) && wd.w.ok.sp Z && (true && true || true && true) then bif FloatKind.f64.format.order (wd.w.sv Z) (fadd FloatKind.f64 w (4562254508917369340 : Nat)) == some Ordering.lt || FloatKind.f64.format.order (wd.w.sv Z) (fadd FloatKind.f64 w (4562254508917369340 : Nat)) == some Ordering.eq then bif decide (Z.length = Z.length ∧ (1 : Nat) ≤ Z.length ∧ Z.length ≤ (64 : Nat)) && wd.w.ok.sp Z && (true && true || true && true) then some (AVal.bool (FloatKind.f64.format.order (wd.w.sv Z) (4587366580439587226 : Nat) == some Ordering.lt), [{ c := BC.typ (Cont.flts FloatKind.f32 T), ver := (0 : Nat) }]) else none else some (AVal.bool false, [{ c := BC.typ (Cont.flts FloatKind.f32 T), ver := (0 : Nat) }]) else none else some (AVal.bool false, [{ c := BC.typ (Cont.flts FloatKind.f32 T), ver := (0 : Nat) }]) else none) := by kernel_rfl
theorem loop4 (T : List Nat) (c f : Nat) (h : agr.Law T) (hc : T.length = c) (c1 : 1 ≤ c) (c10 : c ≤ 10) : ∀ (d i k : Nat), i + d = c → d < k →
    L4 f k (mkS 225 [(6, .int .i64 (c : Int)), (20, .own 0 0 c 0 1), (22, .ro (.flts .f32 (ag.o.sv T 1040187392)) (ag.o.sv T 1040187392).length 1), (24, .ro (.flts .f32 (ag.o.sv T 0)) (ag.o.sv T 0).length 1), (26, .ro (.flts .f32 (ag.ro.sv T 1040187392 981668463 256)) (ag.ro.sv T 1040187392 981668463 256).length 1), (29, .flt .f64 (wd.w.sv T)), (30, .int .i64 (i : Int))] [⟨.typ (.flts .f32 T), 0⟩]) = some (.bool true, [⟨.typ (.flts .f32 T), 0⟩]) := by
  have lX := ag.o_length T 1040187392
  have lY := ag.o_length T 0
  have lZ := ag.ro_len h.rsp
  have st := h.stay
  have wk1 := h.wk1
  have wk2 := h.wk2
  have le1 := h.le1
  have le2 := h.le2
  have lt3 := h.lt3
  clear h
  rw [hc] at lX lY lZ st
  generalize ag.o.sv T 1040187392 = X at *
  generalize ag.o.sv T 0 = Y at *
  generalize ag.ro.sv T 1040187392 981668463 256 = Z at *
  generalize wd.w.sv T = w at *
  intro d
  induction d with
  | zero =>
    intro i k hi hk
    obtain ⟨k, rfl⟩ : ∃ q, k = q + 1 := ⟨k - 1, by omega⟩
    obtain rfl : i = c := by omega
    rw [round4]
    simp -implicitDefEqProofs (disch := omega) only [lX, lY, lZ, wk1, wk2, le1, le2, lt3, take_one, set_one, decide_eq_true, decide_eq_false, IntWalk.i64_in, beqT, beqF, bneT, bneF, nat_succ, ← Int.natCast_mul, ← Int.natCast_add, Int.toNat_natCast, Int.zero_mul, Int.zero_add, Int.add_zero, Nat.zero_add, Nat.add_zero, Nat.zero_mul, List.length_singleton, List.length_append, List.length_nil, List.length_cons, List.take_length, List.drop_zero, List.replicate_zero, List.take_nil, List.nil_append, Nat.reduceBEq, Nat.reduceMul, Nat.reduceLeDiff, eq_self, and_self, true_and, and_true, decide_true, decide_false, Bool.and_self, Bool.or_self, Bool.and_true, Bool.true_and, Bool.and_false, Bool.false_and, Bool.or_true, Bool.true_or, Bool.or_false, Bool.false_or, Bool.not_true, Bool.not_false, cond_true, cond_false]
  | succ d ih =>
    intro i k hi hk
    obtain ⟨k, rfl⟩ : ∃ q, k = q + 1 := ⟨k - 1, by omega⟩
    have g := ih (i + 1) k (by omega) (by omega)
    rw [lX, lY, lZ] at g
    have s := st i (by omega)
    have s' : (FloatKind.f32.format.order (gn Y i) (gn T i) != some Ordering.eq) = false := by rw [bne, s]; rfl
    rw [round4, Int.toNat_natCast]
    simp -implicitDefEqProofs (disch := omega) only [lX, lY, lZ, s', take_one, set_one, decide_eq_true, decide_eq_false, IntWalk.i64_in, beqT, beqF, bneT, bneF, nat_succ, ← Int.natCast_mul, ← Int.natCast_add, Int.toNat_natCast, Int.zero_mul, Int.zero_add, Int.add_zero, Nat.zero_add, Nat.add_zero, Nat.zero_mul, List.length_singleton, List.length_append, List.length_nil, List.length_cons, List.take_length, List.drop_zero, List.replicate_zero, List.take_nil, List.nil_append, Nat.reduceBEq, Nat.reduceMul, Nat.reduceLeDiff, eq_self, and_self, true_and, and_true, decide_true, decide_false, Bool.and_self, Bool.or_self, Bool.and_true, Bool.true_and, Bool.and_false, Bool.false_and, Bool.or_true, Bool.true_or, Bool.or_false, Bool.false_or, Bool.not_true, Bool.not_false, cond_true, cond_false]
    exact g
theorem loop2 (zs : List Int) (c f : Nat) (hx : r8.bytes.sp zs = true) (c1 : 1 ≤ c) (c10 : c ≤ 10) (hf : 100 < f) : ∀ (d i k : Nat), i + d = c → d < k →
    L2 f k (mkS 225 [(0, .ro (.ints .u8 zs) zs.length 1), (6, .int .i64 (c : Int)), (20, .own 0 0 i 0 1), (21, .int .i64 (i : Int))] [⟨.typ (.flts .f32 (arw.tn.sv zs i)), 0⟩]) = some (.bool true, [⟨.typ (.flts .f32 (arw.tn.sv zs c)), 0⟩]) := by
  intro d
  induction d with
  | zero =>
    intro i k hi hk
    obtain ⟨k, rfl⟩ : ∃ q, k = q + 1 := ⟨k - 1, by omega⟩
    obtain rfl : i = c := by omega
    have h := arw.law hx c1 c10
    have hl := arw.tn_len zs i
    rw [round2]
    generalize arw.tn.sv zs i = T at *
    have g := loop4 T i f h hl c1 c10 i 0 f (by omega) (by omega)
    have lX := ag.o_length T 1040187392
    have lY := ag.o_length T 0
    have lZ := ag.ro_len h.rsp
    have sp8 := h.sp8
    have sp0 := h.sp0
    have rsp := h.rsp
    have n1 := h.n1
    have n2 := h.n2
    have wk0 := h.wk0
    rw [hl] at lX lY lZ
    rw [lX, lY, lZ] at g
    have tT : T.take i = T := List.take_of_length_le (by omega)
    clear h
    simp -implicitDefEqProofs (disch := omega) only [tT, hl, lX, lY, lZ, sp8, sp0, rsp, wk0, take_one, set_one, decide_eq_true, decide_eq_false, IntWalk.i64_in, beqT, beqF, bneT, bneF, nat_succ, ← Int.natCast_mul, ← Int.natCast_add, Int.toNat_natCast, Int.zero_mul, Int.zero_add, Int.add_zero, Nat.zero_add, Nat.add_zero, Nat.zero_mul, List.length_singleton, List.length_append, List.length_nil, List.length_cons, List.take_length, List.drop_zero, List.replicate_zero, List.take_nil, List.nil_append, Nat.reduceBEq, Nat.reduceMul, Nat.reduceLeDiff, eq_self, and_self, true_and, and_true, decide_true, decide_false, Bool.and_self, Bool.or_self, Bool.and_true, Bool.true_and, Bool.and_false, Bool.false_and, Bool.or_true, Bool.true_or, Bool.or_false, Bool.false_or, Bool.not_true, Bool.not_false, cond_true, cond_false]
    exact g
  | succ d ih =>
    intro i k hi hk
    obtain ⟨k, rfl⟩ : ∃ q, k = q + 1 := ⟨k - 1, by omega⟩
    have g := ih (i + 1) k (by omega) (by omega)
    rw [arw.tn_succ] at g
    have hl := arw.tn_len zs i
    rw [round2]
    have tT : (arw.tn.sv zs i).take i = arw.tn.sv zs i := List.take_of_length_le (by omega)
    generalize arw.tn.sv zs i = T at *
    generalize fdiv .f32 (FloatKind.f32.nearest (r8.at.sv zs (i : Int) 17)) 1120403456 = w at *
    simp -implicitDefEqProofs (disch := omega) only [tT, hl, beq_self_eq_true, take_one, set_one, decide_eq_true, decide_eq_false, IntWalk.i64_in, beqT, beqF, bneT, bneF, nat_succ, ← Int.natCast_mul, ← Int.natCast_add, Int.toNat_natCast, Int.zero_mul, Int.zero_add, Int.add_zero, Nat.zero_add, Nat.add_zero, Nat.zero_mul, List.length_singleton, List.length_append, List.length_nil, List.length_cons, List.take_length, List.drop_zero, List.replicate_zero, List.take_nil, List.nil_append, Nat.reduceBEq, Nat.reduceMul, Nat.reduceLeDiff, eq_self, and_self, true_and, and_true, decide_true, decide_false, Bool.and_self, Bool.or_self, Bool.and_true, Bool.true_and, Bool.and_false, Bool.false_and, Bool.or_true, Bool.true_or, Bool.or_false, Bool.false_or, Bool.not_true, Bool.not_false, cond_true, cond_false]
    exact g
theorem loop0 (zs us : List Int) (A : List (Nat × Nat)) (n c f : Nat) (hx : r8.bytes.sp zs = true) (hy : r8.bytes.sp us = true) (n1 : 1 ≤ n) (n13 : n < 13) (c1 : 1 ≤ c) (c10 : c ≤ 10) (h : arw.Arr A c) (hf : 100 < f) : ∀ (d i k : Nat), i + d = c → d < k →
    L0 f k (mkS 225 [(0, .ro (.ints .u8 zs) zs.length 1), (1, .ro (.ints .u8 us) us.length 1), (5, .int .i64 (n : Int)), (6, .int .i64 (c : Int)), (8, .ro (.cpxs .f32 A) A.length 1), (12, .int .i64 (i : Int))] []) = some (.bool true, [⟨.typ (.flts .f32 (arw.tn.sv zs c)), 0⟩]) := by
  have hl := h.len
  have one := h.one
  clear h
  intro d
  induction d with
  | zero =>
    intro i k hi hk
    obtain ⟨k, rfl⟩ : ∃ q, k = q + 1 := ⟨k - 1, by omega⟩
    obtain rfl : i = c := by omega
    obtain ⟨v0, v1⟩ := r8.at_in hy 42 (n : Int) (by omega)
    obtain ⟨w1, w2, w3, ⟨w4, w5⟩, w6, w7⟩ := arw.vote n1 n13 v0 v1
    have w7 := w7 _ rfl
    have g := loop2 zs i f hx c1 c10 hf i 0 f (by omega) (by omega)
    have t0 : arw.tn.sv zs 0 = [] := rfl
    rw [t0] at g
    unfold agr.gap agr.gok.sp agr.gt64.sp at *
    rw [round0]
    generalize r8.at.sv us 42 (n : Int) = v at *
    have e3 : ((((List.replicate 3 (0 : Int)).set 0 v).set 1 v).set 2 v) = [v, v, v] := rfl
    rw [e3]
    generalize fl.mean.sv (ar.o.sv [v, v, v] (n : Int)) = M at *
    obtain ⟨⟨w7, w8⟩, w9⟩ := w7
    generalize an.ang.sv M.2 M.1 = W at *
    generalize fdiv .f64 (FloatKind.f64.nearest v) (FloatKind.f64.nearest (n : Int)) = Q at *
    generalize fmax.sv .f64 (fsub .f64 (fwid.sv W) Q) (fsub .f64 Q (fwid.sv W)) = G at *
    generalize fmax.sv .f64 (fsub .f64 G 0) (fsub .f64 0 G) = G0 at *
    generalize fmax.sv .f64 (fsub .f64 G 4607182418800017408) (fsub .f64 4607182418800017408 G) = G1 at *
    have l3 : ([v, v, v] : List Int).length = 3 := rfl
    simp -implicitDefEqProofs (disch := omega) only [w1, w2, w3, w4, w5, w6, w7, w8, l3, take_one, set_one, decide_eq_true, decide_eq_false, IntWalk.i64_in, beqT, beqF, bneT, bneF, nat_succ, ← Int.natCast_mul, ← Int.natCast_add, Int.toNat_natCast, Int.zero_mul, Int.zero_add, Int.add_zero, Nat.zero_add, Nat.add_zero, Nat.zero_mul, List.length_singleton, List.length_append, List.length_nil, List.length_cons, List.take_length, List.drop_zero, List.replicate_zero, List.take_nil, List.nil_append, Nat.reduceBEq, Nat.reduceMul, Nat.reduceLeDiff, eq_self, and_self, true_and, and_true, decide_true, decide_false, Bool.and_self, Bool.or_self, Bool.and_true, Bool.true_and, Bool.and_false, Bool.false_and, Bool.or_true, Bool.true_or, Bool.or_false, Bool.false_or, Bool.not_true, Bool.not_false, cond_true, cond_false]
    cases k0 : (FloatKind.f64.format.order G0 4562254508917369340 == some Ordering.gt)
    · simp -implicitDefEqProofs (disch := omega) only [k0, w7, w8, beq_self_eq_true, List.length_nil, take_one, set_one, decide_eq_true, decide_eq_false, IntWalk.i64_in, beqT, beqF, bneT, bneF, nat_succ, ← Int.natCast_mul, ← Int.natCast_add, Int.toNat_natCast, Int.zero_mul, Int.zero_add, Int.add_zero, Nat.zero_add, Nat.add_zero, Nat.zero_mul, List.length_singleton, List.length_append, List.length_nil, List.length_cons, List.take_length, List.drop_zero, List.replicate_zero, List.take_nil, List.nil_append, Nat.reduceBEq, Nat.reduceMul, Nat.reduceLeDiff, eq_self, and_self, true_and, and_true, decide_true, decide_false, Bool.and_self, Bool.or_self, Bool.and_true, Bool.true_and, Bool.and_false, Bool.false_and, Bool.or_true, Bool.true_or, Bool.or_false, Bool.false_or, Bool.not_true, Bool.not_false, cond_true, cond_false]
      exact g
    · rw [k0, Bool.true_and] at w9
      simp -implicitDefEqProofs (disch := omega) only [k0, w9, w7, w8, take_one, set_one, decide_eq_true, decide_eq_false, IntWalk.i64_in, beqT, beqF, bneT, bneF, nat_succ, ← Int.natCast_mul, ← Int.natCast_add, Int.toNat_natCast, Int.zero_mul, Int.zero_add, Int.add_zero, Nat.zero_add, Nat.add_zero, Nat.zero_mul, List.length_singleton, List.length_append, List.length_nil, List.length_cons, List.take_length, List.drop_zero, List.replicate_zero, List.take_nil, List.nil_append, Nat.reduceBEq, Nat.reduceMul, Nat.reduceLeDiff, eq_self, and_self, true_and, and_true, decide_true, decide_false, Bool.and_self, Bool.or_self, Bool.and_true, Bool.true_and, Bool.and_false, Bool.false_and, Bool.or_true, Bool.true_or, Bool.or_false, Bool.false_or, Bool.not_true, Bool.not_false, cond_true, cond_false]
      exact g
  | succ d ih =>
    intro i k hi hk
    obtain ⟨k, rfl⟩ : ∃ q, k = q + 1 := ⟨k - 1, by omega⟩
    have g := ih (i + 1) k (by omega) (by omega)
    obtain ⟨o1, o2, o3⟩ := one i (by omega)
    rw [hl] at g
    rw [round0, Int.toNat_natCast]
    simp -implicitDefEqProofs (disch := omega) only [hl, o1, o2, o3, take_one, set_one, decide_eq_true, decide_eq_false, IntWalk.i64_in, beqT, beqF, bneT, bneF, nat_succ, ← Int.natCast_mul, ← Int.natCast_add, Int.toNat_natCast, Int.zero_mul, Int.zero_add, Int.add_zero, Nat.zero_add, Nat.add_zero, Nat.zero_mul, List.length_singleton, List.length_append, List.length_nil, List.length_cons, List.take_length, List.drop_zero, List.replicate_zero, List.take_nil, List.nil_append, Nat.reduceBEq, Nat.reduceMul, Nat.reduceLeDiff, eq_self, and_self, true_and, and_true, decide_true, decide_false, Bool.and_self, Bool.or_self, Bool.and_true, Bool.true_and, Bool.and_false, Bool.false_and, Bool.or_true, Bool.true_or, Bool.or_false, Bool.false_or, Bool.not_true, Bool.not_false, cond_true, cond_false]
    exact g
theorem run : ∀ args v new, R args = some (true, v, new) → ∃ fuel, regc [] (runFn Try.prog (orcF [⟨27, layF below.R⟩, ⟨28, layF iArrowsOf_t.R⟩, ⟨32, layF iAgreeOnce_t.R⟩, ⟨33, layF iAgreeRounds_t.R⟩] (orc [⟨7, r8Long.R⟩, ⟨9, r8At.R⟩, ⟨29, MeanArrow.R⟩, ⟨30, LongOf.R⟩, ⟨26, r8Gap.R⟩, ⟨31, TurnOfMean.R⟩, ⟨34, r8Wide.R⟩])) hd Dr.std none fuel (bodyOf Try.f6) 225 [4] args []) = some (v, new) := by
  intro args v new h
  unfold R at h
  split at h
  · rename_i zs m us k
    simp only [Option.some.injEq, Prod.mk.injEq, Bool.and_eq_true, decide_eq_true_eq, Bool.not_eq_true'] at h
    obtain ⟨⟨⟨rfl, rfl⟩, hx, hy⟩, rfl, rfl⟩ := h
    obtain ⟨F, hF⟩ : ∃ F : Nat, F = 2000 := ⟨2000, rfl⟩
    refine ⟨F, ?_⟩
    rw [start]
    by_cases c1 : (48 : Int) < (zs.length : Int)
    · simp -implicitDefEqProofs (disch := omega) only [take_one, set_one, decide_eq_true, decide_eq_false, IntWalk.i64_in, beqT, beqF, bneT, bneF, nat_succ, ← Int.natCast_mul, ← Int.natCast_add, Int.toNat_natCast, Int.zero_mul, Int.zero_add, Int.add_zero, Nat.zero_add, Nat.add_zero, Nat.zero_mul, List.length_singleton, List.length_append, List.length_nil, List.length_cons, List.take_length, List.drop_zero, List.replicate_zero, List.take_nil, List.nil_append, Nat.reduceBEq, Nat.reduceMul, Nat.reduceLeDiff, eq_self, and_self, true_and, and_true, decide_true, decide_false, Bool.and_self, Bool.or_self, Bool.and_true, Bool.true_and, Bool.and_false, Bool.false_and, Bool.or_true, Bool.true_or, Bool.or_false, Bool.false_or, Bool.not_true, Bool.not_false, cond_true, cond_false]
      rfl
    by_cases c2 : (48 : Int) < (us.length : Int)
    · simp -implicitDefEqProofs (disch := omega) only [take_one, set_one, decide_eq_true, decide_eq_false, IntWalk.i64_in, beqT, beqF, bneT, bneF, nat_succ, ← Int.natCast_mul, ← Int.natCast_add, Int.toNat_natCast, Int.zero_mul, Int.zero_add, Int.add_zero, Nat.zero_add, Nat.add_zero, Nat.zero_mul, List.length_singleton, List.length_append, List.length_nil, List.length_cons, List.take_length, List.drop_zero, List.replicate_zero, List.take_nil, List.nil_append, Nat.reduceBEq, Nat.reduceMul, Nat.reduceLeDiff, eq_self, and_self, true_and, and_true, decide_true, decide_false, Bool.and_self, Bool.or_self, Bool.and_true, Bool.true_and, Bool.and_false, Bool.false_and, Bool.or_true, Bool.true_or, Bool.or_false, Bool.false_or, Bool.not_true, Bool.not_false, cond_true, cond_false]
      rfl
    obtain ⟨w0, w1⟩ := r8.at_in hy 40 12 (by decide)
    obtain ⟨v0, v1⟩ := r8.at_in hy 41 10 (by decide)
    obtain ⟨n, hn⟩ : ∃ n : Nat, 1 + r8.at.sv us 40 12 = n := ⟨(1 + r8.at.sv us 40 12).toNat, by omega⟩
    obtain ⟨c, hc⟩ : ∃ n : Nat, 1 + r8.at.sv us 41 10 = n := ⟨(1 + r8.at.sv us 41 10).toNat, by omega⟩
    have wn : IntKind.i64.wrap (1 + r8.at.sv us 40 12) = ((n : Nat) : Int) := by rw [IntWalk.i64_in _ (by omega), hn]
    have wc : IntKind.i64.wrap (1 + r8.at.sv us 41 10) = ((c : Nat) : Int) := by rw [IntWalk.i64_in _ (by omega), hc]
    rw [wn, wc, Int.toNat_natCast]
    have bl := arw.bel_len zs c (n : Int)
    have bi := arw.bel_in hx (n := n) (by omega) c
    have h := arw.arr (xs := r8.bel.sv zs c (n : Int)) (n := n) (by omega) (by omega) (by omega) bi
    have sp := arw.sp_of (xs := r8.bel.sv zs c (n : Int)) (n := n) (by omega) (by omega) (by omega) (by omega) bi
    rw [bl] at h
    generalize r8.bel.sv zs c (n : Int) = bs at *
    have g := loop0 zs us (ar.o.sv bs (n : Int)) n c F hx hy (by omega) (by omega) (by omega) (by omega) h (by omega) c 0 F (by omega) (by omega)
    generalize ar.o.sv bs (n : Int) = A at *
    obtain ⟨a1, a2, a3, a4, _⟩ := h
    rw [a1] at g
    have nn := bne_self_eq_false ((c : Nat) : Int)
    simp -implicitDefEqProofs (disch := omega) only [bl, sp, a1, a2, a3, a4, nn, take_one, set_one, decide_eq_true, decide_eq_false, IntWalk.i64_in, beqT, beqF, bneT, bneF, nat_succ, ← Int.natCast_mul, ← Int.natCast_add, Int.toNat_natCast, Int.zero_mul, Int.zero_add, Int.add_zero, Nat.zero_add, Nat.add_zero, Nat.zero_mul, List.length_singleton, List.length_append, List.length_nil, List.length_cons, List.take_length, List.drop_zero, List.replicate_zero, List.take_nil, List.nil_append, Nat.reduceBEq, Nat.reduceMul, Nat.reduceLeDiff, eq_self, and_self, true_and, and_true, decide_true, decide_false, Bool.and_self, Bool.or_self, Bool.and_true, Bool.true_and, Bool.and_false, Bool.false_and, Bool.or_true, Bool.true_or, Bool.or_false, Bool.false_or, Bool.not_true, Bool.not_false, cond_true, cond_false]
    exact (congrArg (regc []) g).trans rfl
  · cases h
theorem ok : EntOk Try.prog ⟨6, R⟩ :=
  ent_okAG (ks := []) mixed (A := (orcF [⟨27, layF below.R⟩, ⟨28, layF iArrowsOf_t.R⟩, ⟨32, layF iAgreeOnce_t.R⟩, ⟨33, layF iAgreeRounds_t.R⟩] (orc [⟨7, r8Long.R⟩, ⟨9, r8At.R⟩, ⟨29, MeanArrow.R⟩, ⟨30, LongOf.R⟩, ⟨26, r8Gap.R⟩, ⟨31, TurnOfMean.R⟩, ⟨34, r8Wide.R⟩]))) (orcF_ok (by simp only [List.mem_cons, List.not_mem_nil, or_false, forall_eq_or_imp, forall_eq]; exact ⟨below.ok.frz, iArrowsOf_t.ok.frz, iAgreeOnce_t.ok.frz, iAgreeRounds_t.ok.frz⟩) (orc_ok (by simp only [List.mem_cons, List.not_mem_nil, or_false, forall_eq_or_imp, forall_eq]; exact ⟨r8Long.ok, r8At.ok, MeanArrow.ok, LongOf.ok, r8Gap.ok, TurnOfMean.ok, r8Wide.ok⟩))) Try.func6 (by kernel_rfl) (by kernel_rfl) (n := 225) (ts := [4]) (hd := hd) (dr := Dr.std) (cut := none) (by kernel_rfl) (by kernel_rfl) (by kernel_rfl) run
end fArrows

namespace FnArrowsAgree
def R := fArrows.R
theorem ok : EntOk Try.prog ⟨6, R⟩ := fArrows.ok
end FnArrowsAgree

end Go.Proofs.Ytgblgofmdhekiaa.Ab
