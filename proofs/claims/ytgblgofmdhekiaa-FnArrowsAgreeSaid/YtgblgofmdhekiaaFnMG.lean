/-
  Functions: arrows of choices.
-/
import Derived.Test.YtgblgofmdhekiaaFnMF
import Derived.Test.YtgblgofmdhekiaaFnB
namespace Go.Proofs.Ytgblgofmdhekiaa.Ab
open Go
set_option linter.unusedVariables false
set_option linter.unusedSimpArgs false
set_option maxRecDepth 100000

namespace ar
def t.sv (n c : Int) : Nat := fwid.sv (fdiv .f32 (FloatKind.f32.nearest c) (FloatKind.f32.nearest n))
def one.sv (n c : Int) : Nat × Nat := (fl.re.sv (ar.t.sv n c), fl.im.sv (ar.t.sv n c))
def o.sv (xs : List Int) (n : Int) : List (Nat × Nat) := xs.map (one.sv n)
def sp (xs : List Int) (n : Int) : Bool := (decide (1 ≤ xs.length) && decide (xs.length ≤ 64)) && ((decide (1 ≤ n) && decide (n ≤ 64)) && xs.all fun x => decide (0 ≤ x) && decide (x ≤ n - 1))
end ar

namespace fl
theorem point_ok {x : Nat} (h : ok.sp x = true) : (fin .f32 (re.sv x) ∧ (val .f32 (re.sv x)).natAbs ≤ sc 1 (31 : Nat)) ∧ (fin .f32 (im.sv x) ∧ (val .f32 (im.sv x)).natAbs ≤ sc 1 (31 : Nat)) := by
  simp only [ok.sp, Bool.and_eq_true] at h
  have hfin := num_fin h.1
  have hone : fin .f32 1065353216 ∧ (val .f32 1065353216).natAbs ≤ sc 1 (31 : Nat) := by
    have r0 : Rep .f32 1 0 := rep32 (by omega) (by omega) (by omega)
    obtain ⟨_, b2, b3⟩ := nar_rn one_ok.1 r0 (by rw [one_ok.2, Int.natAbs_natCast]; exact Nat.le_refl _)
    rw [one32] at b2 b3
    exact ⟨b2, Nat.le_trans b3 (sc_mono (by omega) (by omega))⟩
  have hzero : fin .f32 0 ∧ (val .f32 0).natAbs ≤ sc 1 (31 : Nat) := by
    have z := zero_ok .f32
    exact ⟨z.1, by rw [z.2]; exact Nat.zero_le _⟩
  unfold re.sv im.sv
  cases hw : wide.sp x
  · have K := facts hfin hw
    have hz1 := zsub_ok K.s.1 K.s.2
    have hz2 := zsub_ok K.c.1 K.c.2
    have n1 := (nar_ok31 K.s.1 K.s.2).2
    have n3 := (nar_ok31 K.c.1 K.c.2).2
    have n4 := (nar_ok31 hz1.1 hz1.2).2
    have n5 := (nar_ok31 hz2.1 hz2.2).2
    simp only [cond_false]
    cases q.sv x == 1
    · cases q.sv x == 2
      · cases q.sv x == 3
        · exact ⟨n3, n1⟩
        · exact ⟨n1, n5⟩
      · exact ⟨n5, n4⟩
    · exact ⟨n4, n3⟩
  · exact ⟨hone, hzero⟩
theorem point_fin {x : Nat} (h : ok.sp x = true) : cfin.sp (re.sv x, im.sv x) = true := by
  obtain ⟨a, b⟩ := point_ok h
  unfold cfin.sp
  rw [fin_num32 a.1, fin_num32 b.1]; rfl
end fl
namespace ar
theorem t_all : ∀ n : Nat, n < 65 → ∀ c : Nat, c < n → fl.ok.sp (t.sv (n : Int) (c : Int)) = true := by decide +kernel
theorem t_ok {n c : Int} (h1 : n ≤ 64) (h2 : 0 ≤ c) (h3 : c ≤ n - 1) : fl.ok.sp (t.sv n c) = true := by
  obtain ⟨n, rfl⟩ : ∃ k : Nat, n = k := ⟨n.toNat, by omega⟩
  obtain ⟨c, rfl⟩ : ∃ k : Nat, c = k := ⟨c.toNat, by omega⟩
  exact t_all n (by omega) c (by omega)
theorem o_fin {xs : List Int} {n : Int} (h : sp xs n = true) : (o.sv xs n).all cfin.sp = true := by
  simp only [sp, Bool.and_eq_true, decide_eq_true_eq, List.all_eq_true] at h
  obtain ⟨_, ⟨h1, h2⟩, h3⟩ := h
  unfold o.sv
  rw [List.all_map, List.all_eq_true]
  intro c hc
  exact fl.point_fin (t_ok h2 (h3 c hc).1 (h3 c hc).2)
theorem o_length (xs : List Int) (n : Int) : (o.sv xs n).length = xs.length := by unfold o.sv; rw [List.length_map]
theorem one_setC (v : Nat × Nat) : (List.replicate 1 ((0 : Nat), (0 : Nat))).set 0 v = [v] := rfl
end ar




namespace iArrowsOf_t
def R : List AVal → Option (Bool × AVal × List Blk)
  | [.ro (.ints .i64 xs) m 1, .int .i64 nn] => some (decide (m = xs.length ∧ m ≤ 4611686018427387904) && ar.sp xs nn, .tup [.own 0 0 (ar.o.sv xs nn).length 0 1, .bool true], [⟨.typ (.cpxs .f32 (ar.o.sv xs nn)), 0⟩])
  | _ => none
def hd : Nat → Head := fun _ => ⟨[1, 6, 20, 21, 22], some 1⟩
noncomputable def L (f n : Nat) (s : State) := loopAt Try.prog (orc [⟨40, within.R⟩, ⟨42, areMany.R⟩, ⟨64, PhasorOf.R⟩]) hd Dr.std 0 f (bodyOf Try.f28) 0 [true, true, true, false, true] (retK Try.prog [4, 5] 0 none) n s
theorem start (xs : List Int) (nn : Int) (f : Nat) :
  runFn Try.prog (orc [⟨40, within.R⟩, ⟨42, areMany.R⟩, ⟨64, PhasorOf.R⟩]) hd Dr.std none f (bodyOf Try.f28) 38 [4, 5] [.ro (.ints .i64 xs) xs.length 1, .int .i64 nn] []
  = (bif true && (true && true || true && true) then bif !(decide ((1 : Int) ≤ nn) && decide (nn ≤ (64 : Int))) then some (AVal.tup [AVal.nils, AVal.bool false], []) else bif decide (xs.length ≤ xs.length ∧ xs.length ≤ (4611686018427387904 : Nat)) && (true && (true && (true && (true && (true && true)))) || true && true) then bif !(decide ((1 : Int) ≤ (↑xs.length : Int)) && decide ((↑xs.length : Int) ≤ (64 : Int)) && (List.take xs.length xs).all fun x => decide ((0 : Int) ≤ x) && decide (x ≤ IntKind.i64.wrap (nn - (1 : Int)))) then some (AVal.tup [AVal.nils, AVal.bool false], []) else L f f (mkS (38 : Nat) [((1 : Nat), AVal.int IntKind.i64 nn), ((6 : Nat), AVal.own (0 : Nat) (0 : Nat) (0 : Nat) (0 : Nat) (1 : Nat)), ((20 : Nat), AVal.ro (Cont.ints IntKind.i64 xs) xs.length (1 : Nat)), ((21 : Nat), AVal.int IntKind.i64 (↑xs.length : Int)), ((22 : Nat), AVal.int IntKind.i64 (0 : Int))] [{ c := BC.typ (Cont.cpxs FloatKind.f32 (List.replicate (0 : Nat) ((0 : Nat), (0 : Nat)))), ver := (0 : Nat) }]) else none else none) := by kernel_rfl
theorem round (xs : List Int) (zs : List (Nat × Nat)) (nn : Int) (q i f n : Nat) :
  L f (n + 1) (mkS 38 [(1, .int .i64 nn), (6, .own 0 0 q 0 1), (20, .ro (.ints .i64 xs) xs.length 1), (21, .int .i64 (xs.length : Int)), (22, .int .i64 (i : Int))] [⟨.typ (.cpxs .f32 zs), 0⟩])
  = (bif decide ((↑i : Int) < (↑xs.length : Int)) then bif true && (decide ((0 : Int) ≤ (↑i : Int)) && decide ((↑i : Int) < (↑xs.length : Int))) then bif decide ((↑i : Int).toNat < xs.length) then bif fl.ok.sp (fwid.sv (fdiv FloatKind.f32 (FloatKind.f32.nearest (gz xs (↑i : Int).toNat)) (FloatKind.f32.nearest nn))) && (true && true || true && true) then bif (1 : Nat) == (1 : Nat) && (1 : Nat) == (1 : Nat) && (true && (true && true) && (true && true && (decide (q + (List.take (1 : Nat) (List.drop (0 : Nat) ((List.replicate (1 : Nat) ((0 : Nat), (0 : Nat))).set (0 : Nat) (fl.re.sv (fwid.sv (fdiv FloatKind.f32 (FloatKind.f32.nearest (gz xs (↑i : Int).toNat)) (FloatKind.f32.nearest nn))), fl.im.sv (fwid.sv (fdiv FloatKind.f32 (FloatKind.f32.nearest (gz xs (↑i : Int).toNat)) (FloatKind.f32.nearest nn))))))).length ≤ (4611686018427387904 : Nat)) && decide ((q + (List.take (1 : Nat) (List.drop (0 : Nat) ((List.replicate (1 : Nat) ((0 : Nat), (0 : Nat))).set (0 : Nat) (fl.re.sv (fwid.sv (fdiv FloatKind.f32 (FloatKind.f32.nearest (gz xs (↑i : Int).toNat)) (FloatKind.f32.nearest nn))), fl.im.sv (fwid.sv (fdiv FloatKind.f32 (FloatKind.f32.nearest (gz xs (↑i : Int).toNat)) (FloatKind.f32.nearest nn))))))).length) * (8 : Nat) ≤ (140737488355328 : Nat))))) then L f n (mkS (38 : Nat) [((1 : Nat), AVal.int IntKind.i64 nn), ((6 : Nat), AVal.own (0 : Nat) (0 : Nat) (q + (List.take (1 : Nat) (List.drop (0 : Nat) ((List.replicate (1 : Nat) ((0 : Nat), (0 : Nat))).set (0 : Nat) (fl.re.sv (fwid.sv (fdiv FloatKind.f32 (FloatKind.f32.nearest (gz xs (↑i : Int).toNat)) (FloatKind.f32.nearest nn))), fl.im.sv (fwid.sv (fdiv FloatKind.f32 (FloatKind.f32.nearest (gz xs (↑i : Int).toNat)) (FloatKind.f32.nearest nn))))))).length) (0 : Nat) (1 : Nat)), ((20 : Nat), AVal.ro (Cont.ints IntKind.i64 xs) xs.length (1 : Nat)), ((21 : Nat), AVal.int IntKind.i64 (↑xs.length : Int)), ((22 : Nat), AVal.int IntKind.i64 (IntKind.i64.wrap ((↑i : Int) + (1 : Int))))] [{ c := BC.typ (Cont.cpxs FloatKind.f32 (List.take q zs ++ List.take (1 : Nat) (List.drop (0 : Nat) ((List.replicate (1 : Nat) ((0 : Nat), (0 : Nat))).set (0 : Nat) (fl.re.sv (fwid.sv (fdiv FloatKind.f32 (FloatKind.f32.nearest (gz xs (↑i : Int).toNat)) (FloatKind.f32.nearest nn))), fl.im.sv (fwid.sv (fdiv FloatKind.f32 (FloatKind.f32.nearest (gz xs (↑i : Int).toNat)) (FloatKind.f32.nearest nn)))))))), ver := (0 : Nat) }]) else none else none else none else none else some (AVal.tup [AVal.own (0 : Nat) (0 : Nat) q (0 : Nat) (1 : Nat), AVal.bool true], [{ c := BC.typ (Cont.cpxs FloatKind.f32 zs), ver := (0 : Nat) }])) := by kernel_rfl
theorem good (xs : List Int) (nn : Int) (f : Nat) (hx : xs.length ≤ 64) (hn1 : 1 ≤ nn) (hn2 : nn ≤ 64) (hall : ∀ x ∈ xs, 0 ≤ x ∧ x ≤ nn - 1) : ∀ (d i n : Nat), i + d = xs.length → d < n →
    L f n (mkS 38 [(1, .int .i64 nn), (6, .own 0 0 i 0 1), (20, .ro (.ints .i64 xs) xs.length 1), (21, .int .i64 (xs.length : Int)), (22, .int .i64 ((i : Nat) : Int))] [⟨.typ (.cpxs .f32 ((xs.take i).map (ar.one.sv nn))), 0⟩]) = some (.tup [.own 0 0 xs.length 0 1, .bool true], [⟨.typ (.cpxs .f32 (ar.o.sv xs nn)), 0⟩]) := by
  intro d
  induction d with
  | zero =>
    intro i n hi hn
    obtain ⟨n, rfl⟩ : ∃ k, n = k + 1 := ⟨n - 1, by omega⟩
    obtain rfl : i = xs.length := by omega
    rw [List.take_length, round]
    simp -implicitDefEqProofs only [Int.lt_irrefl, ar.o.sv, decide_true, decide_false, Bool.and_self, Bool.or_self, Bool.and_true, Bool.true_and, Bool.and_false, Bool.false_and, Bool.or_true, Bool.true_or, Bool.or_false, Bool.false_or, Bool.not_true, Bool.not_false, cond_true, cond_false]
  | succ d ih =>
    intro i n hi hn
    obtain ⟨n, rfl⟩ : ∃ k, n = k + 1 := ⟨n - 1, by omega⟩
    have h1 : i < xs.length := by omega
    have h4 : (0 : Int) ≤ (i : Int) := Int.natCast_nonneg _
    have h5 : (i : Int) < (xs.length : Int) := by omega
    have wi : IntKind.i64.wrap ((i : Int) + 1) = ((i + 1 : Nat) : Int) := wrap_nat i (by omega)
    have hc : gz xs i = xs[i] := gz_eq h1
    have k0 : i + 1 ≤ 4611686018427387904 := by omega
    have k1 : (i + 1) * 8 ≤ 140737488355328 := by omega
    have hl : ((xs.take i).map (ar.one.sv nn)).length = i := by rw [List.length_map, List.length_take]; omega
    have ht : ((xs.take i).map (ar.one.sv nn)).take i = (xs.take i).map (ar.one.sv nn) := List.take_of_length_le (by omega)
    have hs : (xs.take i).map (ar.one.sv nn) ++ [ar.one.sv nn xs[i]] = (xs.take (i + 1)).map (ar.one.sv nn) := by rw [List.take_succ_eq_append_getElem h1, List.map_append]; rfl
    have ee : (fl.re.sv (fwid.sv (fdiv .f32 (FloatKind.f32.nearest xs[i]) (FloatKind.f32.nearest nn))), fl.im.sv (fwid.sv (fdiv .f32 (FloatKind.f32.nearest xs[i]) (FloatKind.f32.nearest nn)))) = ar.one.sv nn xs[i] := rfl
    have et : fwid.sv (fdiv .f32 (FloatKind.f32.nearest xs[i]) (FloatKind.f32.nearest nn)) = ar.t.sv nn xs[i] := rfl
    have wn : IntKind.i64.wrap (nn - 1) = nn - 1 := IntWalk.i64_in _ (by omega)
    obtain ⟨r1, r2⟩ := hall xs[i] (List.getElem_mem h1)
    have hok := ar.t_ok hn2 r1 r2
    have hih := ih (i + 1) n (by omega) (by omega)
    rw [← hs] at hih
    rw [round]
    simp -implicitDefEqProofs only [h4, h5, h1, wi, wn, hc, ee, et, hok, r1, r2, ht, k0, k1, ar.one_setC, List.drop_zero, List.take_length, List.length_singleton, List.take_succ_cons, List.take_zero, Nat.reduceBEq, Int.toNat_natCast, decide_true, decide_false, Bool.and_self, Bool.or_self, Bool.and_true, Bool.true_and, Bool.and_false, Bool.false_and, Bool.or_true, Bool.true_or, Bool.or_false, Bool.false_or, Bool.not_true, Bool.not_false, cond_true, cond_false]
    exact hih
theorem run : ∀ args v new, R args = some (true, v, new) → ∃ fuel, runFn Try.prog (orc [⟨40, within.R⟩, ⟨42, areMany.R⟩, ⟨64, PhasorOf.R⟩]) hd Dr.std none fuel (bodyOf Try.f28) 38 [4, 5] args [] = some (v, new) := by
  intro args v new h
  unfold R at h
  split at h
  · rename_i xs m nn
    simp only [Option.some.injEq, Prod.mk.injEq, Bool.and_eq_true, decide_eq_true_eq, Bool.not_eq_true'] at h
    obtain ⟨⟨⟨rfl, h3⟩, hs⟩, rfl, rfl⟩ := h
    simp only [ar.sp, Bool.and_eq_true, decide_eq_true_eq, List.all_eq_true] at hs
    obtain ⟨⟨b1, b2⟩, ⟨b3, b4⟩, b5⟩ := hs
    obtain ⟨F, hF⟩ : ∃ F : Nat, F = 100 := ⟨100, rfl⟩
    refine ⟨F, ?_⟩
    have hg := good xs nn F b2 b3 b4 b5 xs.length 0 F (by omega) (by omega)
    simp only [List.take_zero, List.map_nil] at hg
    have c1 : ¬ ((xs.length : Int) < 1) := by omega
    have c2 : ¬ ((64 : Int) < (xs.length : Int)) := by omega
    have c3 : (1 : Int) ≤ (xs.length : Int) := by omega
    have c4 : (xs.length : Int) ≤ 64 := by omega
    have wn : IntKind.i64.wrap (nn - 1) = nn - 1 := IntWalk.i64_in _ (by omega)
    have b6 : (xs.all fun x => decide (0 ≤ x) && decide (x ≤ nn - 1)) = true := by
      rw [List.all_eq_true]; intro x hx; simpa using b5 x hx
    rw [start, ar.o_length]
    simp -implicitDefEqProofs only [h3, b3, b4, b6, c1, c2, c3, c4, wn, List.take_length, List.replicate_zero, Nat.le_refl, and_self, eq_self, decide_true, decide_false, Bool.and_self, Bool.or_self, Bool.and_true, Bool.true_and, Bool.and_false, Bool.false_and, Bool.or_true, Bool.true_or, Bool.or_false, Bool.false_or, Bool.not_true, Bool.not_false, cond_true, cond_false]
    exact hg
  · cases h
theorem ok : EntOk Try.prog ⟨28, R⟩ :=
  ent_okA mixed (A := (orc [⟨40, within.R⟩, ⟨42, areMany.R⟩, ⟨64, PhasorOf.R⟩])) (orc_ok (by simp only [List.mem_cons, List.not_mem_nil, or_false, forall_eq_or_imp, forall_eq]; exact ⟨within.ok, areMany.ok, PhasorOf.ok⟩)) Try.func28 (by kernel_rfl) (by kernel_rfl) (n := 38) (ts := [4, 5]) (hd := hd) (dr := Dr.std) (cut := none) (by kernel_rfl) (by kernel_rfl) (by kernel_rfl) run
end iArrowsOf_t

namespace iArrowsOf_f
def R : List AVal → Option (Bool × AVal × List Blk)
  | [.ro (.ints .i64 xs) m 1, .int .i64 nn] => some (decide (m = xs.length ∧ m ≤ 4611686018427387904) && !ar.sp xs nn, .tup [.nils, .bool false], [])
  | _ => none
def hd : Nat → Head := fun _ => ⟨[1, 6, 20, 21, 22], some 1⟩
noncomputable def L (f n : Nat) (s : State) := loopAt Try.prog (orc [⟨40, within.R⟩, ⟨42, areMany.R⟩, ⟨64, PhasorOf.R⟩]) hd Dr.std 0 f (bodyOf Try.f28) 0 [true, true, true, false, true] (retK Try.prog [4, 5] 0 (some 0)) n s
theorem start (xs : List Int) (nn : Int) (f : Nat) :
  runFn Try.prog (orc [⟨40, within.R⟩, ⟨42, areMany.R⟩, ⟨64, PhasorOf.R⟩]) hd Dr.std (some 0) f (bodyOf Try.f28) 38 [4, 5] [.ro (.ints .i64 xs) xs.length 1, .int .i64 nn] []
  = (bif true && (true && true || true && true) then bif !(decide ((1 : Int) ≤ nn) && decide (nn ≤ (64 : Int))) then some (AVal.tup [AVal.nils, AVal.bool false], []) else bif decide (xs.length ≤ xs.length ∧ xs.length ≤ (4611686018427387904 : Nat)) && (true && (true && (true && (true && (true && true)))) || true && true) then bif !(decide ((1 : Int) ≤ (↑xs.length : Int)) && decide ((↑xs.length : Int) ≤ (64 : Int)) && (List.take xs.length xs).all fun x => decide ((0 : Int) ≤ x) && decide (x ≤ IntKind.i64.wrap (nn - (1 : Int)))) then some (AVal.tup [AVal.nils, AVal.bool false], []) else L f f (mkS (38 : Nat) [((1 : Nat), AVal.int IntKind.i64 nn), ((6 : Nat), AVal.own (0 : Nat) (0 : Nat) (0 : Nat) (0 : Nat) (1 : Nat)), ((20 : Nat), AVal.ro (Cont.ints IntKind.i64 xs) xs.length (1 : Nat)), ((21 : Nat), AVal.int IntKind.i64 (↑xs.length : Int)), ((22 : Nat), AVal.int IntKind.i64 (0 : Int))] [{ c := BC.typ (Cont.cpxs FloatKind.f32 (List.replicate (0 : Nat) ((0 : Nat), (0 : Nat)))), ver := (0 : Nat) }]) else none else none) := by kernel_rfl
theorem run : ∀ args v new, R args = some (true, v, new) → ∃ fuel, runFn Try.prog (orc [⟨40, within.R⟩, ⟨42, areMany.R⟩, ⟨64, PhasorOf.R⟩]) hd Dr.std (some 0) fuel (bodyOf Try.f28) 38 [4, 5] args [] = some (v, new) := by
  intro args v new h
  unfold R at h
  split at h
  · rename_i xs m nn
    simp only [Option.some.injEq, Prod.mk.injEq, Bool.and_eq_true, decide_eq_true_eq, Bool.not_eq_true'] at h
    obtain ⟨⟨⟨rfl, h3⟩, hs⟩, rfl, rfl⟩ := h
    refine ⟨0, ?_⟩
    rw [start]
    cases c3 : (decide (1 ≤ nn) && decide (nn ≤ 64))
    · simp -implicitDefEqProofs only [c3, decide_true, decide_false, Bool.and_self, Bool.or_self, Bool.and_true, Bool.true_and, Bool.and_false, Bool.false_and, Bool.or_true, Bool.true_or, Bool.or_false, Bool.false_or, Bool.not_true, Bool.not_false, cond_true, cond_false]
    have hb3 := c3
    simp only [Bool.and_eq_true, decide_eq_true_eq] at hb3
    have wn : IntKind.i64.wrap (nn - 1) = nn - 1 := IntWalk.i64_in _ (by omega)
    have e1 : decide ((1 : Int) ≤ (xs.length : Int)) = decide (1 ≤ xs.length) := by congr 1; apply propext; omega
    have e2 : decide ((xs.length : Int) ≤ 64) = decide (xs.length ≤ 64) := by congr 1; apply propext; omega
    simp only [ar.sp, c3, Bool.true_and] at hs
    simp -implicitDefEqProofs only [h3, c3, wn, e1, e2, hs, List.take_length, Nat.le_refl, and_self, eq_self, decide_true, decide_false, Bool.and_self, Bool.or_self, Bool.and_true, Bool.true_and, Bool.and_false, Bool.false_and, Bool.or_true, Bool.true_or, Bool.or_false, Bool.false_or, Bool.not_true, Bool.not_false, cond_true, cond_false]
  · cases h
theorem ok : EntOk Try.prog ⟨28, R⟩ :=
  ent_okA mixed (A := (orc [⟨40, within.R⟩, ⟨42, areMany.R⟩, ⟨64, PhasorOf.R⟩])) (orc_ok (by simp only [List.mem_cons, List.not_mem_nil, or_false, forall_eq_or_imp, forall_eq]; exact ⟨within.ok, areMany.ok, PhasorOf.ok⟩)) Try.func28 (by kernel_rfl) (by kernel_rfl) (n := 38) (ts := [4, 5]) (hd := hd) (dr := Dr.std) (cut := (some 0)) (by kernel_rfl) (by kernel_rfl) (by kernel_rfl) run
end iArrowsOf_f

namespace iArrowsOf
def Rt := iArrowsOf_t.R
def Rf := iArrowsOf_f.R
theorem okt : EntOk Try.prog ⟨28, Rt⟩ := iArrowsOf_t.ok
theorem okf : EntOk Try.prog ⟨28, Rf⟩ := iArrowsOf_f.ok
end iArrowsOf




end Go.Proofs.Ytgblgofmdhekiaa.Ab
