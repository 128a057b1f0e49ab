/-
  Functions: the first set that could do better alone: the program.
-/
import Derived.Test.YtkoongajnnaeoaaFnHJ
namespace Go.Proofs.Ytkoongajnnaeoaa.Ab
open Go
set_option linter.unusedVariables false
set_option linter.unusedSimpArgs false
set_option maxRecDepth 100000

namespace iHouseBlock
def Rt : List AVal → Option (Bool × AVal × List Blk)
  | [.ro (.rows .i64 W) m 1, .ro (.ints .i64 M) k 1] => some (decide (m = W.length ∧ k = M.length ∧ M.length = W.length ∧ W.length ≤ 5) && (hse.sp W && (hse.odr.sp M && hse.hb.sp W M)), .tup [.own 0 0 (hse.hb.sv W M).length 0 1, .bool true], [⟨.typ (.ints .i64 (hse.hb.sv W M)), 0⟩])
  | _ => none
def Rf : List AVal → Option (Bool × AVal × List Blk)
  | [.ro (.rows .i64 W) m 1, .ro (.ints .i64 M) k 1] => some (decide (m = W.length ∧ k = M.length ∧ M.length = W.length ∧ W.length ≤ 5) && (hse.sp W && (hse.odr.sp M && !hse.hb.sp W M)), .tup [.nils, .bool false], [])
  | _ => none
def hd : Nat → Head := fun i => ⟨[998, 2, 3, 4, 5, 6], none⟩
noncomputable def L0 (f n : Nat) (s : State) := loopAt Try.prog (orcW [⟨104, (bput.R 10)⟩] [⟨94, areHouses.R⟩, ⟨102, isAll.R⟩, ⟨86, members.R⟩]) hd Dr.std 0 f (bodyOf Try.f45) 0 [true, true, false, true] (retK Try.prog [4, 5] 0 none) n s
theorem start (W : List (List Int)) (M : List Int) (f : Nat) :
  runFn Try.prog (orcW [⟨104, (bput.R 10)⟩] [⟨94, areHouses.R⟩, ⟨102, isAll.R⟩, ⟨86, members.R⟩]) hd Dr.std none f (bodyOf Try.f45) 37 [4, 5] [.ro (.rows .i64 W) W.length 1, .ro (.ints .i64 M) M.length 1] []
  = (bif true && true then bif decide (W.length = W.length) && hse.sp W && (true && true || true && true) then bif true && true then bif true && true then bif (↑M.length : Int) != (↑W.length : Int) then some (AVal.tup [AVal.nils, AVal.bool false], [{ c := BC.cells [AVal.ro (Cont.rows IntKind.i64 W) W.length (1 : Nat)], ver := (0 : Nat) }, { c := BC.cells [AVal.ro (Cont.ints IntKind.i64 M) M.length (1 : Nat)], ver := (0 : Nat) }]) else bif true && true then bif decide (M.length ≤ M.length ∧ M.length ≤ (1000000000 : Nat)) && (true && true || true && true) then bif !uniq.sq (↑M.length : Int) [] (List.take M.length M) then some (AVal.tup [AVal.nils, AVal.bool false], [{ c := BC.cells [AVal.ro (Cont.rows IntKind.i64 W) W.length (1 : Nat)], ver := (0 : Nat) }, { c := BC.cells [AVal.ro (Cont.ints IntKind.i64 M) M.length (1 : Nat)], ver := (0 : Nat) }]) else L0 f f (mkS (37 : Nat) [((2 : Nat), AVal.ptr (0 : Nat) (0 : Nat) (0 : Nat)), ((3 : Nat), AVal.ptr (1 : Nat) (0 : Nat) (0 : Nat)), ((4 : Nat), AVal.nils), ((5 : Nat), AVal.bool false), ((6 : Nat), AVal.int IntKind.i64 (1 : Int))] [{ c := BC.cells [AVal.ro (Cont.rows IntKind.i64 W) W.length (1 : Nat)], ver := (0 : Nat) }, { c := BC.cells [AVal.ro (Cont.ints IntKind.i64 M) M.length (1 : Nat)], ver := (0 : Nat) }]) else none else none else none else none else none else none) := by kernel_rfl
theorem round0 (W : List (List Int)) (M : List Int) (m f n : Nat) :
  L0 f (n + 1) (mkS 37 [(2, .ptr 0 0 0), (3, .ptr 1 0 0), (4, .nils), (5, .bool false), (6, .int .i64 ((m : Nat) : Int))] [⟨.cells [.ro (.rows .i64 W) W.length 1], 0⟩, ⟨.cells [.ro (.ints .i64 M) M.length 1], 0⟩])
  = (bif true && true then bif decide ((0 : Int) ≤ (↑W.length : Int)) then bif decide ((↑m : Int) < ishl.sv IntKind.i64 (1 : Int) (↑W.length : Int)) then bif decide ((0 : Int) ≤ (↑m : Int) ∧ (↑m : Int) < (32 : Int)) && (true && true || true && (true && true)) then bif true && true then bif decide ((104 : Nat) = (104 : FuncId) ∧ W.length = W.length ∧ M.length = M.length ∧ M.length = W.length ∧ (hse.mb.sv (↑m : Int).toNat (hse.ln.sv (↑m : Int).toNat)).length = (hse.mb.sv (↑m : Int).toNat (hse.ln.sv (↑m : Int).toNat)).length ∧ (0 : Int) ≤ (0 : Int) ∧ (0 : Int) ≤ (↑(hse.mb.sv (↑m : Int).toNat (hse.ln.sv (↑m : Int).toNat)).length : Int) ∧ (0 : Int) ≤ (0 : Int) ∧ (0 : Int) < (32 : Int) ∧ W.length ≤ (5 : Nat) ∧ (↑(hse.mb.sv (↑m : Int).toNat (hse.ln.sv (↑m : Int).toNat)).length : Int) - (0 : Int) < (↑(10 : Nat) : Int)) && (hse.sp W && (hse.mt.sp M && hse.st.sp (hse.mb.sv (↑m : Int).toNat (hse.ln.sv (↑m : Int).toNat)) W.length)) && (true && (true && (true && (true && (true && true)))) && (true && (true && (true && (true && (true && true)))))) then bif hse.pq.sp W M (hse.mb.sv (↑m : Int).toNat (hse.ln.sv (↑m : Int).toNat)) ((hse.mb.sv (↑m : Int).toNat (hse.ln.sv (↑m : Int).toNat)).length - (0 : Nat)) (0 : Nat) (0 : Nat) false then bif true && true then some (AVal.tup [AVal.own (2 : Nat) (0 : Nat) (hse.mb.sv (↑m : Int).toNat (hse.ln.sv (↑m : Int).toNat)).length (0 : Nat) (1 : Nat), AVal.bool true], [{ c := BC.cells [AVal.ro (Cont.rows IntKind.i64 W) W.length (1 : Nat)], ver := (0 : Nat) }, { c := BC.cells [AVal.ro (Cont.ints IntKind.i64 M) M.length (1 : Nat)], ver := (0 : Nat) }, { c := BC.typ (Cont.ints IntKind.i64 (hse.mb.sv (↑m : Int).toNat (hse.ln.sv (↑m : Int).toNat))), ver := (0 : Nat) }]) else none else L0 f n (mkS (37 : Nat) [((2 : Nat), AVal.ptr (0 : Nat) (0 : Nat) (0 : Nat)), ((3 : Nat), AVal.ptr (1 : Nat) (0 : Nat) (0 : Nat)), ((4 : Nat), AVal.nils), ((5 : Nat), AVal.bool false), ((6 : Nat), AVal.int IntKind.i64 (IntKind.i64.wrap ((↑m : Int) + (1 : Int))))] [{ c := BC.cells [AVal.ro (Cont.rows IntKind.i64 W) W.length (1 : Nat)], ver := (0 : Nat) }, { c := BC.cells [AVal.ro (Cont.ints IntKind.i64 M) M.length (1 : Nat)], ver := (0 : Nat) }]) else none else none else none else some (AVal.tup [AVal.nils, AVal.bool false], [{ c := BC.cells [AVal.ro (Cont.rows IntKind.i64 W) W.length (1 : Nat)], ver := (0 : Nat) }, { c := BC.cells [AVal.ro (Cont.ints IntKind.i64 M) M.length (1 : Nat)], ver := (0 : Nat) }]) else none else none) := by kernel_rfl
theorem loop0 (W : List (List Int)) (M : List Int) (f : Nat) (hf : 100 < f) (v : hse.V W W.length) (hs : hse.sp W = true) (hm : hse.mt.sp M = true) (hl : M.length = W.length) (h5 : W.length ≤ 5) : ∀ (d m n : Nat), m + d = 2 ^ W.length → d < n → 1 ≤ m →
    L0 f n (mkS 37 [(2, .ptr 0 0 0), (3, .ptr 1 0 0), (4, .nils), (5, .bool false), (6, .int .i64 ((m : Nat) : Int))] [⟨.cells [.ro (.rows .i64 W) W.length 1], 0⟩, ⟨.cells [.ro (.ints .i64 M) M.length 1], 0⟩]) = (bif decide ((hse.fb (hse.bp.sp W M W.length) d m) < 2 ^ W.length) then some (.tup [.own 2 0 (hse.mb.sv (hse.fb (hse.bp.sp W M W.length) d m) W.length).length 0 1, .bool true], [⟨.cells [.ro (.rows .i64 W) W.length 1], 0⟩, ⟨.cells [.ro (.ints .i64 M) M.length 1], 0⟩, ⟨.typ (.ints .i64 (hse.mb.sv (hse.fb (hse.bp.sp W M W.length) d m) W.length)), 0⟩]) else some (.tup [.nils, .bool false], [⟨.cells [.ro (.rows .i64 W) W.length 1], 0⟩, ⟨.cells [.ro (.ints .i64 M) M.length 1], 0⟩])) := by
  have hp := hse.pow_le h5
  have u1 := hse.u64_nat W.length (by omega)
  have u2 := hse.shl_one W.length (by omega)
  intro d
  induction d with
  | zero =>
    intro m n hm' hn h1
    obtain ⟨n, rfl⟩ : ∃ q, n = q + 1 := ⟨n - 1, by omega⟩
    have e : decide (m < 2 ^ W.length) = false := decide_eq_false (by omega)
    rw [round0, hse.fb, e]
    simp -implicitDefEqProofs (disch := omega) only [u1, u2, take_one, set_one, decide_eq_true, decide_eq_false, IntWalk.i64_in, beqT, beqF, bneT, bneF, nat_succ, ← Int.natCast_mul, ← Int.natCast_add, Int.toNat_natCast, Int.zero_mul, Int.zero_add, Int.add_zero, Nat.zero_add, Nat.add_zero, Nat.zero_mul, List.length_singleton, List.length_append, List.length_nil, List.length_cons, List.take_length, List.drop_zero, List.replicate_zero, List.take_nil, List.nil_append, Nat.reduceBEq, Nat.reduceMul, Nat.reduceLeDiff, eq_self, and_self, true_and, and_true, decide_true, decide_false, Bool.and_self, Bool.or_self, Bool.and_true, Bool.true_and, Bool.and_false, Bool.false_and, Bool.or_true, Bool.true_or, Bool.or_false, Bool.false_or, Bool.not_true, Bool.not_false, cond_true, cond_false]
  | succ d ih =>
    intro m n hm' hn h1
    obtain ⟨n, rfl⟩ : ∃ q, n = q + 1 := ⟨n - 1, by omega⟩
    have g := ih (m + 1) n (by omega) (by omega) (by omega)
    have e : decide (m < 2 ^ W.length) = true := decide_eq_true (by omega)
    have em := hse.mb_ln W.length (by omega) m (by omega)
    have hst : hse.st.sp (hse.mb.sv m W.length) W.length = true := hse.st_of (hse.mb_set m W.length)
    have ml := hse.mb_length m W.length
    have eq : hse.pq.sp W M (hse.mb.sv m W.length) (hse.mb.sv m W.length).length 0 0 false = hse.bp.sp W M W.length m := by
      unfold hse.bp.sp
      have hM := hse.mt_ok hm hl
      refine hse.pq_bq v h5 hM (hse.mb_set m W.length) _ 0 0 _ false (by omega) (by omega) (hse.fr_length m W.length) fun h hh => ?_
      have z : hse.off.sp 0 h = true := by simp [hse.off.sp]
      rw [hse.fr_get hh, z]
      constructor
      · intro hx
        exact ⟨(hse.mb_mem W.length _).2 ⟨h, hh, rfl, by simpa using hx⟩, rfl⟩
      · rintro ⟨hx, _⟩
        obtain ⟨i, _, e, o⟩ := (hse.mb_mem W.length _).1 hx
        have : h = i := by omega
        subst this
        rw [o]
        rfl
    have e0 : (hse.mb.sv m W.length).length - 0 = (hse.mb.sv m W.length).length := Nat.sub_zero _
    rw [round0, hse.fb]
    simp -implicitDefEqProofs (disch := omega) only [u1, u2, em, e0, eq, hs, hm, hst, hl, take_one, set_one, decide_eq_true, decide_eq_false, IntWalk.i64_in, beqT, beqF, bneT, bneF, nat_succ, ← Int.natCast_mul, ← Int.natCast_add, Int.toNat_natCast, Int.zero_mul, Int.zero_add, Int.add_zero, Nat.zero_add, Nat.add_zero, Nat.zero_mul, List.length_singleton, List.length_append, List.length_nil, List.length_cons, List.take_length, List.drop_zero, List.replicate_zero, List.take_nil, List.nil_append, Nat.reduceBEq, Nat.reduceMul, Nat.reduceLeDiff, eq_self, and_self, true_and, and_true, decide_true, decide_false, Bool.and_self, Bool.or_self, Bool.and_true, Bool.true_and, Bool.and_false, Bool.false_and, Bool.or_true, Bool.true_or, Bool.or_false, Bool.false_or, Bool.not_true, Bool.not_false, cond_true, cond_false]
    rw [hl] at g
    cases hc : hse.bp.sp W M W.length m
    · exact g
    · simp only [cond_true, e]
theorem runt : ∀ args v new, Rt args = some (true, v, new) → ∃ fuel, regc [2] (runFn Try.prog (orcW [⟨104, (bput.R 10)⟩] [⟨94, areHouses.R⟩, ⟨102, isAll.R⟩, ⟨86, members.R⟩]) hd Dr.std none fuel (bodyOf Try.f45) 37 [4, 5] args []) = some (v, new) := by
  intro args v new h
  unfold Rt at h
  split at h
  · rename_i W m M k
    simp only [Option.some.injEq, Prod.mk.injEq, Bool.and_eq_true, decide_eq_true_eq, Bool.not_eq_true'] at h
    obtain ⟨⟨⟨rfl, rfl, hl, h5⟩, hs, ho, hb⟩, rfl, rfl⟩ := h
    have v := hse.valid hs
    have h1 := v.h1
    have hu := hse.odr_uniq ho
    have hlI : ((M.length : Nat) : Int) = ((W.length : Nat) : Int) := by rw [hl]
    rw [hl] at hu
    have tz : M.take M.length = M := List.take_of_length_le (Nat.le_refl _)
    have hm : hse.mt.sp M = true := by
      simp only [hse.mt.sp, List.all_eq_true, Bool.and_eq_true, decide_eq_true_eq]
      exact (hse.odr_in ho).1
    obtain ⟨F, hF⟩ : ∃ F : Nat, F = 200 := ⟨200, rfl⟩
    refine ⟨F, ?_⟩
    have hp := hse.pow_le h5
    have g := loop0 W M F (by omega) v hs hm hl h5 (2 ^ W.length - 1) 1 F (by omega) (by omega) (by omega)
    have eb : decide (hse.fb (hse.bp.sp W M W.length) (2 ^ W.length - 1) 1 < 2 ^ W.length) = hse.hb.sp W M := rfl
    have em : hse.fb (hse.bp.sp W M W.length) (2 ^ W.length - 1) 1 = hse.bm W M := rfl
    rw [eb, hb, em] at g
    rw [start]
    simp -implicitDefEqProofs (disch := omega) only [hs, hu, hlI, tz, take_one, set_one, decide_eq_true, decide_eq_false, IntWalk.i64_in, beqT, beqF, bneT, bneF, nat_succ, ← Int.natCast_mul, ← Int.natCast_add, Int.toNat_natCast, Int.zero_mul, Int.zero_add, Int.add_zero, Nat.zero_add, Nat.add_zero, Nat.zero_mul, List.length_singleton, List.length_append, List.length_nil, List.length_cons, List.take_length, List.drop_zero, List.replicate_zero, List.take_nil, List.nil_append, Nat.reduceBEq, Nat.reduceMul, Nat.reduceLeDiff, eq_self, and_self, true_and, and_true, decide_true, decide_false, Bool.and_self, Bool.or_self, Bool.and_true, Bool.true_and, Bool.and_false, Bool.false_and, Bool.or_true, Bool.true_or, Bool.or_false, Bool.false_or, Bool.not_true, Bool.not_false, cond_true, cond_false]
    have ev : hse.hb.sv W M = hse.mb.sv (hse.bm W M) W.length := by unfold hse.hb.sv; rw [hb]; rfl
    rw [ev]
    exact (congrArg (regc [2]) g).trans rfl
  · cases h
theorem okt : EntOk Try.prog ⟨45, Rt⟩ :=
  ent_okAG (ks := [2]) mixed (A := (orcW [⟨104, (bput.R 10)⟩] [⟨94, areHouses.R⟩, ⟨102, isAll.R⟩, ⟨86, members.R⟩])) (orcW_ok (by simp only [List.mem_cons, List.not_mem_nil, or_false, forall_eq_or_imp, forall_eq]; exact (bput.ok 10)) (by simp only [List.mem_cons, List.not_mem_nil, or_false, forall_eq_or_imp, forall_eq]; exact ⟨areHouses.ok, isAll.ok, members.ok⟩)) Try.func45 (by kernel_rfl) (by kernel_rfl) (n := 37) (ts := [4, 5]) (hd := hd) (dr := Dr.std) (cut := none) (by kernel_rfl) (by kernel_rfl) (by kernel_rfl) runt
theorem runf : ∀ args v new, Rf args = some (true, v, new) → ∃ fuel, regc [] (runFn Try.prog (orcW [⟨104, (bput.R 10)⟩] [⟨94, areHouses.R⟩, ⟨102, isAll.R⟩, ⟨86, members.R⟩]) hd Dr.std none fuel (bodyOf Try.f45) 37 [4, 5] args []) = some (v, new) := by
  intro args v new h
  unfold Rf at h
  split at h
  · rename_i W m M k
    simp only [Option.some.injEq, Prod.mk.injEq, Bool.and_eq_true, decide_eq_true_eq, Bool.not_eq_true'] at h
    obtain ⟨⟨⟨rfl, rfl, hl, h5⟩, hs, ho, hb⟩, rfl, rfl⟩ := h
    have v := hse.valid hs
    have h1 := v.h1
    have hu := hse.odr_uniq ho
    have hlI : ((M.length : Nat) : Int) = ((W.length : Nat) : Int) := by rw [hl]
    rw [hl] at hu
    have tz : M.take M.length = M := List.take_of_length_le (Nat.le_refl _)
    have hm : hse.mt.sp M = true := by
      simp only [hse.mt.sp, List.all_eq_true, Bool.and_eq_true, decide_eq_true_eq]
      exact (hse.odr_in ho).1
    obtain ⟨F, hF⟩ : ∃ F : Nat, F = 200 := ⟨200, rfl⟩
    refine ⟨F, ?_⟩
    have hp := hse.pow_le h5
    have g := loop0 W M F (by omega) v hs hm hl h5 (2 ^ W.length - 1) 1 F (by omega) (by omega) (by omega)
    have eb : decide (hse.fb (hse.bp.sp W M W.length) (2 ^ W.length - 1) 1 < 2 ^ W.length) = hse.hb.sp W M := rfl
    have em : hse.fb (hse.bp.sp W M W.length) (2 ^ W.length - 1) 1 = hse.bm W M := rfl
    rw [eb, hb, em] at g
    rw [start]
    simp -implicitDefEqProofs (disch := omega) only [hs, hu, hlI, tz, take_one, set_one, decide_eq_true, decide_eq_false, IntWalk.i64_in, beqT, beqF, bneT, bneF, nat_succ, ← Int.natCast_mul, ← Int.natCast_add, Int.toNat_natCast, Int.zero_mul, Int.zero_add, Int.add_zero, Nat.zero_add, Nat.add_zero, Nat.zero_mul, List.length_singleton, List.length_append, List.length_nil, List.length_cons, List.take_length, List.drop_zero, List.replicate_zero, List.take_nil, List.nil_append, Nat.reduceBEq, Nat.reduceMul, Nat.reduceLeDiff, eq_self, and_self, true_and, and_true, decide_true, decide_false, Bool.and_self, Bool.or_self, Bool.and_true, Bool.true_and, Bool.and_false, Bool.false_and, Bool.or_true, Bool.true_or, Bool.or_false, Bool.false_or, Bool.not_true, Bool.not_false, cond_true, cond_false]
    exact (congrArg (regc []) g).trans rfl
  · cases h
theorem okf : EntOk Try.prog ⟨45, Rf⟩ :=
  ent_okAG (ks := []) mixed (A := (orcW [⟨104, (bput.R 10)⟩] [⟨94, areHouses.R⟩, ⟨102, isAll.R⟩, ⟨86, members.R⟩])) (orcW_ok (by simp only [List.mem_cons, List.not_mem_nil, or_false, forall_eq_or_imp, forall_eq]; exact (bput.ok 10)) (by simp only [List.mem_cons, List.not_mem_nil, or_false, forall_eq_or_imp, forall_eq]; exact ⟨areHouses.ok, isAll.ok, members.ok⟩)) Try.func45 (by kernel_rfl) (by kernel_rfl) (n := 37) (ts := [4, 5]) (hd := hd) (dr := Dr.std) (cut := none) (by kernel_rfl) (by kernel_rfl) (by kernel_rfl) runf
end iHouseBlock

namespace iHouseBlockE
def R (args : List AVal) : Option (Bool × AVal) := match args with
  | [.ro (.rows .i64 W) m 1, .ro (.ints .i64 M) k 1] => some (decide (m = W.length ∧ k = M.length ∧ M.length = W.length ∧ W.length ≤ 5) && (hse.sp W && hse.odr.sp M), .tup [.ro (.ints .i64 (hse.hb.sv W M)) (hse.hb.sv W M).length 1, .bool (hse.hb.sp W M)])
  | _ => none
theorem ok : EntFOk Try.prog ⟨45, R⟩ := by
  refine EntFOk.cases iHouseBlock.okt.nro iHouseBlock.okf.nro fun args v h => ?_
  unfold R at h
  split at h
  · rename_i W m M k
    simp only [Option.some.injEq, Prod.mk.injEq, Bool.and_eq_true, decide_eq_true_eq] at h
    obtain ⟨⟨h1, h2, h3⟩, rfl⟩ := h
    cases hb : hse.hb.sp W M
    · right
      have ev : hse.hb.sv W M = [] := by unfold hse.hb.sv; rw [hb]; rfl
      have e : iHouseBlock.Rf [.ro (.rows .i64 W) m 1, .ro (.ints .i64 M) k 1] = some (true, .tup [.nils, .bool false], []) := by
        simp only [iHouseBlock.Rf, h1, h2, h3, hb, and_self, decide_true, Bool.and_self, Bool.not_false]
      unfold layN layF
      rw [e, ev]
      rfl
    · left
      have e : iHouseBlock.Rt [.ro (.rows .i64 W) m 1, .ro (.ints .i64 M) k 1] = some (true, .tup [.own 0 0 (hse.hb.sv W M).length 0 1, .bool true], [⟨.typ (.ints .i64 (hse.hb.sv W M)), 0⟩]) := by
        simp only [iHouseBlock.Rt, h1, h2, h3, hb, and_self, decide_true, Bool.and_self]
      unfold layN layF
      rw [e]
      rfl
  · cases h
end iHouseBlockE

end Go.Proofs.Ytkoongajnnaeoaa.Ab
