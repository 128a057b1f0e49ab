/-
  Functions: worse columns.
-/
import Derived.Test.YtfbalfhekldkbaaFnGG
namespace Go.Proofs.Ytfbalfhekldkbaa.Ab
open Go
set_option linter.unusedVariables false
set_option linter.unusedSimpArgs false
set_option maxRecDepth 100000

namespace iWorseColumns_t
def R : List AVal → Option (Bool × AVal × List Blk)
  | [.agg [.int .i64 r, .int .i64 c, .ro (.ints .i64 xs) ma 1, .ro (.ints .i64 ys) mb 1]] => some (decide (ma = xs.length ∧ mb = ys.length ∧ ma ≤ 4611686018427387904 ∧ mb ≤ 4611686018427387904) && gm.sp r c xs ys, .tup [.own 0 0 (wr.sv c.toNat r.toNat (tn.sv r.toNat c.toNat ys)).length 0 1, .bool true], [⟨.typ (.ints .i64 (wr.sv c.toNat r.toNat (tn.sv r.toNat c.toNat ys))), 0⟩])
  | _ => none
theorem go (r c : Int) (xs ys : List Int) :
  regc [3] (runFn Try.prog (orc [⟨13, iValidGame.R⟩, ⟨29, gTurned.R⟩, ⟨31, gWorse.R⟩]) hd0 Dr.std none 0 (bodyOf Try.f11) 10 [2, 3] [.agg [.int .i64 r, .int .i64 c, .ro (.ints .i64 xs) xs.length 1, .ro (.ints .i64 ys) ys.length 1]] [])
  = (match bif true && true && (true && true && (true && true && (true && true && true))) then bif decide (xs.length = xs.length ∧ ys.length = ys.length ∧ xs.length ≤ (4611686018427387904 : Nat) ∧ ys.length ≤ (4611686018427387904 : Nat)) && (true && (true && (true && (true && true))) && true || true && true) then bif !gm.sp r c xs ys then some (AVal.tup [AVal.nils, AVal.bool false], [{ c := BC.cells [AVal.int IntKind.i64 r, AVal.int IntKind.i64 c, AVal.ro (Cont.ints IntKind.i64 xs) xs.length (1 : Nat), AVal.ro (Cont.ints IntKind.i64 ys) ys.length (1 : Nat)], ver := (0 : Nat) }]) else bif true && true && (true && true && (true && true && (true && true && true))) then bif decide (xs.length = xs.length ∧ ys.length = ys.length) && gm.sp r c xs ys && (true && (true && (true && (true && true))) && true || true && (true && (true && (true && true))) && (true && (true && true))) then bif decide ((c * r).toNat = (tn.sv r.toNat c.toNat ys).length ∧ (c * r).toNat = (tn.sv r.toNat c.toNat xs).length) && gm.sp c r (tn.sv r.toNat c.toNat ys) (tn.sv r.toNat c.toNat xs) && (true && (true && (false && (false && true))) && true || true && (true && true)) then some (AVal.tup [AVal.own ((1 : Nat) + (1 : Nat) + (1 : Nat) + (0 : Nat)) (0 : Nat) (wr.sv c.toNat r.toNat (tn.sv r.toNat c.toNat ys)).length (0 : Nat) (1 : Nat), AVal.bool true], [{ c := BC.cells [AVal.int IntKind.i64 r, AVal.int IntKind.i64 c, AVal.ro (Cont.ints IntKind.i64 xs) xs.length (1 : Nat), AVal.ro (Cont.ints IntKind.i64 ys) ys.length (1 : Nat)], ver := (0 : Nat) }, { c := BC.typ (Cont.ints IntKind.i64 (tn.sv r.toNat c.toNat ys)), ver := (0 : Nat) }, { c := BC.typ (Cont.ints IntKind.i64 (tn.sv r.toNat c.toNat xs)), ver := (0 : Nat) }, { c := BC.typ (Cont.ints IntKind.i64 (wr.sv c.toNat r.toNat (tn.sv r.toNat c.toNat ys))), ver := (0 : Nat) }]) else none else none else none else none else none with
| some (v, h) =>
  bif true && (ltN (3 : Nat) (hlen h) && true) then
    some
      (AVal.re [(3 : Nat)] h v,
        match nth h (3 : Nat) with
        | some b => { c := BC.re [(3 : Nat)] h b.c, ver := b.ver } :: reB [(3 : Nat)] h []
        | none => { c := BC.cells [], ver := (0 : Nat) } :: reB [(3 : Nat)] h [])
  else none
| none => none) := by kernel_rfl
theorem run : ∀ args v new, R args = some (true, v, new) → ∃ fuel, regc [3] (runFn Try.prog (orc [⟨13, iValidGame.R⟩, ⟨29, gTurned.R⟩, ⟨31, gWorse.R⟩]) hd0 Dr.std none fuel (bodyOf Try.f11) 10 [2, 3] args []) = some (v, new) := by
  intro args v new h
  unfold R at h
  split at h
  · rename_i r c xs ma ys mb
    simp only [Option.some.injEq, Prod.mk.injEq, Bool.and_eq_true, decide_eq_true_eq, Bool.not_eq_true'] at h
    obtain ⟨⟨⟨rfl, rfl, h3, h4⟩, hv⟩, rfl, rfl⟩ := h
    have hv2 := hv
    obtain ⟨r, c, rfl, rfl, hr, hc, hx, hy, vx, vy⟩ := gm.valid hv2
    have t1 : (tn.sv r c ys).length = c * r := tn.sv_length _ _ _
    have t2 : (tn.sv r c xs).length = c * r := tn.sv_length _ _ _
    have t3 : gm.sp (c : Int) (r : Int) (tn.sv r c ys) (tn.sv r c xs) = true := tn.valid hr hc hx hy vx vy
    have e : ((c : Int) * (r : Int)).toNat = c * r := by
      have : (c : Int) * (r : Int) = ((c * r : Nat) : Int) := by simp
      rw [this]; rfl
    have h36 := gm.le_36 hc.2 hr.2
    have t4 : c * r ≤ 4611686018427387904 := by omega
    have t5 : (tn.sv r c ys).take (c * r) = tn.sv r c ys := List.take_of_length_le (by omega)
    have t6 : (tn.sv r c xs).take (c * r) = tn.sv r c xs := List.take_of_length_le (by omega)
    refine ⟨0, ?_⟩
    rw [go]
    simp only [Int.toNat_natCast, e, t1, t2, t3, t4, t5, t6, h3, h4, hv, Nat.le_refl, and_self, eq_self, decide_true, decide_false, Bool.and_self, Bool.or_self, Bool.and_true, Bool.true_and, Bool.and_false, Bool.false_and, Bool.or_true, Bool.true_or, Bool.or_false, Bool.false_or, Bool.not_true, Bool.not_false, cond_true, cond_false]
    try rfl
  · cases h
theorem ok : EntOk Try.prog ⟨11, R⟩ :=
  ent_okAG (ks := [3]) mixed (A := (orc [⟨13, iValidGame.R⟩, ⟨29, gTurned.R⟩, ⟨31, gWorse.R⟩])) (orc_ok (by simp only [List.mem_cons, List.not_mem_nil, or_false, forall_eq_or_imp, forall_eq]; exact ⟨iValidGame.ok, gTurned.ok, gWorse.ok⟩)) Try.func11 (by kernel_rfl) (by kernel_rfl) (n := 10) (ts := [2, 3]) (hd := hd0) (dr := Dr.std) (cut := none) (by kernel_rfl) (by kernel_rfl) (by kernel_rfl) run
end iWorseColumns_t

namespace iWorseColumns_f
def R : List AVal → Option (Bool × AVal × List Blk)
  | [.agg [.int .i64 r, .int .i64 c, .ro (.ints .i64 xs) ma 1, .ro (.ints .i64 ys) mb 1]] => some (decide (ma = xs.length ∧ mb = ys.length ∧ ma ≤ 4611686018427387904 ∧ mb ≤ 4611686018427387904) && !gm.sp r c xs ys, .tup [.nils, .bool false], [])
  | _ => none
theorem go (r c : Int) (xs ys : List Int) :
  runFn Try.prog (orc [⟨13, iValidGame.R⟩]) hd0 Dr.std (some 0) 0 (bodyOf Try.f11) 10 [2, 3] [.agg [.int .i64 r, .int .i64 c, .ro (.ints .i64 xs) xs.length 1, .ro (.ints .i64 ys) ys.length 1]] []
  = (bif true && true && (true && true && (true && true && (true && true && true))) then bif decide (xs.length = xs.length ∧ ys.length = ys.length ∧ xs.length ≤ (4611686018427387904 : Nat) ∧ ys.length ≤ (4611686018427387904 : Nat)) && (true && (true && (true && (true && true))) && true || true && true) then bif !gm.sp r c xs ys then some (AVal.tup [AVal.nils, AVal.bool false], []) else bif true && true && (true && true && (true && true && (true && true && true))) then none else none else none else none) := by kernel_rfl
theorem run : ∀ args v new, R args = some (true, v, new) → ∃ fuel, runFn Try.prog (orc [⟨13, iValidGame.R⟩]) hd0 Dr.std (some 0) fuel (bodyOf Try.f11) 10 [2, 3] args [] = some (v, new) := by
  intro args v new h
  unfold R at h
  split at h
  · rename_i r c xs ma ys mb
    simp only [Option.some.injEq, Prod.mk.injEq, Bool.and_eq_true, decide_eq_true_eq, Bool.not_eq_true'] at h
    obtain ⟨⟨⟨rfl, rfl, h3, h4⟩, hv⟩, rfl, rfl⟩ := h
    refine ⟨0, ?_⟩
    rw [go]
    simp only [h3, h4, hv, and_self, eq_self, decide_true, decide_false, Bool.and_self, Bool.or_self, Bool.and_true, Bool.true_and, Bool.and_false, Bool.false_and, Bool.or_true, Bool.true_or, Bool.or_false, Bool.false_or, Bool.not_true, Bool.not_false, cond_true, cond_false]
  · cases h
theorem ok : EntOk Try.prog ⟨11, R⟩ :=
  ent_okA mixed (A := (orc [⟨13, iValidGame.R⟩])) (orc_ok (by simp only [List.mem_cons, List.not_mem_nil, or_false, forall_eq_or_imp, forall_eq]; exact iValidGame.ok)) Try.func11 (by kernel_rfl) (by kernel_rfl) (n := 10) (ts := [2, 3]) (hd := hd0) (dr := Dr.std) (cut := (some 0)) (by kernel_rfl) (by kernel_rfl) (by kernel_rfl) run
end iWorseColumns_f

namespace iWorseColumns
def Rt := iWorseColumns_t.R
def Rf := iWorseColumns_f.R
theorem okt : EntOk Try.prog ⟨11, Rt⟩ := iWorseColumns_t.ok
theorem okf : EntOk Try.prog ⟨11, Rf⟩ := iWorseColumns_f.ok
end iWorseColumns







end Go.Proofs.Ytfbalfhekldkbaa.Ab
