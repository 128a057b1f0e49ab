/-
  Functions: games of two rows and two columns.
-/
import Derived.Test.YtnakiceojcomlaaFnGP
namespace Go.Proofs.Ytnakiceojcomlaa.Ab
open Go
set_option linter.unusedVariables false
set_option linter.unusedSimpArgs false
set_option maxRecDepth 100000

namespace ev
/-- The chance of the first row with which both columns gain as much; four gains, row by row. -/
def n (l : List Int) : Int := gz l 3 - gz l 2
def d (l : List Int) : Int := gz l 0 - gz l 2 - gz l 1 + gz l 3
def p.sv (l : List Int) : Int := rd.p.sv (ev.n l) (ev.d l)
def q.sv (l : List Int) : Int := rd.q.sv (ev.n l) (ev.d l)
def ok.sp (l : List Int) : Bool := (ev.d l != 0) && (decide (0 ≤ ev.p.sv l) && decide (ev.p.sv l ≤ ev.q.sv l))
theorem d_spec (l : List Int) : gz l 0 - gz l 1 - gz l 2 + gz l 3 = ev.d l := by unfold d; omega
end ev
namespace tb
def pn.sp (r c : Int) (xs ys : List Int) : Bool := decide ((pu.sv r.toNat c.toNat xs ys).length = 0)
def sp (r c : Int) (xs ys : List Int) : Bool := (((gm.sp r c xs ys && (r == 2)) && (c == 2)) && tb.pn.sp r c xs ys) && (ev.ok.sp ys && ev.ok.sp (tn.sv 2 2 xs))
def l.sv (xs ys : List Int) : List Int := [ev.p.sv ys, ev.q.sv ys, ev.p.sv (tn.sv 2 2 xs), ev.q.sv (tn.sv 2 2 xs)]
theorem tn4 (xs : List Int) : gz (tn.sv 2 2 xs) 0 = gz xs 0 ∧ gz (tn.sv 2 2 xs) 1 = gz xs 2 ∧ gz (tn.sv 2 2 xs) 2 = gz xs 1 ∧ gz (tn.sv 2 2 xs) 3 = gz xs 3 := by
  have h := fun k i (hk : k < 2) (hi : i < 2) => tn.sv_get (r := 2) (c := 2) (xs := xs) (k := k) (i := i) hk hi
  exact ⟨h 0 0 (by omega) (by omega), h 0 1 (by omega) (by omega), h 1 0 (by omega) (by omega), h 1 1 (by omega) (by omega)⟩
theorem four {α : Type} (z a b c d : α) : ((((List.replicate 4 z).set 0 a).set 1 b).set 2 c).set 3 d = [a, b, c, d] := rfl
end tb

namespace gEven
def dr : Nat → Dr := fun i => bif eqN i 1 then ⟨some [0, 2, 5, 7, 10, 13, 1, 3, 4, 6, 8, 9, 11, 12, 14, 15, 16, 17, 18, 19, 20, 21, 22, 23], false⟩ else ⟨none, false⟩
def R : List AVal → Option (Bool × AVal × List Blk)
  | [.agg [.int .i64 r, .int .i64 c, .ro (.ints .i64 xs) ma 1, .ro (.ints .i64 ys) mb 1]] => some (decide (ma = xs.length ∧ mb = ys.length ∧ r = 2 ∧ c = 2) && gm.sp r c xs ys, .tup [.int .i64 (ev.p.sv ys), .int .i64 (ev.q.sv ys), .bool (ev.ok.sp ys)], [])
  | _ => none
theorem go (r c : Int) (xs ys : List Int) :
  runFn Try.prog (orc [⟨66, gB.R⟩, ⟨95, reduced.R⟩, ⟨69, within.R⟩]) hd0 dr (some 0) 0 (bodyOf Try.f78) 37 [2, 3, 4] [.agg [.int .i64 r, .int .i64 c, .ro (.ints .i64 xs) xs.length 1, .ro (.ints .i64 ys) ys.length 1]] []
  = (bif true && true && (true && true && (true && true && (true && true && true))) then bif true && true && (true && true && (true && true && (true && true && true))) then bif true && true && (true && true && (true && true && (true && true && true))) then bif true && true && (true && true && (true && true && (true && true && true))) then bif true && true && (true && true && (true && true && (true && true && true))) then bif true && true && (true && true && (true && true && (true && true && true))) then bif decide (xs.length = xs.length ∧ ys.length = ys.length ∧ (0 : Int) ≤ (1 : Int) ∧ (0 : Int) ≤ (1 : Int) ∧ (1 : Int) ≤ (100 : Int) ∧ (1 : Int) ≤ (100 : Int) ∧ (0 : Int) ≤ c ∧ c ≤ (100 : Int) ∧ (1 : Int) * c + (1 : Int) < (↑ys.length : Int)) && (true && (true && (true && (true && true))) && true || true && true) then bif decide (xs.length = xs.length ∧ ys.length = ys.length ∧ (0 : Int) ≤ (1 : Int) ∧ (0 : Int) ≤ (0 : Int) ∧ (1 : Int) ≤ (100 : Int) ∧ (0 : Int) ≤ (100 : Int) ∧ (0 : Int) ≤ c ∧ c ≤ (100 : Int) ∧ (1 : Int) * c + (0 : Int) < (↑ys.length : Int)) && (true && (true && (true && (true && true))) && true || true && true) then bif decide (xs.length = xs.length ∧ ys.length = ys.length ∧ (0 : Int) ≤ (0 : Int) ∧ (0 : Int) ≤ (0 : Int) ∧ (0 : Int) ≤ (100 : Int) ∧ (0 : Int) ≤ (100 : Int) ∧ (0 : Int) ≤ c ∧ c ≤ (100 : Int) ∧ (0 : Int) * c + (0 : Int) < (↑ys.length : Int)) && (true && (true && (true && (true && true))) && true || true && true) then bif decide (xs.length = xs.length ∧ ys.length = ys.length ∧ (0 : Int) ≤ (1 : Int) ∧ (0 : Int) ≤ (0 : Int) ∧ (1 : Int) ≤ (100 : Int) ∧ (0 : Int) ≤ (100 : Int) ∧ (0 : Int) ≤ c ∧ c ≤ (100 : Int) ∧ (1 : Int) * c + (0 : Int) < (↑ys.length : Int)) && (true && (true && (true && (true && true))) && true || true && true) then bif decide (xs.length = xs.length ∧ ys.length = ys.length ∧ (0 : Int) ≤ (0 : Int) ∧ (0 : Int) ≤ (1 : Int) ∧ (0 : Int) ≤ (100 : Int) ∧ (1 : Int) ≤ (100 : Int) ∧ (0 : Int) ≤ c ∧ c ≤ (100 : Int) ∧ (0 : Int) * c + (1 : Int) < (↑ys.length : Int)) && (true && (true && (true && (true && true))) && true || true && true) then bif decide (xs.length = xs.length ∧ ys.length = ys.length ∧ (0 : Int) ≤ (1 : Int) ∧ (0 : Int) ≤ (1 : Int) ∧ (1 : Int) ≤ (100 : Int) ∧ (1 : Int) ≤ (100 : Int) ∧ (0 : Int) ≤ c ∧ c ≤ (100 : Int) ∧ (1 : Int) * c + (1 : Int) < (↑ys.length : Int)) && (true && (true && (true && (true && true))) && true || true && true) then bif decide ((-5000 : Int) ≤ IntKind.i64.wrap (gz ys ((1 : Int) * c + (1 : Int)).toNat - gz ys ((1 : Int) * c + (0 : Int)).toNat) ∧ IntKind.i64.wrap (gz ys ((1 : Int) * c + (1 : Int)).toNat - gz ys ((1 : Int) * c + (0 : Int)).toNat) ≤ (5000 : Int) ∧ (-5000 : Int) ≤ IntKind.i64.wrap (IntKind.i64.wrap (IntKind.i64.wrap (gz ys ((0 : Int) * c + (0 : Int)).toNat - gz ys ((1 : Int) * c + (0 : Int)).toNat) - gz ys ((0 : Int) * c + (1 : Int)).toNat) + gz ys ((1 : Int) * c + (1 : Int)).toNat) ∧ IntKind.i64.wrap (IntKind.i64.wrap (IntKind.i64.wrap (gz ys ((0 : Int) * c + (0 : Int)).toNat - gz ys ((1 : Int) * c + (0 : Int)).toNat) - gz ys ((0 : Int) * c + (1 : Int)).toNat) + gz ys ((1 : Int) * c + (1 : Int)).toNat) ≤ (5000 : Int)) && (true && (true && true) || true && (true && (true && true)) && true) then bif IntKind.i64.wrap (IntKind.i64.wrap (IntKind.i64.wrap (gz ys ((0 : Int) * c + (0 : Int)).toNat - gz ys ((1 : Int) * c + (0 : Int)).toNat) - gz ys ((0 : Int) * c + (1 : Int)).toNat) + gz ys ((1 : Int) * c + (1 : Int)).toNat) != (0 : Int) then bif true && (true && (true && (true && true)) || true && true) then some (AVal.tup [AVal.int IntKind.i64 (rd.p.sv (IntKind.i64.wrap (gz ys ((1 : Int) * c + (1 : Int)).toNat - gz ys ((1 : Int) * c + (0 : Int)).toNat)) (IntKind.i64.wrap (IntKind.i64.wrap (IntKind.i64.wrap (gz ys ((0 : Int) * c + (0 : Int)).toNat - gz ys ((1 : Int) * c + (0 : Int)).toNat) - gz ys ((0 : Int) * c + (1 : Int)).toNat) + gz ys ((1 : Int) * c + (1 : Int)).toNat))), AVal.int IntKind.i64 (rd.q.sv (IntKind.i64.wrap (gz ys ((1 : Int) * c + (1 : Int)).toNat - gz ys ((1 : Int) * c + (0 : Int)).toNat)) (IntKind.i64.wrap (IntKind.i64.wrap (IntKind.i64.wrap (gz ys ((0 : Int) * c + (0 : Int)).toNat - gz ys ((1 : Int) * c + (0 : Int)).toNat) - gz ys ((0 : Int) * c + (1 : Int)).toNat) + gz ys ((1 : Int) * c + (1 : Int)).toNat))), AVal.bool (decide ((0 : Int) ≤ rd.p.sv (IntKind.i64.wrap (gz ys ((1 : Int) * c + (1 : Int)).toNat - gz ys ((1 : Int) * c + (0 : Int)).toNat)) (IntKind.i64.wrap (IntKind.i64.wrap (IntKind.i64.wrap (gz ys ((0 : Int) * c + (0 : Int)).toNat - gz ys ((1 : Int) * c + (0 : Int)).toNat) - gz ys ((0 : Int) * c + (1 : Int)).toNat) + gz ys ((1 : Int) * c + (1 : Int)).toNat))) && decide (rd.p.sv (IntKind.i64.wrap (gz ys ((1 : Int) * c + (1 : Int)).toNat - gz ys ((1 : Int) * c + (0 : Int)).toNat)) (IntKind.i64.wrap (IntKind.i64.wrap (IntKind.i64.wrap (gz ys ((0 : Int) * c + (0 : Int)).toNat - gz ys ((1 : Int) * c + (0 : Int)).toNat) - gz ys ((0 : Int) * c + (1 : Int)).toNat) + gz ys ((1 : Int) * c + (1 : Int)).toNat)) ≤ rd.q.sv (IntKind.i64.wrap (gz ys ((1 : Int) * c + (1 : Int)).toNat - gz ys ((1 : Int) * c + (0 : Int)).toNat)) (IntKind.i64.wrap (IntKind.i64.wrap (IntKind.i64.wrap (gz ys ((0 : Int) * c + (0 : Int)).toNat - gz ys ((1 : Int) * c + (0 : Int)).toNat) - gz ys ((0 : Int) * c + (1 : Int)).toNat) + gz ys ((1 : Int) * c + (1 : Int)).toNat))))], []) else none else some (AVal.tup [AVal.int IntKind.i64 (rd.p.sv (IntKind.i64.wrap (gz ys ((1 : Int) * c + (1 : Int)).toNat - gz ys ((1 : Int) * c + (0 : Int)).toNat)) (IntKind.i64.wrap (IntKind.i64.wrap (IntKind.i64.wrap (gz ys ((0 : Int) * c + (0 : Int)).toNat - gz ys ((1 : Int) * c + (0 : Int)).toNat) - gz ys ((0 : Int) * c + (1 : Int)).toNat) + gz ys ((1 : Int) * c + (1 : Int)).toNat))), AVal.int IntKind.i64 (rd.q.sv (IntKind.i64.wrap (gz ys ((1 : Int) * c + (1 : Int)).toNat - gz ys ((1 : Int) * c + (0 : Int)).toNat)) (IntKind.i64.wrap (IntKind.i64.wrap (IntKind.i64.wrap (gz ys ((0 : Int) * c + (0 : Int)).toNat - gz ys ((1 : Int) * c + (0 : Int)).toNat) - gz ys ((0 : Int) * c + (1 : Int)).toNat) + gz ys ((1 : Int) * c + (1 : Int)).toNat))), AVal.bool false], []) else none else none else none else none else none else none else none else none else none else none else none else none else none) := by kernel_rfl
theorem run : ∀ args v new, R args = some (true, v, new) → ∃ fuel, runFn Try.prog (orc [⟨66, gB.R⟩, ⟨95, reduced.R⟩, ⟨69, within.R⟩]) hd0 dr (some 0) fuel (bodyOf Try.f78) 37 [2, 3, 4] args [] = some (v, new) := by
  intro args v new h
  unfold R at h
  split at h
  · rename_i r c xs ma ys mb
    simp only [Option.some.injEq, Prod.mk.injEq, Bool.and_eq_true, decide_eq_true_eq, Bool.not_eq_true'] at h
    obtain ⟨⟨⟨rfl, rfl, hr2, hc2⟩, hv⟩, rfl, rfl⟩ := h
    obtain ⟨r', c', hr', hc', hr, hc, hx, hy, vx, vy⟩ := gm.valid hv
    have er : r' = 2 := by omega
    have ec : c' = 2 := by omega
    subst er ec
    have l4 : ys.length = 4 := by omega
    have bnd : ∀ i, i < 4 → -1000 ≤ gz ys i ∧ gz ys i ≤ 1000 := fun i hi => by
      rw [gz_eq (by omega)]; exact vy _ (List.getElem_mem _)
    have y0 := bnd 0 (by omega)
    have y1 := bnd 1 (by omega)
    have y2 := bnd 2 (by omega)
    have y3 := bnd 3 (by omega)
    have l4' : (ys.length : Int) = 4 := by omega
    have w1 : IntKind.i64.wrap (gz ys 3 - gz ys 2) = ev.n ys := by rw [IntWalk.i64_in _ (by omega)]; rfl
    have w2 : IntKind.i64.wrap (gz ys 0 - gz ys 2) = gz ys 0 - gz ys 2 := IntWalk.i64_in _ (by omega)
    have w3 : IntKind.i64.wrap (gz ys 0 - gz ys 2 - gz ys 1) = gz ys 0 - gz ys 2 - gz ys 1 := IntWalk.i64_in _ (by omega)
    have w4 : IntKind.i64.wrap (gz ys 0 - gz ys 2 - gz ys 1 + gz ys 3) = ev.d ys := by rw [IntWalk.i64_in _ (by omega)]; rfl
    have n1 : -5000 ≤ ev.n ys := by unfold ev.n; omega
    have n2 : ev.n ys ≤ 5000 := by unfold ev.n; omega
    have d1 : -5000 ≤ ev.d ys := by unfold ev.d; omega
    have d2 : ev.d ys ≤ 5000 := by unfold ev.d; omega
    have i1 : ((1 : Int) * 2 + 1).toNat = 3 := rfl
    have i2 : ((1 : Int) * 2 + 0).toNat = 2 := rfl
    have i3 : ((0 : Int) * 2 + 0).toNat = 0 := rfl
    have i4 : ((0 : Int) * 2 + 1).toNat = 1 := rfl
    have j1 : ((1 : Int) * 2 + 1 < 4) = True := by simp
    have j2 : ((1 : Int) * 2 + 0 < 4) = True := by simp
    have j3 : ((0 : Int) * 2 + 0 < 4) = True := by simp
    have j4 : ((0 : Int) * 2 + 1 < 4) = True := by simp
    have z1 : ((0 : Int) ≤ 1) = True := by simp
    have z2 : ((1 : Int) ≤ 100) = True := by simp
    have z3 : ((0 : Int) ≤ 100) = True := by simp
    have z4 : ((0 : Int) ≤ 2) = True := by simp
    have z5 : ((2 : Int) ≤ 100) = True := by simp
    subst hr2 hc2
    refine ⟨0, ?_⟩
    rw [go]
    simp -implicitDefEqProofs only [l4', i1, i2, i3, i4, j1, j2, j3, j4, z1, z2, z3, z4, z5, w1, w2, w3, w4, n1, n2, d1, d2, Int.le_refl, and_self, eq_self, ev.p.sv, ev.q.sv, ev.ok.sp, decide_true, decide_false, Bool.and_self, Bool.or_self, Bool.and_true, Bool.true_and, Bool.and_false, Bool.false_and, Bool.or_true, Bool.true_or, Bool.or_false, Bool.false_or, Bool.not_true, Bool.not_false, cond_true, cond_false]
    cases (ev.d ys != 0) <;> rfl
  · cases h
theorem ok : EntOk Try.prog ⟨78, R⟩ :=
  ent_okA mixed (A := (orc [⟨66, gB.R⟩, ⟨95, reduced.R⟩, ⟨69, within.R⟩])) (orc_ok (by simp only [List.mem_cons, List.not_mem_nil, or_false, forall_eq_or_imp, forall_eq]; exact ⟨gB.ok, reduced.ok, within.ok⟩)) Try.func78 (by kernel_rfl) (by kernel_rfl) (n := 37) (ts := [2, 3, 4]) (hd := hd0) (dr := dr) (cut := (some 0)) (by kernel_rfl) (by kernel_rfl) (by kernel_rfl) run
end gEven

namespace iTwoByTwo_t
def R : List AVal → Option (Bool × AVal × List Blk)
  | [.agg [.int .i64 r, .int .i64 c, .ro (.ints .i64 xs) ma 1, .ro (.ints .i64 ys) mb 1]] => some (decide (ma = xs.length ∧ mb = ys.length ∧ ma ≤ 4611686018427387904 ∧ mb ≤ 4611686018427387904) && tb.sp r c xs ys, .tup [.own 0 0 (tb.l.sv xs ys).length 0 1, .bool true], [⟨.typ (.ints .i64 (tb.l.sv xs ys)), 0⟩])
  | _ => none
theorem go (r c : Int) (xs ys : List Int) :
  regc [4] (runFn Try.prog (orc [⟨52, iValidGame.R⟩, ⟨61, gPure.R⟩, ⟨78, gEven.R⟩, ⟨53, gTurned.R⟩]) hd0 Dr.std none 0 (bodyOf Try.f36) 53 [2, 3] [.agg [.int .i64 r, .int .i64 c, .ro (.ints .i64 xs) xs.length 1, .ro (.ints .i64 ys) ys.length 1]] [])
  = (match bif true && true && (true && true && (true && true && (true && true && true))) then bif decide (xs.length = xs.length ∧ ys.length = ys.length ∧ xs.length ≤ (4611686018427387904 : Nat) ∧ ys.length ≤ (4611686018427387904 : Nat)) && (true && (true && (true && (true && true))) && true || true && true) then bif !gm.sp r c xs ys then some (AVal.tup [AVal.nils, AVal.bool false], [{ c := BC.cells [AVal.int IntKind.i64 r, AVal.int IntKind.i64 c, AVal.ro (Cont.ints IntKind.i64 xs) xs.length (1 : Nat), AVal.ro (Cont.ints IntKind.i64 ys) ys.length (1 : Nat)], ver := (0 : Nat) }]) else bif true && true then bif r != (2 : Int) then some (AVal.tup [AVal.nils, AVal.bool false], [{ c := BC.cells [AVal.int IntKind.i64 r, AVal.int IntKind.i64 c, AVal.ro (Cont.ints IntKind.i64 xs) xs.length (1 : Nat), AVal.ro (Cont.ints IntKind.i64 ys) ys.length (1 : Nat)], ver := (0 : Nat) }]) else bif true && true then bif c != (2 : Int) then some (AVal.tup [AVal.nils, AVal.bool false], [{ c := BC.cells [AVal.int IntKind.i64 r, AVal.int IntKind.i64 c, AVal.ro (Cont.ints IntKind.i64 xs) xs.length (1 : Nat), AVal.ro (Cont.ints IntKind.i64 ys) ys.length (1 : Nat)], ver := (0 : Nat) }]) else bif true && true && (true && true && (true && true && (true && true && true))) then bif decide (xs.length = xs.length ∧ ys.length = ys.length) && gm.sp r c xs ys && (true && (true && (true && (true && true))) && true || true && (true && true)) then bif decide ((0 : Int) < (↑(pu.sv r.toNat c.toNat xs ys).length : Int)) then some (AVal.tup [AVal.nils, AVal.bool false], [{ c := BC.cells [AVal.int IntKind.i64 r, AVal.int IntKind.i64 c, AVal.ro (Cont.ints IntKind.i64 xs) xs.length (1 : Nat), AVal.ro (Cont.ints IntKind.i64 ys) ys.length (1 : Nat)], ver := (0 : Nat) }, { c := BC.typ (Cont.ints IntKind.i64 (pu.sv r.toNat c.toNat xs ys)), ver := (0 : Nat) }]) else bif true && true && (true && true && (true && true && (true && true && true))) then bif decide (xs.length = xs.length ∧ ys.length = ys.length ∧ r = (2 : Int) ∧ c = (2 : Int)) && gm.sp r c xs ys && (true && (true && (true && (true && true))) && true || true && (true && (true && true)) && true) then bif true && true && (true && true && (true && true && (true && true && true))) then bif decide (xs.length = xs.length ∧ ys.length = ys.length) && gm.sp r c xs ys && (true && (true && (true && (true && true))) && true || true && (true && (true && (true && true))) && (true && (true && true))) then bif decide ((c * r).toNat = (tn.sv r.toNat c.toNat ys).length ∧ (c * r).toNat = (tn.sv r.toNat c.toNat xs).length ∧ c = (2 : Int) ∧ r = (2 : Int)) && gm.sp c r (tn.sv r.toNat c.toNat ys) (tn.sv r.toNat c.toNat xs) && (true && (true && (false && (false && true))) && true || true && (true && (true && true)) && true) then bif !ev.ok.sp ys then some (AVal.tup [AVal.nils, AVal.bool false], [{ c := BC.cells [AVal.int IntKind.i64 r, AVal.int IntKind.i64 c, AVal.ro (Cont.ints IntKind.i64 xs) xs.length (1 : Nat), AVal.ro (Cont.ints IntKind.i64 ys) ys.length (1 : Nat)], ver := (0 : Nat) }, { c := BC.typ (Cont.ints IntKind.i64 (pu.sv r.toNat c.toNat xs ys)), ver := (0 : Nat) }, { c := BC.typ (Cont.ints IntKind.i64 (tn.sv r.toNat c.toNat ys)), ver := (0 : Nat) }, { c := BC.typ (Cont.ints IntKind.i64 (tn.sv r.toNat c.toNat xs)), ver := (0 : Nat) }]) else bif !ev.ok.sp (tn.sv r.toNat c.toNat xs) then some (AVal.tup [AVal.nils, AVal.bool false], [{ c := BC.cells [AVal.int IntKind.i64 r, AVal.int IntKind.i64 c, AVal.ro (Cont.ints IntKind.i64 xs) xs.length (1 : Nat), AVal.ro (Cont.ints IntKind.i64 ys) ys.length (1 : Nat)], ver := (0 : Nat) }, { c := BC.typ (Cont.ints IntKind.i64 (pu.sv r.toNat c.toNat xs ys)), ver := (0 : Nat) }, { c := BC.typ (Cont.ints IntKind.i64 (tn.sv r.toNat c.toNat ys)), ver := (0 : Nat) }, { c := BC.typ (Cont.ints IntKind.i64 (tn.sv r.toNat c.toNat xs)), ver := (0 : Nat) }]) else some (AVal.tup [AVal.own ((1 : Nat) + (1 : Nat) + (1 : Nat) + (1 : Nat)) (0 : Nat) (4 : Nat) (0 : Nat) (1 : Nat), AVal.bool true], [{ c := BC.cells [AVal.int IntKind.i64 r, AVal.int IntKind.i64 c, AVal.ro (Cont.ints IntKind.i64 xs) xs.length (1 : Nat), AVal.ro (Cont.ints IntKind.i64 ys) ys.length (1 : Nat)], ver := (0 : Nat) }, { c := BC.typ (Cont.ints IntKind.i64 (pu.sv r.toNat c.toNat xs ys)), ver := (0 : Nat) }, { c := BC.typ (Cont.ints IntKind.i64 (tn.sv r.toNat c.toNat ys)), ver := (0 : Nat) }, { c := BC.typ (Cont.ints IntKind.i64 (tn.sv r.toNat c.toNat xs)), ver := (0 : Nat) }, { c := BC.typ (Cont.ints IntKind.i64 (((((List.replicate (4 : Nat) (0 : Int)).set (0 : Nat) (ev.p.sv ys)).set (1 : Nat) (ev.q.sv ys)).set (2 : Nat) (ev.p.sv (tn.sv r.toNat c.toNat xs))).set (3 : Nat) (ev.q.sv (tn.sv r.toNat c.toNat xs)))), ver := (0 : Nat) }]) else none else none else none else none else none else none else none else none else none else none else none with
| some (v, h) =>
  bif true && (ltN (4 : Nat) (hlen h) && true) then
    some
      (AVal.re [(4 : Nat)] h v,
        match nth h (4 : Nat) with
        | some b => { c := BC.re [(4 : Nat)] h b.c, ver := b.ver } :: reB [(4 : Nat)] h []
        | none => { c := BC.cells [], ver := (0 : Nat) } :: reB [(4 : Nat)] h [])
  else none
| none => none) := by kernel_rfl
theorem run : ∀ args v new, R args = some (true, v, new) → ∃ fuel, regc [4] (runFn Try.prog (orc [⟨52, iValidGame.R⟩, ⟨61, gPure.R⟩, ⟨78, gEven.R⟩, ⟨53, gTurned.R⟩]) hd0 Dr.std none fuel (bodyOf Try.f36) 53 [2, 3] args []) = some (v, new) := by
  intro args v new h
  unfold R at h
  split at h
  · rename_i r c xs ma ys mb
    simp only [Option.some.injEq, Prod.mk.injEq, Bool.and_eq_true, decide_eq_true_eq, Bool.not_eq_true'] at h
    obtain ⟨⟨⟨rfl, rfl, h3, h4⟩, hs⟩, rfl, rfl⟩ := h
    simp only [tb.sp, tb.pn.sp, Bool.and_eq_true, beq_iff_eq, decide_eq_true_eq] at hs
    obtain ⟨⟨⟨⟨hv, hrr⟩, hcc⟩, hpu⟩, ho1, ho2⟩ := hs
    have hv2 := hv
    obtain ⟨r, c, rfl, rfl, hr, hc, hx, hy, vx, vy⟩ := gm.valid hv2
    have hr2 : r = 2 := by omega
    have hc2 : c = 2 := by omega
    subst hr2 hc2
    obtain ⟨t0', t1', t2', t3'⟩ := tb.tn4 xs
    have l4 : ys.length = 4 := by omega
    have l4x : xs.length = 4 := by omega
    have l4' : (ys.length : Int) = 4 := by omega
    have l4x' : (xs.length : Int) = 4 := by omega
    have k1 : (tn.sv 2 2 ys).length = 4 := tn.sv_length _ _ _
    have k2 : (tn.sv 2 2 xs).length = 4 := tn.sv_length _ _ _
    have k3 : (tn.sv 2 2 ys).take 4 = tn.sv 2 2 ys := List.take_of_length_le (by omega)
    have k4 : (tn.sv 2 2 xs).take 4 = tn.sv 2 2 xs := List.take_of_length_le (by omega)
    have v3 : gm.sp 2 2 (tn.sv 2 2 ys) (tn.sv 2 2 xs) = true := tn.valid hr hc hx hy vx vy
    have e22 : ((2 : Int) * 2).toNat = 4 := rfl
    have t2n : (2 : Int).toNat = 2 := rfl
    have b2 : ((2 : Int) != 2) = false := rfl
    have hpu0 : ¬ ((0 : Int) < ((pu.sv 2 2 xs ys).length : Int)) := by
      have : (pu.sv 2 2 xs ys).length = 0 := hpu
      omega
    have hcast : ((2 : Nat) : Int) = 2 := rfl
    rw [hcast] at hv
    have lenl : (tb.l.sv xs ys).length = 4 := rfl
    refine ⟨0, ?_⟩
    rw [hcast, go, lenl]
    simp -implicitDefEqProofs only [hpu0, ho1, ho2, l4', l4x', k1, k2, k3, k4, v3, e22, t2n, b2, h3, h4, hv, Nat.le_refl, Int.le_refl, tb.four, and_self, eq_self, bne_self_eq_false, decide_true, decide_false, Bool.and_self, Bool.or_self, Bool.and_true, Bool.true_and, Bool.and_false, Bool.false_and, Bool.or_true, Bool.true_or, Bool.or_false, Bool.false_or, Bool.not_true, Bool.not_false, cond_true, cond_false]
    rfl
  · cases h
theorem ok : EntOk Try.prog ⟨36, R⟩ :=
  ent_okAG (ks := [4]) mixed (A := (orc [⟨52, iValidGame.R⟩, ⟨61, gPure.R⟩, ⟨78, gEven.R⟩, ⟨53, gTurned.R⟩])) (orc_ok (by simp only [List.mem_cons, List.not_mem_nil, or_false, forall_eq_or_imp, forall_eq]; exact ⟨iValidGame.ok, gPure.ok, gEven.ok, gTurned.ok⟩)) Try.func36 (by kernel_rfl) (by kernel_rfl) (n := 53) (ts := [2, 3]) (hd := hd0) (dr := Dr.std) (cut := none) (by kernel_rfl) (by kernel_rfl) (by kernel_rfl) run
end iTwoByTwo_t

namespace iTwoByTwo_f
def R : List AVal → Option (Bool × AVal × List Blk)
  | [.agg [.int .i64 r, .int .i64 c, .ro (.ints .i64 xs) ma 1, .ro (.ints .i64 ys) mb 1]] => some (decide (ma = xs.length ∧ mb = ys.length ∧ ma ≤ 4611686018427387904 ∧ mb ≤ 4611686018427387904) && !tb.sp r c xs ys, .tup [.nils, .bool false], [])
  | _ => none
theorem go (r c : Int) (xs ys : List Int) :
  runFn Try.prog (orc [⟨52, iValidGame.R⟩, ⟨61, gPure.R⟩, ⟨78, gEven.R⟩, ⟨53, gTurned.R⟩]) hd0 Dr.std (some 0) 0 (bodyOf Try.f36) 53 [2, 3] [.agg [.int .i64 r, .int .i64 c, .ro (.ints .i64 xs) xs.length 1, .ro (.ints .i64 ys) ys.length 1]] []
  = (bif true && true && (true && true && (true && true && (true && true && true))) then bif decide (xs.length = xs.length ∧ ys.length = ys.length ∧ xs.length ≤ (4611686018427387904 : Nat) ∧ ys.length ≤ (4611686018427387904 : Nat)) && (true && (true && (true && (true && true))) && true || true && true) then bif !gm.sp r c xs ys then some (AVal.tup [AVal.nils, AVal.bool false], []) else bif true && true then bif r != (2 : Int) then some (AVal.tup [AVal.nils, AVal.bool false], []) else bif true && true then bif c != (2 : Int) then some (AVal.tup [AVal.nils, AVal.bool false], []) else bif true && true && (true && true && (true && true && (true && true && true))) then bif decide (xs.length = xs.length ∧ ys.length = ys.length) && gm.sp r c xs ys && (true && (true && (true && (true && true))) && true || true && (true && true)) then bif decide ((0 : Int) < (↑(pu.sv r.toNat c.toNat xs ys).length : Int)) then some (AVal.tup [AVal.nils, AVal.bool false], []) else bif true && true && (true && true && (true && true && (true && true && true))) then bif decide (xs.length = xs.length ∧ ys.length = ys.length ∧ r = (2 : Int) ∧ c = (2 : Int)) && gm.sp r c xs ys && (true && (true && (true && (true && true))) && true || true && (true && (true && true)) && true) then bif true && true && (true && true && (true && true && (true && true && true))) then bif decide (xs.length = xs.length ∧ ys.length = ys.length) && gm.sp r c xs ys && (true && (true && (true && (true && true))) && true || true && (true && (true && (true && true))) && (true && (true && true))) then bif decide ((c * r).toNat = (tn.sv r.toNat c.toNat ys).length ∧ (c * r).toNat = (tn.sv r.toNat c.toNat xs).length ∧ c = (2 : Int) ∧ r = (2 : Int)) && gm.sp c r (tn.sv r.toNat c.toNat ys) (tn.sv r.toNat c.toNat xs) && (true && (true && (false && (false && true))) && true || true && (true && (true && true)) && true) then bif !ev.ok.sp ys then some (AVal.tup [AVal.nils, AVal.bool false], []) else bif !ev.ok.sp (tn.sv r.toNat c.toNat xs) then some (AVal.tup [AVal.nils, AVal.bool false], []) else some (AVal.tup [AVal.ro (Cont.ints IntKind.i64 (((((List.replicate (4 : Nat) (0 : Int)).set (0 : Nat) (ev.p.sv ys)).set (1 : Nat) (ev.q.sv ys)).set (2 : Nat) (ev.p.sv (tn.sv r.toNat c.toNat xs))).set (3 : Nat) (ev.q.sv (tn.sv r.toNat c.toNat xs)))) (4 : Nat) (1 : Nat), AVal.bool true], []) else none else none else none else none else none else none else none else none else none else none else none) := by kernel_rfl
theorem run : ∀ args v new, R args = some (true, v, new) → ∃ fuel, runFn Try.prog (orc [⟨52, iValidGame.R⟩, ⟨61, gPure.R⟩, ⟨78, gEven.R⟩, ⟨53, gTurned.R⟩]) hd0 Dr.std (some 0) fuel (bodyOf Try.f36) 53 [2, 3] args [] = some (v, new) := by
  intro args v new h
  unfold R at h
  split at h
  · rename_i r c xs ma ys mb
    simp only [Option.some.injEq, Prod.mk.injEq, Bool.and_eq_true, decide_eq_true_eq, Bool.not_eq_true'] at h
    obtain ⟨⟨⟨rfl, rfl, h3, h4⟩, hs⟩, rfl, rfl⟩ := h
    refine ⟨0, ?_⟩
    rw [go]
    cases hv : gm.sp r c xs ys
    · simp -implicitDefEqProofs only [h3, h4, hv, Nat.le_refl, Int.le_refl, tb.four, and_self, eq_self, bne_self_eq_false, decide_true, decide_false, Bool.and_self, Bool.or_self, Bool.and_true, Bool.true_and, Bool.and_false, Bool.false_and, Bool.or_true, Bool.true_or, Bool.or_false, Bool.false_or, Bool.not_true, Bool.not_false, cond_true, cond_false]
    · obtain ⟨r, c, rfl, rfl, hr, hc, hx, hy, vx, vy⟩ := gm.valid hv
      by_cases hrr : (r : Int) = 2
      · by_cases hcc : (c : Int) = 2
        · have hr2 : r = 2 := by omega
          have hc2 : c = 2 := by omega
          subst hr2 hc2
          obtain ⟨t0', t1', t2', t3'⟩ := tb.tn4 xs
          have l4 : ys.length = 4 := by omega
          have l4x : xs.length = 4 := by omega
          have l4' : (ys.length : Int) = 4 := by omega
          have l4x' : (xs.length : Int) = 4 := by omega
          have k1 : (tn.sv 2 2 ys).length = 4 := tn.sv_length _ _ _
          have k2 : (tn.sv 2 2 xs).length = 4 := tn.sv_length _ _ _
          have k3 : (tn.sv 2 2 ys).take 4 = tn.sv 2 2 ys := List.take_of_length_le (by omega)
          have k4 : (tn.sv 2 2 xs).take 4 = tn.sv 2 2 xs := List.take_of_length_le (by omega)
          have v3 : gm.sp 2 2 (tn.sv 2 2 ys) (tn.sv 2 2 xs) = true := tn.valid hr hc hx hy vx vy
          have e22 : ((2 : Int) * 2).toNat = 4 := rfl
          have t2n : (2 : Int).toNat = 2 := rfl
          have b2 : ((2 : Int) != 2) = false := rfl
          have hcast : ((2 : Nat) : Int) = 2 := rfl
          rw [hcast] at hv hs ⊢
          simp only [tb.sp, hv, beq_self_eq_true, Bool.true_and] at hs
          cases hp : tb.pn.sp 2 2 xs ys
          · have hpu0 : (0 : Int) < ((pu.sv 2 2 xs ys).length : Int) := by
              have : ¬ ((pu.sv 2 2 xs ys).length = 0) := of_decide_eq_false hp
              omega
            simp -implicitDefEqProofs only [hpu0, l4', l4x', k1, k2, k3, k4, v3, e22, t2n, b2, h3, h4, hv, Nat.le_refl, Int.le_refl, tb.four, and_self, eq_self, bne_self_eq_false, decide_true, decide_false, Bool.and_self, Bool.or_self, Bool.and_true, Bool.true_and, Bool.and_false, Bool.false_and, Bool.or_true, Bool.true_or, Bool.or_false, Bool.false_or, Bool.not_true, Bool.not_false, cond_true, cond_false]
          · have hpu0 : ¬ ((0 : Int) < ((pu.sv 2 2 xs ys).length : Int)) := by
              have : (pu.sv 2 2 xs ys).length = 0 := of_decide_eq_true hp
              omega
            rw [hp, Bool.true_and] at hs
            cases o1 : ev.ok.sp ys
            · simp -implicitDefEqProofs only [hpu0, o1, l4', l4x', k1, k2, k3, k4, v3, e22, t2n, b2, h3, h4, hv, Nat.le_refl, Int.le_refl, tb.four, and_self, eq_self, bne_self_eq_false, decide_true, decide_false, Bool.and_self, Bool.or_self, Bool.and_true, Bool.true_and, Bool.and_false, Bool.false_and, Bool.or_true, Bool.true_or, Bool.or_false, Bool.false_or, Bool.not_true, Bool.not_false, cond_true, cond_false]
            · rw [o1, Bool.true_and] at hs
              simp -implicitDefEqProofs only [hpu0, o1, hs, l4', l4x', k1, k2, k3, k4, v3, e22, t2n, b2, h3, h4, hv, Nat.le_refl, Int.le_refl, tb.four, and_self, eq_self, bne_self_eq_false, decide_true, decide_false, Bool.and_self, Bool.or_self, Bool.and_true, Bool.true_and, Bool.and_false, Bool.false_and, Bool.or_true, Bool.true_or, Bool.or_false, Bool.false_or, Bool.not_true, Bool.not_false, cond_true, cond_false]
        · have nc : ((c : Int) != 2) = true := by simpa using hcc
          have er : ((r : Int) != 2) = false := by rw [hrr]; rfl
          simp -implicitDefEqProofs only [nc, er, h3, h4, hv, Nat.le_refl, Int.le_refl, tb.four, and_self, eq_self, bne_self_eq_false, decide_true, decide_false, Bool.and_self, Bool.or_self, Bool.and_true, Bool.true_and, Bool.and_false, Bool.false_and, Bool.or_true, Bool.true_or, Bool.or_false, Bool.false_or, Bool.not_true, Bool.not_false, cond_true, cond_false]
      · have nr : ((r : Int) != 2) = true := by simpa using hrr
        simp -implicitDefEqProofs only [nr, h3, h4, hv, Nat.le_refl, Int.le_refl, tb.four, and_self, eq_self, bne_self_eq_false, decide_true, decide_false, Bool.and_self, Bool.or_self, Bool.and_true, Bool.true_and, Bool.and_false, Bool.false_and, Bool.or_true, Bool.true_or, Bool.or_false, Bool.false_or, Bool.not_true, Bool.not_false, cond_true, cond_false]
  · cases h
theorem ok : EntOk Try.prog ⟨36, R⟩ :=
  ent_okA mixed (A := (orc [⟨52, iValidGame.R⟩, ⟨61, gPure.R⟩, ⟨78, gEven.R⟩, ⟨53, gTurned.R⟩])) (orc_ok (by simp only [List.mem_cons, List.not_mem_nil, or_false, forall_eq_or_imp, forall_eq]; exact ⟨iValidGame.ok, gPure.ok, gEven.ok, gTurned.ok⟩)) Try.func36 (by kernel_rfl) (by kernel_rfl) (n := 53) (ts := [2, 3]) (hd := hd0) (dr := Dr.std) (cut := (some 0)) (by kernel_rfl) (by kernel_rfl) (by kernel_rfl) run
end iTwoByTwo_f

namespace iTwoByTwo
def Rt := iTwoByTwo_t.R
def Rf := iTwoByTwo_f.R
theorem okt : EntOk Try.prog ⟨36, Rt⟩ := iTwoByTwo_t.ok
theorem okf : EntOk Try.prog ⟨36, Rf⟩ := iTwoByTwo_f.ok
end iTwoByTwo

namespace sTwoByTwo_t
def R : List AVal → Option (Bool × AVal × List Blk)
  | [.agg [.int .i64 r, .int .i64 c, .ro (.ints .i64 xs) ma 1, .ro (.ints .i64 ys) mb 1]] => some (decide (ma = xs.length ∧ mb = ys.length ∧ ma ≤ 4611686018427387904 ∧ mb ≤ 4611686018427387904) && tb.sp r c xs ys, .tup [.own 0 0 (tb.l.sv xs ys).length 0 1, .bool true], [⟨.typ (.ints .i64 (tb.l.sv xs ys)), 0⟩])
  | _ => none
theorem go (r c : Int) (xs ys : List Int) :
  regc [2] (runFn Try.prog (orc [⟨49, l02Is.R⟩, ⟨60, l02Pure.R⟩, ⟨77, l02Least2.R⟩, ⟨54, l00In.R⟩]) hd0 Dr.std none 0 (bodyOf Try.f35) 114 [2, 3] [.agg [.int .i64 r, .int .i64 c, .ro (.ints .i64 xs) xs.length 1, .ro (.ints .i64 ys) ys.length 1]] [])
  = (match bif decide (xs.length = xs.length ∧ ys.length = ys.length ∧ xs.length ≤ (4611686018427387904 : Nat) ∧ ys.length ≤ (4611686018427387904 : Nat)) && (false && true || true && true) then bif !gm.sp r c xs ys then some (AVal.tup [AVal.nils, AVal.bool false], [{ c := BC.cells [AVal.int IntKind.i64 r, AVal.int IntKind.i64 c, AVal.ro (Cont.ints IntKind.i64 xs) xs.length (1 : Nat), AVal.ro (Cont.ints IntKind.i64 ys) ys.length (1 : Nat)], ver := (0 : Nat) }]) else bif true && true then bif r != (2 : Int) then some (AVal.tup [AVal.nils, AVal.bool false], [{ c := BC.cells [AVal.int IntKind.i64 r, AVal.int IntKind.i64 c, AVal.ro (Cont.ints IntKind.i64 xs) xs.length (1 : Nat), AVal.ro (Cont.ints IntKind.i64 ys) ys.length (1 : Nat)], ver := (0 : Nat) }]) else bif true && true then bif c != (2 : Int) then some (AVal.tup [AVal.nils, AVal.bool false], [{ c := BC.cells [AVal.int IntKind.i64 r, AVal.int IntKind.i64 c, AVal.ro (Cont.ints IntKind.i64 xs) xs.length (1 : Nat), AVal.ro (Cont.ints IntKind.i64 ys) ys.length (1 : Nat)], ver := (0 : Nat) }]) else bif decide (xs.length = xs.length ∧ ys.length = ys.length) && gm.sp r c xs ys && (false && true || true && (true && true)) then bif decide ((0 : Int) < (↑(pu.sv r.toNat c.toNat xs ys).length : Int)) then some (AVal.tup [AVal.nils, AVal.bool false], [{ c := BC.cells [AVal.int IntKind.i64 r, AVal.int IntKind.i64 c, AVal.ro (Cont.ints IntKind.i64 xs) xs.length (1 : Nat), AVal.ro (Cont.ints IntKind.i64 ys) ys.length (1 : Nat)], ver := (0 : Nat) }, { c := BC.typ (Cont.ints IntKind.i64 (pu.sv r.toNat c.toNat xs ys)), ver := (0 : Nat) }]) else bif true && true then bif true && (decide ((0 : Int) ≤ (0 : Int)) && decide ((0 : Int) < (↑ys.length : Int))) then bif decide ((0 : Nat) < ys.length) then bif true && true then bif true && (decide ((0 : Int) ≤ (1 : Int)) && decide ((1 : Int) < (↑ys.length : Int))) then bif decide ((1 : Nat) < ys.length) then bif true && true then bif true && (decide ((0 : Int) ≤ (2 : Int)) && decide ((2 : Int) < (↑ys.length : Int))) then bif decide ((2 : Nat) < ys.length) then bif true && true then bif true && (decide ((0 : Int) ≤ (3 : Int)) && decide ((3 : Int) < (↑ys.length : Int))) then bif decide ((3 : Nat) < ys.length) then bif true && true then bif true && (decide ((0 : Int) ≤ (0 : Int)) && decide ((0 : Int) < (↑xs.length : Int))) then bif decide ((0 : Nat) < xs.length) then bif true && true then bif true && (decide ((0 : Int) ≤ (1 : Int)) && decide ((1 : Int) < (↑xs.length : Int))) then bif decide ((1 : Nat) < xs.length) then bif true && true then bif true && (decide ((0 : Int) ≤ (2 : Int)) && decide ((2 : Int) < (↑xs.length : Int))) then bif decide ((2 : Nat) < xs.length) then bif true && true then bif true && (decide ((0 : Int) ≤ (3 : Int)) && decide ((3 : Int) < (↑xs.length : Int))) then bif decide ((3 : Nat) < xs.length) then bif IntKind.i64.wrap (IntKind.i64.wrap (IntKind.i64.wrap (gz ys (0 : Nat) - gz ys (1 : Nat)) - gz ys (2 : Nat)) + gz ys (3 : Nat)) == (0 : Int) then some (AVal.tup [AVal.nils, AVal.bool false], [{ c := BC.cells [AVal.int IntKind.i64 r, AVal.int IntKind.i64 c, AVal.ro (Cont.ints IntKind.i64 xs) xs.length (1 : Nat), AVal.ro (Cont.ints IntKind.i64 ys) ys.length (1 : Nat)], ver := (0 : Nat) }, { c := BC.typ (Cont.ints IntKind.i64 (pu.sv r.toNat c.toNat xs ys)), ver := (0 : Nat) }]) else bif IntKind.i64.wrap (IntKind.i64.wrap (IntKind.i64.wrap (gz xs (0 : Nat) - gz xs (1 : Nat)) - gz xs (2 : Nat)) + gz xs (3 : Nat)) == (0 : Int) then some (AVal.tup [AVal.nils, AVal.bool false], [{ c := BC.cells [AVal.int IntKind.i64 r, AVal.int IntKind.i64 c, AVal.ro (Cont.ints IntKind.i64 xs) xs.length (1 : Nat), AVal.ro (Cont.ints IntKind.i64 ys) ys.length (1 : Nat)], ver := (0 : Nat) }, { c := BC.typ (Cont.ints IntKind.i64 (pu.sv r.toNat c.toNat xs ys)), ver := (0 : Nat) }]) else bif true && true then bif true && (decide ((0 : Int) ≤ (3 : Int)) && decide ((3 : Int) < (↑ys.length : Int))) then bif decide ((3 : Nat) < ys.length) then bif true && true then bif true && (decide ((0 : Int) ≤ (2 : Int)) && decide ((2 : Int) < (↑ys.length : Int))) then bif decide ((2 : Nat) < ys.length) then bif decide ((-5000 : Int) ≤ IntKind.i64.wrap (gz ys (nat_lit 3) - gz ys (nat_lit 2)) ∧ IntKind.i64.wrap (gz ys (nat_lit 3) - gz ys (nat_lit 2)) ≤ (5000 : Int) ∧ (-5000 : Int) ≤ IntKind.i64.wrap (IntKind.i64.wrap (IntKind.i64.wrap (gz ys (nat_lit 0) - gz ys (nat_lit 1)) - gz ys (nat_lit 2)) + gz ys (nat_lit 3)) ∧ IntKind.i64.wrap (IntKind.i64.wrap (IntKind.i64.wrap (gz ys (nat_lit 0) - gz ys (nat_lit 1)) - gz ys (nat_lit 2)) + gz ys (nat_lit 3)) ≤ (5000 : Int) ∧ IntKind.i64.wrap (IntKind.i64.wrap (IntKind.i64.wrap (gz ys (nat_lit 0) - gz ys (nat_lit 1)) - gz ys (nat_lit 2)) + gz ys (nat_lit 3)) ≠ (0 : Int)) && (true && (true && true) || true && (true && true) && true) then bif true && true then bif true && (decide ((0 : Int) ≤ (3 : Int)) && decide ((3 : Int) < (↑xs.length : Int))) then bif decide ((3 : Nat) < xs.length) then bif true && true then bif true && (decide ((0 : Int) ≤ (1 : Int)) && decide ((1 : Int) < (↑xs.length : Int))) then bif decide ((1 : Nat) < xs.length) then bif decide ((-5000 : Int) ≤ IntKind.i64.wrap (gz xs (nat_lit 3) - gz xs (nat_lit 1)) ∧ IntKind.i64.wrap (gz xs (nat_lit 3) - gz xs (nat_lit 1)) ≤ (5000 : Int) ∧ (-5000 : Int) ≤ IntKind.i64.wrap (IntKind.i64.wrap (IntKind.i64.wrap (gz xs (nat_lit 0) - gz xs (nat_lit 1)) - gz xs (nat_lit 2)) + gz xs (nat_lit 3)) ∧ IntKind.i64.wrap (IntKind.i64.wrap (IntKind.i64.wrap (gz xs (nat_lit 0) - gz xs (nat_lit 1)) - gz xs (nat_lit 2)) + gz xs (nat_lit 3)) ≤ (5000 : Int) ∧ IntKind.i64.wrap (IntKind.i64.wrap (IntKind.i64.wrap (gz xs (nat_lit 0) - gz xs (nat_lit 1)) - gz xs (nat_lit 2)) + gz xs (nat_lit 3)) ≠ (0 : Int)) && (true && (true && true) || true && (true && true) && true) then bif true && (true && (true && (true && true)) || true && true) then bif !(decide ((0 : Int) ≤ rd.p.sv (IntKind.i64.wrap (gz ys (3 : Nat) - gz ys (2 : Nat))) (IntKind.i64.wrap (IntKind.i64.wrap (IntKind.i64.wrap (gz ys (0 : Nat) - gz ys (1 : Nat)) - gz ys (2 : Nat)) + gz ys (3 : Nat)))) && decide (rd.p.sv (IntKind.i64.wrap (gz ys (3 : Nat) - gz ys (2 : Nat))) (IntKind.i64.wrap (IntKind.i64.wrap (IntKind.i64.wrap (gz ys (0 : Nat) - gz ys (1 : Nat)) - gz ys (2 : Nat)) + gz ys (3 : Nat))) ≤ rd.q.sv (IntKind.i64.wrap (gz ys (3 : Nat) - gz ys (2 : Nat))) (IntKind.i64.wrap (IntKind.i64.wrap (IntKind.i64.wrap (gz ys (0 : Nat) - gz ys (1 : Nat)) - gz ys (2 : Nat)) + gz ys (3 : Nat))))) then some (AVal.tup [AVal.nils, AVal.bool false], [{ c := BC.cells [AVal.int IntKind.i64 r, AVal.int IntKind.i64 c, AVal.ro (Cont.ints IntKind.i64 xs) xs.length (1 : Nat), AVal.ro (Cont.ints IntKind.i64 ys) ys.length (1 : Nat)], ver := (0 : Nat) }, { c := BC.typ (Cont.ints IntKind.i64 (pu.sv r.toNat c.toNat xs ys)), ver := (0 : Nat) }]) else bif true && (true && (true && (true && true)) || true && true) then bif !(decide ((0 : Int) ≤ rd.p.sv (IntKind.i64.wrap (gz xs (3 : Nat) - gz xs (1 : Nat))) (IntKind.i64.wrap (IntKind.i64.wrap (IntKind.i64.wrap (gz xs (0 : Nat) - gz xs (1 : Nat)) - gz xs (2 : Nat)) + gz xs (3 : Nat)))) && decide (rd.p.sv (IntKind.i64.wrap (gz xs (3 : Nat) - gz xs (1 : Nat))) (IntKind.i64.wrap (IntKind.i64.wrap (IntKind.i64.wrap (gz xs (0 : Nat) - gz xs (1 : Nat)) - gz xs (2 : Nat)) + gz xs (3 : Nat))) ≤ rd.q.sv (IntKind.i64.wrap (gz xs (3 : Nat) - gz xs (1 : Nat))) (IntKind.i64.wrap (IntKind.i64.wrap (IntKind.i64.wrap (gz xs (0 : Nat) - gz xs (1 : Nat)) - gz xs (2 : Nat)) + gz xs (3 : Nat))))) then some (AVal.tup [AVal.nils, AVal.bool false], [{ c := BC.cells [AVal.int IntKind.i64 r, AVal.int IntKind.i64 c, AVal.ro (Cont.ints IntKind.i64 xs) xs.length (1 : Nat), AVal.ro (Cont.ints IntKind.i64 ys) ys.length (1 : Nat)], ver := (0 : Nat) }, { c := BC.typ (Cont.ints IntKind.i64 (pu.sv r.toNat c.toNat xs ys)), ver := (0 : Nat) }]) else some (AVal.tup [AVal.own ((1 : Nat) + (1 : Nat)) (0 : Nat) (4 : Nat) (0 : Nat) (1 : Nat), AVal.bool true], [{ c := BC.cells [AVal.int IntKind.i64 r, AVal.int IntKind.i64 c, AVal.ro (Cont.ints IntKind.i64 xs) xs.length (1 : Nat), AVal.ro (Cont.ints IntKind.i64 ys) ys.length (1 : Nat)], ver := (0 : Nat) }, { c := BC.typ (Cont.ints IntKind.i64 (pu.sv r.toNat c.toNat xs ys)), ver := (0 : Nat) }, { c := BC.typ (Cont.ints IntKind.i64 (((((List.replicate (4 : Nat) (0 : Int)).set (0 : Nat) (rd.p.sv (IntKind.i64.wrap (gz ys (3 : Nat) - gz ys (2 : Nat))) (IntKind.i64.wrap (IntKind.i64.wrap (IntKind.i64.wrap (gz ys (0 : Nat) - gz ys (1 : Nat)) - gz ys (2 : Nat)) + gz ys (3 : Nat))))).set (1 : Nat) (rd.q.sv (IntKind.i64.wrap (gz ys (3 : Nat) - gz ys (2 : Nat))) (IntKind.i64.wrap (IntKind.i64.wrap (IntKind.i64.wrap (gz ys (0 : Nat) - gz ys (1 : Nat)) - gz ys (2 : Nat)) + gz ys (3 : Nat))))).set (2 : Nat) (rd.p.sv (IntKind.i64.wrap (gz xs (3 : Nat) - gz xs (1 : Nat))) (IntKind.i64.wrap (IntKind.i64.wrap (IntKind.i64.wrap (gz xs (0 : Nat) - gz xs (1 : Nat)) - gz xs (2 : Nat)) + gz xs (3 : Nat))))).set (3 : Nat) (rd.q.sv (IntKind.i64.wrap (gz xs (3 : Nat) - gz xs (1 : Nat))) (IntKind.i64.wrap (IntKind.i64.wrap (IntKind.i64.wrap (gz xs (0 : Nat) - gz xs (1 : Nat)) - gz xs (2 : Nat)) + gz xs (3 : Nat)))))), ver := (0 : Nat) }]) else none else none else none else none else none else none else none else none else none else none else none else none else none else none else none else none else none else none else none else none else none else none else none else none else none else none else none else none else none else none else none else none else none else none else none else none else none else none else none else none else none else none else none else none with
| some (v, h) =>
  bif true && (ltN (2 : Nat) (hlen h) && true) then
    some
      (AVal.re [(2 : Nat)] h v,
        match nth h (2 : Nat) with
        | some b => { c := BC.re [(2 : Nat)] h b.c, ver := b.ver } :: reB [(2 : Nat)] h []
        | none => { c := BC.cells [], ver := (0 : Nat) } :: reB [(2 : Nat)] h [])
  else none
| none => none) := by kernel_rfl
theorem run : ∀ args v new, R args = some (true, v, new) → ∃ fuel, regc [2] (runFn Try.prog (orc [⟨49, l02Is.R⟩, ⟨60, l02Pure.R⟩, ⟨77, l02Least2.R⟩, ⟨54, l00In.R⟩]) hd0 Dr.std none fuel (bodyOf Try.f35) 114 [2, 3] args []) = some (v, new) := by
  intro args v new h
  unfold R at h
  split at h
  · rename_i r c xs ma ys mb
    simp only [Option.some.injEq, Prod.mk.injEq, Bool.and_eq_true, decide_eq_true_eq, Bool.not_eq_true'] at h
    obtain ⟨⟨⟨rfl, rfl, h3, h4⟩, hs⟩, rfl, rfl⟩ := h
    simp only [tb.sp, tb.pn.sp, Bool.and_eq_true, beq_iff_eq, decide_eq_true_eq] at hs
    obtain ⟨⟨⟨⟨hv, hrr⟩, hcc⟩, hpu⟩, ho1, ho2⟩ := hs
    have hv2 := hv
    obtain ⟨r, c, rfl, rfl, hr, hc, hx, hy, vx, vy⟩ := gm.valid hv2
    have hr2 : r = 2 := by omega
    have hc2 : c = 2 := by omega
    subst hr2 hc2
    obtain ⟨t0', t1', t2', t3'⟩ := tb.tn4 xs
    have l4 : ys.length = 4 := by omega
    have l4x : xs.length = 4 := by omega
    have l4' : (ys.length : Int) = 4 := by omega
    have l4x' : (xs.length : Int) = 4 := by omega
    have k1 : (tn.sv 2 2 ys).length = 4 := tn.sv_length _ _ _
    have k2 : (tn.sv 2 2 xs).length = 4 := tn.sv_length _ _ _
    have k3 : (tn.sv 2 2 ys).take 4 = tn.sv 2 2 ys := List.take_of_length_le (by omega)
    have k4 : (tn.sv 2 2 xs).take 4 = tn.sv 2 2 xs := List.take_of_length_le (by omega)
    have v3 : gm.sp 2 2 (tn.sv 2 2 ys) (tn.sv 2 2 xs) = true := tn.valid hr hc hx hy vx vy
    have e22 : ((2 : Int) * 2).toNat = 4 := rfl
    have t2n : (2 : Int).toNat = 2 := rfl
    have b2 : ((2 : Int) != 2) = false := rfl
    have bnd : ∀ i, i < 4 → -1000 ≤ gz ys i ∧ gz ys i ≤ 1000 := fun i hi => by
      rw [gz_eq (by omega)]; exact vy _ (List.getElem_mem _)
    have bnx : ∀ i, i < 4 → -1000 ≤ gz xs i ∧ gz xs i ≤ 1000 := fun i hi => by
      rw [gz_eq (by omega)]; exact vx _ (List.getElem_mem _)
    have y0 := bnd 0 (by omega)
    have y1 := bnd 1 (by omega)
    have y2 := bnd 2 (by omega)
    have y3 := bnd 3 (by omega)
    have x0 := bnx 0 (by omega)
    have x1 := bnx 1 (by omega)
    have x2 := bnx 2 (by omega)
    have x3 := bnx 3 (by omega)
    have w1 : IntKind.i64.wrap (gz ys 3 - gz ys 2) = ev.n ys := by rw [IntWalk.i64_in _ (by omega)]; rfl
    have w2 : IntKind.i64.wrap (gz ys 0 - gz ys 1) = gz ys 0 - gz ys 1 := IntWalk.i64_in _ (by omega)
    have w3 : IntKind.i64.wrap (gz ys 0 - gz ys 1 - gz ys 2) = gz ys 0 - gz ys 1 - gz ys 2 := IntWalk.i64_in _ (by omega)
    have w4 : IntKind.i64.wrap (gz ys 0 - gz ys 1 - gz ys 2 + gz ys 3) = ev.d ys := by rw [IntWalk.i64_in _ (by omega)]; exact ev.d_spec ys
    have n1 : -5000 ≤ ev.n ys := by unfold ev.n; omega
    have n2 : ev.n ys ≤ 5000 := by unfold ev.n; omega
    have d1 : -5000 ≤ ev.d ys := by unfold ev.d; omega
    have d2 : ev.d ys ≤ 5000 := by unfold ev.d; omega
    have u1 : IntKind.i64.wrap (gz xs 3 - gz xs 1) = ev.n (tn.sv 2 2 xs) := by rw [IntWalk.i64_in _ (by omega)]; unfold ev.n; rw [t3', t2']
    have u2 : IntKind.i64.wrap (gz xs 0 - gz xs 1) = gz xs 0 - gz xs 1 := IntWalk.i64_in _ (by omega)
    have u3 : IntKind.i64.wrap (gz xs 0 - gz xs 1 - gz xs 2) = gz xs 0 - gz xs 1 - gz xs 2 := IntWalk.i64_in _ (by omega)
    have u4 : IntKind.i64.wrap (gz xs 0 - gz xs 1 - gz xs 2 + gz xs 3) = ev.d (tn.sv 2 2 xs) := by rw [IntWalk.i64_in _ (by omega)]; unfold ev.d; rw [t0', t1', t2', t3']
    have m1 : -5000 ≤ ev.n (tn.sv 2 2 xs) := by unfold ev.n; rw [t3', t2']; omega
    have m2 : ev.n (tn.sv 2 2 xs) ≤ 5000 := by unfold ev.n; rw [t3', t2']; omega
    have g1 : -5000 ≤ ev.d (tn.sv 2 2 xs) := by unfold ev.d; rw [t0', t1', t2', t3']; omega
    have g2 : ev.d (tn.sv 2 2 xs) ≤ 5000 := by unfold ev.d; rw [t0', t1', t2', t3']; omega
    have s0 : 0 < ys.length := by omega
    have s1 : 1 < ys.length := by omega
    have s2 : 2 < ys.length := by omega
    have s3 : 3 < ys.length := by omega
    have r0 : 0 < xs.length := by omega
    have r1 : 1 < xs.length := by omega
    have r2 : 2 < xs.length := by omega
    have r3 : 3 < xs.length := by omega
    have j0 : ((0 : Int) < 4) = True := by simp
    have j1 : ((1 : Int) < 4) = True := by simp
    have j2 : ((2 : Int) < 4) = True := by simp
    have j3 : ((3 : Int) < 4) = True := by simp
    have z1 : ((0 : Int) ≤ 1) = True := by simp
    have z2 : ((0 : Int) ≤ 2) = True := by simp
    have z3 : ((0 : Int) ≤ 3) = True := by simp
    have tt1 : (1 : Int).toNat = 1 := rfl
    have tt3 : (3 : Int).toNat = 3 := rfl
    have hpu0 : ¬ ((0 : Int) < ((pu.sv 2 2 xs ys).length : Int)) := by
      have : (pu.sv 2 2 xs ys).length = 0 := hpu
      omega
    have hcast : ((2 : Nat) : Int) = 2 := rfl
    rw [hcast] at hv
    have lenl : (tb.l.sv xs ys).length = 4 := rfl
    refine ⟨0, ?_⟩
    rw [hcast, go, lenl]
    simp only [ev.ok.sp, Bool.and_eq_true, decide_eq_true_eq, bne_iff_ne, ne_eq] at ho1 ho2
    obtain ⟨o1, o2, o3⟩ := ho1
    obtain ⟨o4, o5, o6⟩ := ho2
    have o1b : (ev.d ys == 0) = false := by simpa using o1
    have o4b : (ev.d (tn.sv 2 2 xs) == 0) = false := by simpa using o4
    simp only [ev.p.sv, ev.q.sv] at o2 o3 o5 o6
    simp -implicitDefEqProofs only [hpu0, o1, o1b, o2, o3, o4, o4b, o5, o6, not_false_eq_true, ne_eq, l4', l4x', k1, k2, k3, k4, v3, e22, t2n, b2, w1, w2, w3, w4, n1, n2, d1, d2, u1, u2, u3, u4, m1, m2, g1, g2, s0, s1, s2, s3, r0, r1, r2, r3, j0, j1, j2, j3, z1, z2, z3, tt1, tt3, Int.toNat_zero, h3, h4, hv, Nat.le_refl, Int.le_refl, tb.four, and_self, eq_self, bne_self_eq_false, decide_true, decide_false, Bool.and_self, Bool.or_self, Bool.and_true, Bool.true_and, Bool.and_false, Bool.false_and, Bool.or_true, Bool.true_or, Bool.or_false, Bool.false_or, Bool.not_true, Bool.not_false, cond_true, cond_false]
    rfl
  · cases h
theorem ok : EntOk Try.prog ⟨35, R⟩ :=
  ent_okAG (ks := [2]) mixed (A := (orc [⟨49, l02Is.R⟩, ⟨60, l02Pure.R⟩, ⟨77, l02Least2.R⟩, ⟨54, l00In.R⟩])) (orc_ok (by simp only [List.mem_cons, List.not_mem_nil, or_false, forall_eq_or_imp, forall_eq]; exact ⟨l02Is.ok, l02Pure.ok, l02Least2.ok, l00In.ok⟩)) Try.func35 (by kernel_rfl) (by kernel_rfl) (n := 114) (ts := [2, 3]) (hd := hd0) (dr := Dr.std) (cut := none) (by kernel_rfl) (by kernel_rfl) (by kernel_rfl) run
end sTwoByTwo_t

namespace sTwoByTwo_f
def R : List AVal → Option (Bool × AVal × List Blk)
  | [.agg [.int .i64 r, .int .i64 c, .ro (.ints .i64 xs) ma 1, .ro (.ints .i64 ys) mb 1]] => some (decide (ma = xs.length ∧ mb = ys.length ∧ ma ≤ 4611686018427387904 ∧ mb ≤ 4611686018427387904) && !tb.sp r c xs ys, .tup [.nils, .bool false], [])
  | _ => none
theorem go (r c : Int) (xs ys : List Int) :
  runFn Try.prog (orc [⟨49, l02Is.R⟩, ⟨60, l02Pure.R⟩, ⟨77, l02Least2.R⟩, ⟨54, l00In.R⟩]) hd0 Dr.std (some 0) 0 (bodyOf Try.f35) 114 [2, 3] [.agg [.int .i64 r, .int .i64 c, .ro (.ints .i64 xs) xs.length 1, .ro (.ints .i64 ys) ys.length 1]] []
  = (bif decide (xs.length = xs.length ∧ ys.length = ys.length ∧ xs.length ≤ (4611686018427387904 : Nat) ∧ ys.length ≤ (4611686018427387904 : Nat)) && (false && true || true && true) then bif !gm.sp r c xs ys then some (AVal.tup [AVal.nils, AVal.bool false], []) else bif true && true then bif r != (2 : Int) then some (AVal.tup [AVal.nils, AVal.bool false], []) else bif true && true then bif c != (2 : Int) then some (AVal.tup [AVal.nils, AVal.bool false], []) else bif decide (xs.length = xs.length ∧ ys.length = ys.length) && gm.sp r c xs ys && (false && true || true && (true && true)) then bif decide ((0 : Int) < (↑(pu.sv r.toNat c.toNat xs ys).length : Int)) then some (AVal.tup [AVal.nils, AVal.bool false], []) else bif true && true then bif true && (decide ((0 : Int) ≤ (0 : Int)) && decide ((0 : Int) < (↑ys.length : Int))) then bif decide ((0 : Nat) < ys.length) then bif true && true then bif true && (decide ((0 : Int) ≤ (1 : Int)) && decide ((1 : Int) < (↑ys.length : Int))) then bif decide ((1 : Nat) < ys.length) then bif true && true then bif true && (decide ((0 : Int) ≤ (2 : Int)) && decide ((2 : Int) < (↑ys.length : Int))) then bif decide ((2 : Nat) < ys.length) then bif true && true then bif true && (decide ((0 : Int) ≤ (3 : Int)) && decide ((3 : Int) < (↑ys.length : Int))) then bif decide ((3 : Nat) < ys.length) then bif true && true then bif true && (decide ((0 : Int) ≤ (0 : Int)) && decide ((0 : Int) < (↑xs.length : Int))) then bif decide ((0 : Nat) < xs.length) then bif true && true then bif true && (decide ((0 : Int) ≤ (1 : Int)) && decide ((1 : Int) < (↑xs.length : Int))) then bif decide ((1 : Nat) < xs.length) then bif true && true then bif true && (decide ((0 : Int) ≤ (2 : Int)) && decide ((2 : Int) < (↑xs.length : Int))) then bif decide ((2 : Nat) < xs.length) then bif true && true then bif true && (decide ((0 : Int) ≤ (3 : Int)) && decide ((3 : Int) < (↑xs.length : Int))) then bif decide ((3 : Nat) < xs.length) then bif IntKind.i64.wrap (IntKind.i64.wrap (IntKind.i64.wrap (gz ys (0 : Nat) - gz ys (1 : Nat)) - gz ys (2 : Nat)) + gz ys (3 : Nat)) == (0 : Int) then some (AVal.tup [AVal.nils, AVal.bool false], []) else bif IntKind.i64.wrap (IntKind.i64.wrap (IntKind.i64.wrap (gz xs (0 : Nat) - gz xs (1 : Nat)) - gz xs (2 : Nat)) + gz xs (3 : Nat)) == (0 : Int) then some (AVal.tup [AVal.nils, AVal.bool false], []) else bif true && true then bif true && (decide ((0 : Int) ≤ (3 : Int)) && decide ((3 : Int) < (↑ys.length : Int))) then bif decide ((3 : Nat) < ys.length) then bif true && true then bif true && (decide ((0 : Int) ≤ (2 : Int)) && decide ((2 : Int) < (↑ys.length : Int))) then bif decide ((2 : Nat) < ys.length) then bif decide ((-5000 : Int) ≤ IntKind.i64.wrap (gz ys (nat_lit 3) - gz ys (nat_lit 2)) ∧ IntKind.i64.wrap (gz ys (nat_lit 3) - gz ys (nat_lit 2)) ≤ (5000 : Int) ∧ (-5000 : Int) ≤ IntKind.i64.wrap (IntKind.i64.wrap (IntKind.i64.wrap (gz ys (nat_lit 0) - gz ys (nat_lit 1)) - gz ys (nat_lit 2)) + gz ys (nat_lit 3)) ∧ IntKind.i64.wrap (IntKind.i64.wrap (IntKind.i64.wrap (gz ys (nat_lit 0) - gz ys (nat_lit 1)) - gz ys (nat_lit 2)) + gz ys (nat_lit 3)) ≤ (5000 : Int) ∧ IntKind.i64.wrap (IntKind.i64.wrap (IntKind.i64.wrap (gz ys (nat_lit 0) - gz ys (nat_lit 1)) - gz ys (nat_lit 2)) + gz ys (nat_lit 3)) ≠ (0 : Int)) && (true && (true && true) || true && (true && true) && true) then bif true && true then bif true && (decide ((0 : Int) ≤ (3 : Int)) && decide ((3 : Int) < (↑xs.length : Int))) then bif decide ((3 : Nat) < xs.length) then bif true && true then bif true && (decide ((0 : Int) ≤ (1 : Int)) && decide ((1 : Int) < (↑xs.length : Int))) then bif decide ((1 : Nat) < xs.length) then bif decide ((-5000 : Int) ≤ IntKind.i64.wrap (gz xs (nat_lit 3) - gz xs (nat_lit 1)) ∧ IntKind.i64.wrap (gz xs (nat_lit 3) - gz xs (nat_lit 1)) ≤ (5000 : Int) ∧ (-5000 : Int) ≤ IntKind.i64.wrap (IntKind.i64.wrap (IntKind.i64.wrap (gz xs (nat_lit 0) - gz xs (nat_lit 1)) - gz xs (nat_lit 2)) + gz xs (nat_lit 3)) ∧ IntKind.i64.wrap (IntKind.i64.wrap (IntKind.i64.wrap (gz xs (nat_lit 0) - gz xs (nat_lit 1)) - gz xs (nat_lit 2)) + gz xs (nat_lit 3)) ≤ (5000 : Int) ∧ IntKind.i64.wrap (IntKind.i64.wrap (IntKind.i64.wrap (gz xs (nat_lit 0) - gz xs (nat_lit 1)) - gz xs (nat_lit 2)) + gz xs (nat_lit 3)) ≠ (0 : Int)) && (true && (true && true) || true && (true && true) && true) then bif true && (true && (true && (true && true)) || true && true) then bif !(decide ((0 : Int) ≤ rd.p.sv (IntKind.i64.wrap (gz ys (3 : Nat) - gz ys (2 : Nat))) (IntKind.i64.wrap (IntKind.i64.wrap (IntKind.i64.wrap (gz ys (0 : Nat) - gz ys (1 : Nat)) - gz ys (2 : Nat)) + gz ys (3 : Nat)))) && decide (rd.p.sv (IntKind.i64.wrap (gz ys (3 : Nat) - gz ys (2 : Nat))) (IntKind.i64.wrap (IntKind.i64.wrap (IntKind.i64.wrap (gz ys (0 : Nat) - gz ys (1 : Nat)) - gz ys (2 : Nat)) + gz ys (3 : Nat))) ≤ rd.q.sv (IntKind.i64.wrap (gz ys (3 : Nat) - gz ys (2 : Nat))) (IntKind.i64.wrap (IntKind.i64.wrap (IntKind.i64.wrap (gz ys (0 : Nat) - gz ys (1 : Nat)) - gz ys (2 : Nat)) + gz ys (3 : Nat))))) then some (AVal.tup [AVal.nils, AVal.bool false], []) else bif true && (true && (true && (true && true)) || true && true) then bif !(decide ((0 : Int) ≤ rd.p.sv (IntKind.i64.wrap (gz xs (3 : Nat) - gz xs (1 : Nat))) (IntKind.i64.wrap (IntKind.i64.wrap (IntKind.i64.wrap (gz xs (0 : Nat) - gz xs (1 : Nat)) - gz xs (2 : Nat)) + gz xs (3 : Nat)))) && decide (rd.p.sv (IntKind.i64.wrap (gz xs (3 : Nat) - gz xs (1 : Nat))) (IntKind.i64.wrap (IntKind.i64.wrap (IntKind.i64.wrap (gz xs (0 : Nat) - gz xs (1 : Nat)) - gz xs (2 : Nat)) + gz xs (3 : Nat))) ≤ rd.q.sv (IntKind.i64.wrap (gz xs (3 : Nat) - gz xs (1 : Nat))) (IntKind.i64.wrap (IntKind.i64.wrap (IntKind.i64.wrap (gz xs (0 : Nat) - gz xs (1 : Nat)) - gz xs (2 : Nat)) + gz xs (3 : Nat))))) then some (AVal.tup [AVal.nils, AVal.bool false], []) else some (AVal.tup [AVal.ro (Cont.ints IntKind.i64 (((((List.replicate (4 : Nat) (0 : Int)).set (0 : Nat) (rd.p.sv (IntKind.i64.wrap (gz ys (3 : Nat) - gz ys (2 : Nat))) (IntKind.i64.wrap (IntKind.i64.wrap (IntKind.i64.wrap (gz ys (0 : Nat) - gz ys (1 : Nat)) - gz ys (2 : Nat)) + gz ys (3 : Nat))))).set (1 : Nat) (rd.q.sv (IntKind.i64.wrap (gz ys (3 : Nat) - gz ys (2 : Nat))) (IntKind.i64.wrap (IntKind.i64.wrap (IntKind.i64.wrap (gz ys (0 : Nat) - gz ys (1 : Nat)) - gz ys (2 : Nat)) + gz ys (3 : Nat))))).set (2 : Nat) (rd.p.sv (IntKind.i64.wrap (gz xs (3 : Nat) - gz xs (1 : Nat))) (IntKind.i64.wrap (IntKind.i64.wrap (IntKind.i64.wrap (gz xs (0 : Nat) - gz xs (1 : Nat)) - gz xs (2 : Nat)) + gz xs (3 : Nat))))).set (3 : Nat) (rd.q.sv (IntKind.i64.wrap (gz xs (3 : Nat) - gz xs (1 : Nat))) (IntKind.i64.wrap (IntKind.i64.wrap (IntKind.i64.wrap (gz xs (0 : Nat) - gz xs (1 : Nat)) - gz xs (2 : Nat)) + gz xs (3 : Nat)))))) (4 : Nat) (1 : Nat), AVal.bool true], []) else none else none else none else none else none else none else none else none else none else none else none else none else none else none else none else none else none else none else none else none else none else none else none else none else none else none else none else none else none else none else none else none else none else none else none else none else none else none else none else none else none else none else none else none) := by kernel_rfl
theorem run : ∀ args v new, R args = some (true, v, new) → ∃ fuel, runFn Try.prog (orc [⟨49, l02Is.R⟩, ⟨60, l02Pure.R⟩, ⟨77, l02Least2.R⟩, ⟨54, l00In.R⟩]) hd0 Dr.std (some 0) fuel (bodyOf Try.f35) 114 [2, 3] args [] = some (v, new) := by
  intro args v new h
  unfold R at h
  split at h
  · rename_i r c xs ma ys mb
    simp only [Option.some.injEq, Prod.mk.injEq, Bool.and_eq_true, decide_eq_true_eq, Bool.not_eq_true'] at h
    obtain ⟨⟨⟨rfl, rfl, h3, h4⟩, hs⟩, rfl, rfl⟩ := h
    refine ⟨0, ?_⟩
    rw [go]
    cases hv : gm.sp r c xs ys
    · simp -implicitDefEqProofs only [h3, h4, hv, Nat.le_refl, Int.le_refl, tb.four, and_self, eq_self, bne_self_eq_false, decide_true, decide_false, Bool.and_self, Bool.or_self, Bool.and_true, Bool.true_and, Bool.and_false, Bool.false_and, Bool.or_true, Bool.true_or, Bool.or_false, Bool.false_or, Bool.not_true, Bool.not_false, cond_true, cond_false]
    · obtain ⟨r, c, rfl, rfl, hr, hc, hx, hy, vx, vy⟩ := gm.valid hv
      by_cases hrr : (r : Int) = 2
      · by_cases hcc : (c : Int) = 2
        · have hr2 : r = 2 := by omega
          have hc2 : c = 2 := by omega
          subst hr2 hc2
          obtain ⟨t0', t1', t2', t3'⟩ := tb.tn4 xs
          have l4 : ys.length = 4 := by omega
          have l4x : xs.length = 4 := by omega
          have l4' : (ys.length : Int) = 4 := by omega
          have l4x' : (xs.length : Int) = 4 := by omega
          have k1 : (tn.sv 2 2 ys).length = 4 := tn.sv_length _ _ _
          have k2 : (tn.sv 2 2 xs).length = 4 := tn.sv_length _ _ _
          have k3 : (tn.sv 2 2 ys).take 4 = tn.sv 2 2 ys := List.take_of_length_le (by omega)
          have k4 : (tn.sv 2 2 xs).take 4 = tn.sv 2 2 xs := List.take_of_length_le (by omega)
          have v3 : gm.sp 2 2 (tn.sv 2 2 ys) (tn.sv 2 2 xs) = true := tn.valid hr hc hx hy vx vy
          have e22 : ((2 : Int) * 2).toNat = 4 := rfl
          have t2n : (2 : Int).toNat = 2 := rfl
          have b2 : ((2 : Int) != 2) = false := rfl
          have bnd : ∀ i, i < 4 → -1000 ≤ gz ys i ∧ gz ys i ≤ 1000 := fun i hi => by
            rw [gz_eq (by omega)]; exact vy _ (List.getElem_mem _)
          have bnx : ∀ i, i < 4 → -1000 ≤ gz xs i ∧ gz xs i ≤ 1000 := fun i hi => by
            rw [gz_eq (by omega)]; exact vx _ (List.getElem_mem _)
          have y0 := bnd 0 (by omega)
          have y1 := bnd 1 (by omega)
          have y2 := bnd 2 (by omega)
          have y3 := bnd 3 (by omega)
          have x0 := bnx 0 (by omega)
          have x1 := bnx 1 (by omega)
          have x2 := bnx 2 (by omega)
          have x3 := bnx 3 (by omega)
          have w1 : IntKind.i64.wrap (gz ys 3 - gz ys 2) = ev.n ys := by rw [IntWalk.i64_in _ (by omega)]; rfl
          have w2 : IntKind.i64.wrap (gz ys 0 - gz ys 1) = gz ys 0 - gz ys 1 := IntWalk.i64_in _ (by omega)
          have w3 : IntKind.i64.wrap (gz ys 0 - gz ys 1 - gz ys 2) = gz ys 0 - gz ys 1 - gz ys 2 := IntWalk.i64_in _ (by omega)
          have w4 : IntKind.i64.wrap (gz ys 0 - gz ys 1 - gz ys 2 + gz ys 3) = ev.d ys := by rw [IntWalk.i64_in _ (by omega)]; exact ev.d_spec ys
          have n1 : -5000 ≤ ev.n ys := by unfold ev.n; omega
          have n2 : ev.n ys ≤ 5000 := by unfold ev.n; omega
          have d1 : -5000 ≤ ev.d ys := by unfold ev.d; omega
          have d2 : ev.d ys ≤ 5000 := by unfold ev.d; omega
          have u1 : IntKind.i64.wrap (gz xs 3 - gz xs 1) = ev.n (tn.sv 2 2 xs) := by rw [IntWalk.i64_in _ (by omega)]; unfold ev.n; rw [t3', t2']
          have u2 : IntKind.i64.wrap (gz xs 0 - gz xs 1) = gz xs 0 - gz xs 1 := IntWalk.i64_in _ (by omega)
          have u3 : IntKind.i64.wrap (gz xs 0 - gz xs 1 - gz xs 2) = gz xs 0 - gz xs 1 - gz xs 2 := IntWalk.i64_in _ (by omega)
          have u4 : IntKind.i64.wrap (gz xs 0 - gz xs 1 - gz xs 2 + gz xs 3) = ev.d (tn.sv 2 2 xs) := by rw [IntWalk.i64_in _ (by omega)]; unfold ev.d; rw [t0', t1', t2', t3']
          have m1 : -5000 ≤ ev.n (tn.sv 2 2 xs) := by unfold ev.n; rw [t3', t2']; omega
          have m2 : ev.n (tn.sv 2 2 xs) ≤ 5000 := by unfold ev.n; rw [t3', t2']; omega
          have g1 : -5000 ≤ ev.d (tn.sv 2 2 xs) := by unfold ev.d; rw [t0', t1', t2', t3']; omega
          have g2 : ev.d (tn.sv 2 2 xs) ≤ 5000 := by unfold ev.d; rw [t0', t1', t2', t3']; omega
          have s0 : 0 < ys.length := by omega
          have s1 : 1 < ys.length := by omega
          have s2 : 2 < ys.length := by omega
          have s3 : 3 < ys.length := by omega
          have r0 : 0 < xs.length := by omega
          have r1 : 1 < xs.length := by omega
          have r2 : 2 < xs.length := by omega
          have r3 : 3 < xs.length := by omega
          have j0 : ((0 : Int) < 4) = True := by simp
          have j1 : ((1 : Int) < 4) = True := by simp
          have j2 : ((2 : Int) < 4) = True := by simp
          have j3 : ((3 : Int) < 4) = True := by simp
          have z1 : ((0 : Int) ≤ 1) = True := by simp
          have z2 : ((0 : Int) ≤ 2) = True := by simp
          have z3 : ((0 : Int) ≤ 3) = True := by simp
          have tt1 : (1 : Int).toNat = 1 := rfl
          have tt3 : (3 : Int).toNat = 3 := rfl
          have hcast : ((2 : Nat) : Int) = 2 := rfl
          rw [hcast] at hv hs ⊢
          simp only [tb.sp, hv, beq_self_eq_true, Bool.true_and] at hs
          cases hp : tb.pn.sp 2 2 xs ys
          · have hpu0 : (0 : Int) < ((pu.sv 2 2 xs ys).length : Int) := by
              have : ¬ ((pu.sv 2 2 xs ys).length = 0) := of_decide_eq_false hp
              omega
            simp -implicitDefEqProofs only [hpu0, l4', l4x', k1, k2, k3, k4, v3, e22, t2n, b2, w1, w2, w3, w4, n1, n2, d1, d2, u1, u2, u3, u4, m1, m2, g1, g2, s0, s1, s2, s3, r0, r1, r2, r3, j0, j1, j2, j3, z1, z2, z3, tt1, tt3, Int.toNat_zero, h3, h4, hv, Nat.le_refl, Int.le_refl, tb.four, and_self, eq_self, bne_self_eq_false, decide_true, decide_false, Bool.and_self, Bool.or_self, Bool.and_true, Bool.true_and, Bool.and_false, Bool.false_and, Bool.or_true, Bool.true_or, Bool.or_false, Bool.false_or, Bool.not_true, Bool.not_false, cond_true, cond_false]
          · have hpu0 : ¬ ((0 : Int) < ((pu.sv 2 2 xs ys).length : Int)) := by
              have : (pu.sv 2 2 xs ys).length = 0 := of_decide_eq_true hp
              omega
            rw [hp, Bool.true_and] at hs
            simp only [ev.ok.sp, ev.p.sv, ev.q.sv] at hs
            by_cases o1 : ev.d ys = 0
            · have o1b : (ev.d ys == 0) = true := by simpa using o1
              simp -implicitDefEqProofs only [hpu0, o1b, l4', l4x', k1, k2, k3, k4, v3, e22, t2n, b2, w1, w2, w3, w4, n1, n2, d1, d2, u1, u2, u3, u4, m1, m2, g1, g2, s0, s1, s2, s3, r0, r1, r2, r3, j0, j1, j2, j3, z1, z2, z3, tt1, tt3, Int.toNat_zero, h3, h4, hv, Nat.le_refl, Int.le_refl, tb.four, and_self, eq_self, bne_self_eq_false, decide_true, decide_false, Bool.and_self, Bool.or_self, Bool.and_true, Bool.true_and, Bool.and_false, Bool.false_and, Bool.or_true, Bool.true_or, Bool.or_false, Bool.false_or, Bool.not_true, Bool.not_false, cond_true, cond_false]
            · have o1b : (ev.d ys == 0) = false := by simpa using o1
              have o1c : (ev.d ys != 0) = true := by simpa using o1
              by_cases o4 : ev.d (tn.sv 2 2 xs) = 0
              · have o4b : (ev.d (tn.sv 2 2 xs) == 0) = true := by simpa using o4
                simp -implicitDefEqProofs only [hpu0, o1b, o4b, l4', l4x', k1, k2, k3, k4, v3, e22, t2n, b2, w1, w2, w3, w4, n1, n2, d1, d2, u1, u2, u3, u4, m1, m2, g1, g2, s0, s1, s2, s3, r0, r1, r2, r3, j0, j1, j2, j3, z1, z2, z3, tt1, tt3, Int.toNat_zero, h3, h4, hv, Nat.le_refl, Int.le_refl, tb.four, and_self, eq_self, bne_self_eq_false, decide_true, decide_false, Bool.and_self, Bool.or_self, Bool.and_true, Bool.true_and, Bool.and_false, Bool.false_and, Bool.or_true, Bool.true_or, Bool.or_false, Bool.false_or, Bool.not_true, Bool.not_false, cond_true, cond_false]
              · have o4b : (ev.d (tn.sv 2 2 xs) == 0) = false := by simpa using o4
                have o4c : (ev.d (tn.sv 2 2 xs) != 0) = true := by simpa using o4
                rw [o1c, o4c, Bool.true_and, Bool.true_and] at hs
                generalize hb1 : (decide (0 ≤ rd.p.sv (ev.n ys) (ev.d ys)) && decide (rd.p.sv (ev.n ys) (ev.d ys) ≤ rd.q.sv (ev.n ys) (ev.d ys))) = bb1 at hs
                generalize hb2 : (decide (0 ≤ rd.p.sv (ev.n (tn.sv 2 2 xs)) (ev.d (tn.sv 2 2 xs))) && decide (rd.p.sv (ev.n (tn.sv 2 2 xs)) (ev.d (tn.sv 2 2 xs)) ≤ rd.q.sv (ev.n (tn.sv 2 2 xs)) (ev.d (tn.sv 2 2 xs)))) = bb2 at hs
                cases bb1
                · simp -implicitDefEqProofs only [hpu0, hb1, o1, o1b, o4, o4b, not_false_eq_true, ne_eq, l4', l4x', k1, k2, k3, k4, v3, e22, t2n, b2, w1, w2, w3, w4, n1, n2, d1, d2, u1, u2, u3, u4, m1, m2, g1, g2, s0, s1, s2, s3, r0, r1, r2, r3, j0, j1, j2, j3, z1, z2, z3, tt1, tt3, Int.toNat_zero, h3, h4, hv, Nat.le_refl, Int.le_refl, tb.four, and_self, eq_self, bne_self_eq_false, decide_true, decide_false, Bool.and_self, Bool.or_self, Bool.and_true, Bool.true_and, Bool.and_false, Bool.false_and, Bool.or_true, Bool.true_or, Bool.or_false, Bool.false_or, Bool.not_true, Bool.not_false, cond_true, cond_false]
                · cases bb2
                  · simp -implicitDefEqProofs only [hpu0, hb1, hb2, o1, o1b, o4, o4b, not_false_eq_true, ne_eq, l4', l4x', k1, k2, k3, k4, v3, e22, t2n, b2, w1, w2, w3, w4, n1, n2, d1, d2, u1, u2, u3, u4, m1, m2, g1, g2, s0, s1, s2, s3, r0, r1, r2, r3, j0, j1, j2, j3, z1, z2, z3, tt1, tt3, Int.toNat_zero, h3, h4, hv, Nat.le_refl, Int.le_refl, tb.four, and_self, eq_self, bne_self_eq_false, decide_true, decide_false, Bool.and_self, Bool.or_self, Bool.and_true, Bool.true_and, Bool.and_false, Bool.false_and, Bool.or_true, Bool.true_or, Bool.or_false, Bool.false_or, Bool.not_true, Bool.not_false, cond_true, cond_false]
                  · exfalso
                    simp only [Bool.and_eq_true, decide_eq_true_eq] at hb1 hb2
                    obtain ⟨q1, q2⟩ := hb1
                    obtain ⟨q3, q4⟩ := hb2
                    simp [q1, q2, q3, q4] at hs
        · have nc : ((c : Int) != 2) = true := by simpa using hcc
          have er : ((r : Int) != 2) = false := by rw [hrr]; rfl
          simp -implicitDefEqProofs only [nc, er, h3, h4, hv, Nat.le_refl, Int.le_refl, tb.four, and_self, eq_self, bne_self_eq_false, decide_true, decide_false, Bool.and_self, Bool.or_self, Bool.and_true, Bool.true_and, Bool.and_false, Bool.false_and, Bool.or_true, Bool.true_or, Bool.or_false, Bool.false_or, Bool.not_true, Bool.not_false, cond_true, cond_false]
      · have nr : ((r : Int) != 2) = true := by simpa using hrr
        simp -implicitDefEqProofs only [nr, h3, h4, hv, Nat.le_refl, Int.le_refl, tb.four, and_self, eq_self, bne_self_eq_false, decide_true, decide_false, Bool.and_self, Bool.or_self, Bool.and_true, Bool.true_and, Bool.and_false, Bool.false_and, Bool.or_true, Bool.true_or, Bool.or_false, Bool.false_or, Bool.not_true, Bool.not_false, cond_true, cond_false]
  · cases h
theorem ok : EntOk Try.prog ⟨35, R⟩ :=
  ent_okA mixed (A := (orc [⟨49, l02Is.R⟩, ⟨60, l02Pure.R⟩, ⟨77, l02Least2.R⟩, ⟨54, l00In.R⟩])) (orc_ok (by simp only [List.mem_cons, List.not_mem_nil, or_false, forall_eq_or_imp, forall_eq]; exact ⟨l02Is.ok, l02Pure.ok, l02Least2.ok, l00In.ok⟩)) Try.func35 (by kernel_rfl) (by kernel_rfl) (n := 114) (ts := [2, 3]) (hd := hd0) (dr := Dr.std) (cut := (some 0)) (by kernel_rfl) (by kernel_rfl) (by kernel_rfl) run
end sTwoByTwo_f

namespace sTwoByTwo
def Rt := sTwoByTwo_t.R
def Rf := sTwoByTwo_f.R
theorem okt : EntOk Try.prog ⟨35, Rt⟩ := sTwoByTwo_t.ok
theorem okf : EntOk Try.prog ⟨35, Rf⟩ := sTwoByTwo_f.ok
end sTwoByTwo

namespace FnExactTwoByTwot
def R : List AVal → Option (Bool × AVal × List Blk)
  | [.agg [.int .i64 u, .int .i64 r, .ro (.ints .i64 ws) mw 1, .ro (.ints .i64 cs) mc 1]] => some (decide (mw ≤ ws.length ∧ mc ≤ cs.length ∧ mw ≤ 9223372036854775807 ∧ mc ≤ 9223372036854775807) && (decide ((1048576 : Int) - (mw : Int) < 0 ∨ (1048576 : Int) - (mw : Int) - (mc : Int) < 0) || (tb.sp u r (ws.take mw) (cs.take mc))), .bool true, [])
  | _ => none
theorem go (u r : Int) (ws cs : List Int) (mw mc : Nat) :
  runFn Try.prog (orcW [⟨18, markGameN.R⟩, ⟨23, markInt64S.R⟩] [⟨13, szGame.R⟩, ⟨15, toGame.R⟩, ⟨17, eqGameN.R⟩, ⟨35, sTwoByTwo.Rt⟩, ⟨36, iTwoByTwo.Rt⟩, ⟨22, eqInt64N.R⟩, ⟨24, heldInt64S.R⟩]) hd0 Dr.std (some 0) 0 (bodyOf Try.f10) 96 [2] [.agg [.int .i64 u, .int .i64 r, .ro (.ints .i64 ws) mw 1, .ro (.ints .i64 cs) mc 1]] []
  = (bif true && true && (true && true && (true && true && (true && true && true))) then bif decide (mw ≤ (9223372036854775807 : Nat) ∧ mc ≤ (9223372036854775807 : Nat) ∧ (0 : Int) ≤ (1048576 : Int) ∧ (1048576 : Int) ≤ (9223372036854775807 : Int)) && (true && (true && (true && (true && true))) && true || true && true) then bif decide ((bif decide ((1048576 : Int) - (↑mw : Int) < (0 : Int)) then (-1 : Int) else bif decide ((1048576 : Int) - (↑mw : Int) - (↑mc : Int) < (0 : Int)) then (-1 : Int) else (1048576 : Int) - (↑mw : Int) - (↑mc : Int)) < (0 : Int)) then some (AVal.bool true, []) else bif true && true && (true && true && (true && true && (true && true && true))) then bif decide (mw ≤ ws.length ∧ mw ≤ (1048576 : Nat) ∧ mc ≤ cs.length ∧ mc ≤ (1048576 : Nat)) && (true && (true && (true && (true && true))) && true || true && (true && (true && (true && true))) && (true && (true && true))) then bif decide (mw = (List.take mw ws).length ∧ mc = (List.take mc cs).length ∧ mw ≤ (4611686018427387904 : Nat) ∧ mc ≤ (4611686018427387904 : Nat)) && tb.sp u r (List.take mw ws) (List.take mc cs) && (true && (true && (false && (false && true))) && true || true && true && (true && true)) then bif true && true && (true && true && (true && true && (true && true && true))) then bif decide (mw ≤ ws.length ∧ mw ≤ (1048576 : Nat) ∧ mc ≤ cs.length ∧ mc ≤ (1048576 : Nat)) && (true && (true && (true && (true && true))) && true || true && (true && (true && (true && true))) && (true && (true && true))) then bif true && (true && (true && (true && (true && (true && true))))) then bif true && true && (true && true && (true && true && (true && true && true))) then bif decide (mw = (List.take mw ws).length ∧ mc = (List.take mc cs).length ∧ mw ≤ (4611686018427387904 : Nat) ∧ mc ≤ (4611686018427387904 : Nat)) && tb.sp u r (List.take mw ws) (List.take mc cs) && (true && (true && (false && (false && true))) && true || true && true && (true && true)) then bif decide ((tb.l.sv (List.take mw ws) (List.take mc cs)).length ≤ (tb.l.sv (List.take mw ws) (List.take mc cs)).length ∧ (tb.l.sv (List.take mw ws) (List.take mc cs)).length ≤ (tb.l.sv (List.take mw ws) (List.take mc cs)).length ∧ (tb.l.sv (List.take mw ws) (List.take mc cs)).length ≤ (4611686018427387904 : Nat)) && (false && (false && true) || true && true) then bif !decide (List.take (tb.l.sv (List.take mw ws) (List.take mc cs)).length (tb.l.sv (List.take mw ws) (List.take mc cs)) = List.take (tb.l.sv (List.take mw ws) (List.take mc cs)).length (tb.l.sv (List.take mw ws) (List.take mc cs))) then some (AVal.bool false, []) else bif true && true && (true && true && (true && true && (true && true && true))) then bif true && true && (true && true && (true && true && (true && true && true))) then bif decide (mw ≤ ws.length ∧ mw ≤ (1048576 : Nat) ∧ mc ≤ cs.length ∧ mc ≤ (1048576 : Nat)) && (true && (true && (true && (true && true))) && true || true && (true && (true && (true && true))) && (true && (true && true))) then bif decide (mw ≤ (List.take mw ws).length ∧ mw ≤ (List.take mw ws).length ∧ mw ≤ (4611686018427387904 : Nat) ∧ mc ≤ (List.take mc cs).length ∧ mc ≤ (List.take mc cs).length ∧ mc ≤ (4611686018427387904 : Nat)) && (true && (true && (false && (false && true))) && (true && (true && (false && (false && true))) && true) || true && true) then bif !(decide (u = u) && (decide (r = r) && (decide (List.take mw (List.take mw ws) = List.take mw (List.take mw ws)) && decide (List.take mc (List.take mc cs) = List.take mc (List.take mc cs))))) then some (AVal.bool false, []) else bif true && true && (true && true && (true && true && (true && true && true))) then bif decide (mw = (List.take mw ws).length ∧ mw ≤ (1048576 : Nat) ∧ mc = (List.take mc cs).length ∧ mc ≤ (1048576 : Nat) ∧ (0 : Int) ≤ (1 : Int) ∧ (1 : Int) ≤ (100000000 : Int)) && (true && (true && true) && (true && (true && true))) then bif decide ((1 : Int) + (↑mw : Int) + (↑mc : Int) < (0 : Int)) then some (AVal.bool false, []) else bif decide ((tb.l.sv (List.take mw ws) (List.take mc cs)).length ≤ (tb.l.sv (List.take mw ws) (List.take mc cs)).length ∧ (tb.l.sv (List.take mw ws) (List.take mc cs)).length ≤ (tb.l.sv (List.take mw ws) (List.take mc cs)).length ∧ (tb.l.sv (List.take mw ws) (List.take mc cs)).length ≤ (4611686018427387904 : Nat)) && (false && (false && true) || true && true) then bif !decide (List.take (tb.l.sv (List.take mw ws) (List.take mc cs)).length (tb.l.sv (List.take mw ws) (List.take mc cs)) = List.take (tb.l.sv (List.take mw ws) (List.take mc cs)).length (tb.l.sv (List.take mw ws) (List.take mc cs))) then some (AVal.bool false, []) else bif decide ((tb.l.sv (List.take mw ws) (List.take mc cs)).length = (tb.l.sv (List.take mw ws) (List.take mc cs)).length ∧ (tb.l.sv (List.take mw ws) (List.take mc cs)).length ≤ (4611686018427387904 : Nat) ∧ (0 : Int) ≤ (1 : Int) ∧ (1 : Int) ≤ (1000000000 : Int)) && (true && true && (true && true)) then bif decide ((tb.l.sv (List.take mw ws) (List.take mc cs)).length ≤ (marks.sv (1 : Int) (tb.l.sv (List.take mw ws) (List.take mc cs)).length).length ∧ (tb.l.sv (List.take mw ws) (List.take mc cs)).length ≤ (4611686018427387904 : Nat) ∧ (0 : Int) ≤ (1 : Int) ∧ (1 : Int) ≤ (1000000000 : Int)) && (false && true || true && true) then bif decide ((bif decide (List.take (tb.l.sv (List.take mw ws) (List.take mc cs)).length (marks.sv (1 : Int) (tb.l.sv (List.take mw ws) (List.take mc cs)).length) = marks.sv (1 : Int) (tb.l.sv (List.take mw ws) (List.take mc cs)).length) then (1 : Int) + (↑(tb.l.sv (List.take mw ws) (List.take mc cs)).length : Int) else (-1 : Int)) < (0 : Int)) then some (AVal.bool false, []) else bif (bif decide (List.take (tb.l.sv (List.take mw ws) (List.take mc cs)).length (marks.sv (1 : Int) (tb.l.sv (List.take mw ws) (List.take mc cs)).length) = marks.sv (1 : Int) (tb.l.sv (List.take mw ws) (List.take mc cs)).length) then (1 : Int) + (↑(tb.l.sv (List.take mw ws) (List.take mc cs)).length : Int) else (-1 : Int)) != (1 : Int) + (↑(tb.l.sv (List.take mw ws) (List.take mc cs)).length : Int) then some (AVal.bool false, []) else bif true && true && (true && true && (true && true && (true && true && true))) then bif decide (mw ≤ ws.length ∧ mw ≤ (1048576 : Nat) ∧ mc ≤ cs.length ∧ mc ≤ (1048576 : Nat)) && (true && (true && (true && (true && true))) && true || true && (true && (true && (true && true))) && (true && (true && true))) then bif decide (mw = (List.take mw ws).length ∧ mc = (List.take mc cs).length ∧ mw ≤ (4611686018427387904 : Nat) ∧ mc ≤ (4611686018427387904 : Nat)) && tb.sp u r (List.take mw ws) (List.take mc cs) && (true && (true && (false && (false && true))) && true || true && true && (true && true)) then bif decide ((tb.l.sv (List.take mw ws) (List.take mc cs)).length ≤ (tb.l.sv (List.take mw ws) (List.take mc cs)).length ∧ (tb.l.sv (List.take mw ws) (List.take mc cs)).length ≤ (tb.l.sv (List.take mw ws) (List.take mc cs)).length ∧ (tb.l.sv (List.take mw ws) (List.take mc cs)).length ≤ (4611686018427387904 : Nat)) && (false && (false && true) || true && true) then bif !decide (List.take (tb.l.sv (List.take mw ws) (List.take mc cs)).length (tb.l.sv (List.take mw ws) (List.take mc cs)) = List.take (tb.l.sv (List.take mw ws) (List.take mc cs)).length (tb.l.sv (List.take mw ws) (List.take mc cs))) then some (AVal.bool false, []) else bif decide ((tb.l.sv (List.take mw ws) (List.take mc cs)).length ≤ (marks.sv (1 : Int) (tb.l.sv (List.take mw ws) (List.take mc cs)).length).length ∧ (tb.l.sv (List.take mw ws) (List.take mc cs)).length ≤ (4611686018427387904 : Nat) ∧ (0 : Int) ≤ (1 : Int) ∧ (1 : Int) ≤ (1000000000 : Int)) && (false && true || true && true) then bif decide ((bif decide (List.take (tb.l.sv (List.take mw ws) (List.take mc cs)).length (marks.sv (1 : Int) (tb.l.sv (List.take mw ws) (List.take mc cs)).length) = marks.sv (1 : Int) (tb.l.sv (List.take mw ws) (List.take mc cs)).length) then (1 : Int) + (↑(tb.l.sv (List.take mw ws) (List.take mc cs)).length : Int) else (-1 : Int)) < (0 : Int)) then some (AVal.bool false, []) else bif (bif decide (List.take (tb.l.sv (List.take mw ws) (List.take mc cs)).length (marks.sv (1 : Int) (tb.l.sv (List.take mw ws) (List.take mc cs)).length) = marks.sv (1 : Int) (tb.l.sv (List.take mw ws) (List.take mc cs)).length) then (1 : Int) + (↑(tb.l.sv (List.take mw ws) (List.take mc cs)).length : Int) else (-1 : Int)) != (1 : Int) + (↑(tb.l.sv (List.take mw ws) (List.take mc cs)).length : Int) then some (AVal.bool false, []) else some (AVal.bool true, []) else none else none else none else none else none else none else none else none else none else none else none else none else none else none else none else none else none else none else none else none else none else none else none else none else none) := by kernel_rfl
theorem run : ∀ args v new, R args = some (true, v, new) → ∃ fuel, runFn Try.prog (orcW [⟨18, markGameN.R⟩, ⟨23, markInt64S.R⟩] [⟨13, szGame.R⟩, ⟨15, toGame.R⟩, ⟨17, eqGameN.R⟩, ⟨35, sTwoByTwo.Rt⟩, ⟨36, iTwoByTwo.Rt⟩, ⟨22, eqInt64N.R⟩, ⟨24, heldInt64S.R⟩]) hd0 Dr.std (some 0) fuel (bodyOf Try.f10) 96 [2] args [] = some (v, new) := by
  intro args v new h
  unfold R at h
  split at h
  · rename_i u r ws mw cs mc
    simp only [Option.some.injEq, Prod.mk.injEq, Bool.or_eq_true, Bool.and_eq_true, decide_eq_true_eq, Bool.not_eq_true'] at h
    obtain ⟨⟨⟨h1, h2, h3, h4⟩, hc⟩, rfl, rfl⟩ := h
    refine ⟨0, ?_⟩
    rw [go]
    have z1 : (0 : Int) ≤ 1048576 := by decide
    have z2 : (1048576 : Int) ≤ 9223372036854775807 := by decide
    have z3 : (-1 : Int) < 0 := by decide
    by_cases a1 : (1048576 : Int) - (mw : Int) < 0
    · simp only [a1, h3, h4, z1, z2, z3, List.take_take, Nat.min_self, Nat.le_refl, List.take_length, marks_length, take_marks, one_neg, i0_1, i1_b, true_and, and_true, and_self, decide_true, decide_false, Bool.and_self, Bool.or_self, Bool.and_true, Bool.true_and, Bool.and_false, Bool.false_and, Bool.or_true, Bool.true_or, Bool.or_false, Bool.false_or, Bool.not_true, Bool.not_false, cond_true, cond_false, bne_self_eq_false, beq_self_eq_true]
    by_cases a2 : (1048576 : Int) - (mw : Int) - (mc : Int) < 0
    · simp only [a1, a2, h3, h4, z1, z2, z3, List.take_take, Nat.min_self, Nat.le_refl, List.take_length, marks_length, take_marks, one_neg, i0_1, i1_b, true_and, and_true, and_self, decide_true, decide_false, Bool.and_self, Bool.or_self, Bool.and_true, Bool.true_and, Bool.and_false, Bool.false_and, Bool.or_true, Bool.true_or, Bool.or_false, Bool.false_or, Bool.not_true, Bool.not_false, cond_true, cond_false, bne_self_eq_false, beq_self_eq_true]
    rcases hc with hc | hc
    · exact absurd hc (by omega)
    have b1 : mw ≤ 1048576 := by omega
    have b2 : mc ≤ 1048576 := by omega
    have b5 : mw ≤ 4611686018427387904 := by omega
    have b6 : mc ≤ 4611686018427387904 := by omega
    have e1 : (ws.take mw).length = mw := by simp; omega
    have e2 : (cs.take mc).length = mc := by simp; omega
    have k0 : (1 : Int) ≤ 100000000 := by decide
    have k0b : (1 : Int) ≤ 1000000000 := by decide
    have k0a : (0 : Int) ≤ 1 := by decide
    have k1 : (0 : Int) ≤ 1 + (mw : Int) + (mc : Int) := by omega
    have k2 : 1 + (mw : Int) + (mc : Int) ≤ 1000000000 := by omega
    have k3 : ¬ (1 + (mw : Int) + (mc : Int) < 0) := by omega
    have o0 : (tb.l.sv (ws.take mw) (cs.take mc)).length ≤ 1000000 := by unfold tb.l.sv; simp
    have oa0 : (tb.l.sv (ws.take mw) (cs.take mc)).length ≤ 1048576 := by omega
    have ob0 : (tb.l.sv (ws.take mw) (cs.take mc)).length ≤ 4611686018427387904 := by omega
    have oc0 : (0 : Int) ≤ 1 + ((tb.l.sv (ws.take mw) (cs.take mc)).length : Int) := by omega
    have od0 : 1 + ((tb.l.sv (ws.take mw) (cs.take mc)).length : Int) ≤ 1000000000 := by omega
    have oe0 : ¬ (1 + ((tb.l.sv (ws.take mw) (cs.take mc)).length : Int) < 0) := by omega
    simp only [h3, h4, z1, z2, z3, a1, a2, b1, b2, b5, b6, e1, e2, h1, h2, k0, k0a, k0b, k1, k2, k3, hc, oa0, ob0, oc0, od0, oe0, List.take_take, Nat.min_self, Nat.le_refl, List.take_length, marks_length, take_marks, one_neg, i0_1, i1_b, true_and, and_true, and_self, decide_true, decide_false, Bool.and_self, Bool.or_self, Bool.and_true, Bool.true_and, Bool.and_false, Bool.false_and, Bool.or_true, Bool.true_or, Bool.or_false, Bool.false_or, Bool.not_true, Bool.not_false, cond_true, cond_false, bne_self_eq_false, beq_self_eq_true, eq_self, bne_self_eq_false]
  · cases h
theorem ok : EntOk Try.prog ⟨10, R⟩ :=
  ent_okA mixed (A := (orcW [⟨18, markGameN.R⟩, ⟨23, markInt64S.R⟩] [⟨13, szGame.R⟩, ⟨15, toGame.R⟩, ⟨17, eqGameN.R⟩, ⟨35, sTwoByTwo.Rt⟩, ⟨36, iTwoByTwo.Rt⟩, ⟨22, eqInt64N.R⟩, ⟨24, heldInt64S.R⟩])) (orcW_ok (by simp only [List.mem_cons, List.not_mem_nil, or_false, forall_eq_or_imp, forall_eq]; exact ⟨markGameN.ok, markInt64S.ok⟩) (by simp only [List.mem_cons, List.not_mem_nil, or_false, forall_eq_or_imp, forall_eq]; exact ⟨szGame.ok, toGame.ok, eqGameN.ok, sTwoByTwo.okt, iTwoByTwo.okt, eqInt64N.ok, heldInt64S.ok⟩)) Try.func10 (by kernel_rfl) (by kernel_rfl) (n := 96) (ts := [2]) (hd := hd0) (dr := Dr.std) (cut := (some 0)) (by kernel_rfl) (by kernel_rfl) (by kernel_rfl) run
end FnExactTwoByTwot

namespace FnExactTwoByTwof
def R : List AVal → Option (Bool × AVal × List Blk)
  | [.agg [.int .i64 u, .int .i64 r, .ro (.ints .i64 ws) mw 1, .ro (.ints .i64 cs) mc 1]] => some (decide (mw ≤ ws.length ∧ mc ≤ cs.length ∧ mw ≤ 9223372036854775807 ∧ mc ≤ 9223372036854775807) && (decide ((1048576 : Int) - (mw : Int) < 0 ∨ (1048576 : Int) - (mw : Int) - (mc : Int) < 0) || !(tb.sp u r (ws.take mw) (cs.take mc))), .bool true, [])
  | _ => none
theorem go (u r : Int) (ws cs : List Int) (mw mc : Nat) :
  runFn Try.prog (orcW [⟨18, markGameN.R⟩, ⟨23, markInt64S.R⟩] [⟨13, szGame.R⟩, ⟨15, toGame.R⟩, ⟨17, eqGameN.R⟩, ⟨35, sTwoByTwo.Rf⟩, ⟨36, iTwoByTwo.Rf⟩, ⟨22, eqInt64N.R⟩, ⟨24, heldInt64S.R⟩]) hd0 Dr.std (some 0) 0 (bodyOf Try.f10) 96 [2] [.agg [.int .i64 u, .int .i64 r, .ro (.ints .i64 ws) mw 1, .ro (.ints .i64 cs) mc 1]] []
  = (bif true && true && (true && true && (true && true && (true && true && true))) then bif decide (mw ≤ (9223372036854775807 : Nat) ∧ mc ≤ (9223372036854775807 : Nat) ∧ (0 : Int) ≤ (1048576 : Int) ∧ (1048576 : Int) ≤ (9223372036854775807 : Int)) && (true && (true && (true && (true && true))) && true || true && true) then bif decide ((bif decide ((1048576 : Int) - (↑mw : Int) < (0 : Int)) then (-1 : Int) else bif decide ((1048576 : Int) - (↑mw : Int) - (↑mc : Int) < (0 : Int)) then (-1 : Int) else (1048576 : Int) - (↑mw : Int) - (↑mc : Int)) < (0 : Int)) then some (AVal.bool true, []) else bif true && true && (true && true && (true && true && (true && true && true))) then bif decide (mw ≤ ws.length ∧ mw ≤ (1048576 : Nat) ∧ mc ≤ cs.length ∧ mc ≤ (1048576 : Nat)) && (true && (true && (true && (true && true))) && true || true && (true && (true && (true && true))) && (true && (true && true))) then bif decide (mw = (List.take mw ws).length ∧ mc = (List.take mc cs).length ∧ mw ≤ (4611686018427387904 : Nat) ∧ mc ≤ (4611686018427387904 : Nat)) && !tb.sp u r (List.take mw ws) (List.take mc cs) && (true && (true && (false && (false && true))) && true || true && true) then bif true && true && (true && true && (true && true && (true && true && true))) then bif decide (mw ≤ ws.length ∧ mw ≤ (1048576 : Nat) ∧ mc ≤ cs.length ∧ mc ≤ (1048576 : Nat)) && (true && (true && (true && (true && true))) && true || true && (true && (true && (true && true))) && (true && (true && true))) then bif true && (true && (true && (true && (true && (true && true))))) then bif true && true && (true && true && (true && true && (true && true && true))) then bif decide (mw = (List.take mw ws).length ∧ mc = (List.take mc cs).length ∧ mw ≤ (4611686018427387904 : Nat) ∧ mc ≤ (4611686018427387904 : Nat)) && !tb.sp u r (List.take mw ws) (List.take mc cs) && (true && (true && (false && (false && true))) && true || true && true) then bif true && true && (true && true && (true && true && (true && true && true))) then bif true && true && (true && true && (true && true && (true && true && true))) then bif decide (mw ≤ ws.length ∧ mw ≤ (1048576 : Nat) ∧ mc ≤ cs.length ∧ mc ≤ (1048576 : Nat)) && (true && (true && (true && (true && true))) && true || true && (true && (true && (true && true))) && (true && (true && true))) then bif decide (mw ≤ (List.take mw ws).length ∧ mw ≤ (List.take mw ws).length ∧ mw ≤ (4611686018427387904 : Nat) ∧ mc ≤ (List.take mc cs).length ∧ mc ≤ (List.take mc cs).length ∧ mc ≤ (4611686018427387904 : Nat)) && (true && (true && (false && (false && true))) && (true && (true && (false && (false && true))) && true) || true && true) then bif !(decide (u = u) && (decide (r = r) && (decide (List.take mw (List.take mw ws) = List.take mw (List.take mw ws)) && decide (List.take mc (List.take mc cs) = List.take mc (List.take mc cs))))) then some (AVal.bool false, []) else bif true && true && (true && true && (true && true && (true && true && true))) then bif decide (mw = (List.take mw ws).length ∧ mw ≤ (1048576 : Nat) ∧ mc = (List.take mc cs).length ∧ mc ≤ (1048576 : Nat) ∧ (0 : Int) ≤ (1 : Int) ∧ (1 : Int) ≤ (100000000 : Int)) && (true && (true && true) && (true && (true && true))) then bif decide ((1 : Int) + (↑mw : Int) + (↑mc : Int) < (0 : Int)) then some (AVal.bool false, []) else bif true && (true && true) then bif true && true && (true && true && (true && true && (true && true && true))) then bif decide (mw ≤ ws.length ∧ mw ≤ (1048576 : Nat) ∧ mc ≤ cs.length ∧ mc ≤ (1048576 : Nat)) && (true && (true && (true && (true && true))) && true || true && (true && (true && (true && true))) && (true && (true && true))) then bif decide (mw = (List.take mw ws).length ∧ mc = (List.take mc cs).length ∧ mw ≤ (4611686018427387904 : Nat) ∧ mc ≤ (4611686018427387904 : Nat)) && !tb.sp u r (List.take mw ws) (List.take mc cs) && (true && (true && (false && (false && true))) && true || true && true) then some (AVal.bool true, []) else none else none else none else none else none else none else none else none else none else none else none else none else none else none else none else none else none else none else none else none) := by kernel_rfl
theorem run : ∀ args v new, R args = some (true, v, new) → ∃ fuel, runFn Try.prog (orcW [⟨18, markGameN.R⟩, ⟨23, markInt64S.R⟩] [⟨13, szGame.R⟩, ⟨15, toGame.R⟩, ⟨17, eqGameN.R⟩, ⟨35, sTwoByTwo.Rf⟩, ⟨36, iTwoByTwo.Rf⟩, ⟨22, eqInt64N.R⟩, ⟨24, heldInt64S.R⟩]) hd0 Dr.std (some 0) fuel (bodyOf Try.f10) 96 [2] args [] = some (v, new) := by
  intro args v new h
  unfold R at h
  split at h
  · rename_i u r ws mw cs mc
    simp only [Option.some.injEq, Prod.mk.injEq, Bool.or_eq_true, Bool.and_eq_true, decide_eq_true_eq, Bool.not_eq_true'] at h
    obtain ⟨⟨⟨h1, h2, h3, h4⟩, hc⟩, rfl, rfl⟩ := h
    refine ⟨0, ?_⟩
    rw [go]
    have z1 : (0 : Int) ≤ 1048576 := by decide
    have z2 : (1048576 : Int) ≤ 9223372036854775807 := by decide
    have z3 : (-1 : Int) < 0 := by decide
    by_cases a1 : (1048576 : Int) - (mw : Int) < 0
    · simp only [a1, h3, h4, z1, z2, z3, List.take_take, Nat.min_self, Nat.le_refl, List.take_length, marks_length, take_marks, one_neg, i0_1, i1_b, true_and, and_true, and_self, decide_true, decide_false, Bool.and_self, Bool.or_self, Bool.and_true, Bool.true_and, Bool.and_false, Bool.false_and, Bool.or_true, Bool.true_or, Bool.or_false, Bool.false_or, Bool.not_true, Bool.not_false, cond_true, cond_false, bne_self_eq_false, beq_self_eq_true]
    by_cases a2 : (1048576 : Int) - (mw : Int) - (mc : Int) < 0
    · simp only [a1, a2, h3, h4, z1, z2, z3, List.take_take, Nat.min_self, Nat.le_refl, List.take_length, marks_length, take_marks, one_neg, i0_1, i1_b, true_and, and_true, and_self, decide_true, decide_false, Bool.and_self, Bool.or_self, Bool.and_true, Bool.true_and, Bool.and_false, Bool.false_and, Bool.or_true, Bool.true_or, Bool.or_false, Bool.false_or, Bool.not_true, Bool.not_false, cond_true, cond_false, bne_self_eq_false, beq_self_eq_true]
    rcases hc with hc | hc
    · exact absurd hc (by omega)
    have b1 : mw ≤ 1048576 := by omega
    have b2 : mc ≤ 1048576 := by omega
    have b5 : mw ≤ 4611686018427387904 := by omega
    have b6 : mc ≤ 4611686018427387904 := by omega
    have e1 : (ws.take mw).length = mw := by simp; omega
    have e2 : (cs.take mc).length = mc := by simp; omega
    have k0 : (1 : Int) ≤ 100000000 := by decide
    have k0b : (1 : Int) ≤ 1000000000 := by decide
    have k0a : (0 : Int) ≤ 1 := by decide
    have k1 : (0 : Int) ≤ 1 + (mw : Int) + (mc : Int) := by omega
    have k2 : 1 + (mw : Int) + (mc : Int) ≤ 1000000000 := by omega
    have k3 : ¬ (1 + (mw : Int) + (mc : Int) < 0) := by omega
    simp only [h3, h4, z1, z2, z3, a1, a2, b1, b2, b5, b6, e1, e2, h1, h2, k0, k0a, k0b, k1, k2, k3, hc, List.take_take, Nat.min_self, Nat.le_refl, List.take_length, marks_length, take_marks, one_neg, i0_1, i1_b, true_and, and_true, and_self, decide_true, decide_false, Bool.and_self, Bool.or_self, Bool.and_true, Bool.true_and, Bool.and_false, Bool.false_and, Bool.or_true, Bool.true_or, Bool.or_false, Bool.false_or, Bool.not_true, Bool.not_false, cond_true, cond_false, bne_self_eq_false, beq_self_eq_true, eq_self, bne_self_eq_false]
  · cases h
theorem ok : EntOk Try.prog ⟨10, R⟩ :=
  ent_okA mixed (A := (orcW [⟨18, markGameN.R⟩, ⟨23, markInt64S.R⟩] [⟨13, szGame.R⟩, ⟨15, toGame.R⟩, ⟨17, eqGameN.R⟩, ⟨35, sTwoByTwo.Rf⟩, ⟨36, iTwoByTwo.Rf⟩, ⟨22, eqInt64N.R⟩, ⟨24, heldInt64S.R⟩])) (orcW_ok (by simp only [List.mem_cons, List.not_mem_nil, or_false, forall_eq_or_imp, forall_eq]; exact ⟨markGameN.ok, markInt64S.ok⟩) (by simp only [List.mem_cons, List.not_mem_nil, or_false, forall_eq_or_imp, forall_eq]; exact ⟨szGame.ok, toGame.ok, eqGameN.ok, sTwoByTwo.okf, iTwoByTwo.okf, eqInt64N.ok, heldInt64S.ok⟩)) Try.func10 (by kernel_rfl) (by kernel_rfl) (n := 96) (ts := [2]) (hd := hd0) (dr := Dr.std) (cut := (some 0)) (by kernel_rfl) (by kernel_rfl) (by kernel_rfl) run
end FnExactTwoByTwof

namespace FnExactTwoByTwo
def R : List AVal → Option (Bool × AVal × List Blk)
  | [.agg [.int .i64 u, .int .i64 r, .ro (.ints .i64 ws) mw 1, .ro (.ints .i64 cs) mc 1]] => some (decide (mw ≤ ws.length ∧ mc ≤ cs.length ∧ mw ≤ 9223372036854775807 ∧ mc ≤ 9223372036854775807), .bool true, [])
  | _ => none
theorem ok : EntOk Try.prog ⟨10, R⟩ := by
  refine EntOk.cases FnExactTwoByTwot.ok FnExactTwoByTwof.ok fun args v new h => ?_
  unfold R at h
  split at h
  · rename_i u r ws mw cs mc
    simp only [Option.some.injEq, Prod.mk.injEq, decide_eq_true_eq] at h
    obtain ⟨h, rfl, rfl⟩ := h
    simp only [FnExactTwoByTwot.R, FnExactTwoByTwof.R, Option.some.injEq, Prod.mk.injEq, Bool.or_eq_true, Bool.and_eq_true, decide_eq_true_eq, Bool.not_eq_true', and_true]
    cases hc : (tb.sp u r (ws.take mw) (cs.take mc) : Bool)
    · exact .inr ⟨h, .inr (by first | rfl | exact hc | simpa only [Bool.and_eq_true, decide_eq_true_eq] using hc)⟩
    · exact .inl ⟨h, .inr (by first | rfl | exact hc | simpa only [Bool.and_eq_true, decide_eq_true_eq] using hc)⟩
  · cases h
end FnExactTwoByTwo

end Go.Proofs.Ytnakiceojcomlaa.Ab
