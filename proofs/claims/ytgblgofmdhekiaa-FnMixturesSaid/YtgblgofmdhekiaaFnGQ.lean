/-
  Functions: games of two rows and two columns.
-/
import Derived.Test.YtgblgofmdhekiaaFnGP
namespace Go.Proofs.Ytgblgofmdhekiaa.Ab
open Go
set_option linter.unusedVariables false
set_option linter.unusedSimpArgs false
set_option maxRecDepth 100000

namespace ev
/-- The chance of the first row with which both columns gain as much; four gains, row by row. -/
def n (l : List Int) : Int := gz l 3 - gz l 2
def d (l : List Int) : Int := gz l 0 - gz l 2 - gz l 1 + gz l 3
def p.sv (l : List Int) : Int := rd.p.sv (ev.n l) (ev.d l)
def q.sv (l : List Int) : Int := rd.q.sv (ev.n l) (ev.d l)
def ok.sp (l : List Int) : Bool := (ev.d l != 0) && (decide (0 ≤ ev.p.sv l) && decide (ev.p.sv l ≤ ev.q.sv l))
theorem d_spec (l : List Int) : gz l 0 - gz l 1 - gz l 2 + gz l 3 = ev.d l := by unfold d; omega
end ev
namespace tb
def pn.sp (r c : Int) (xs ys : List Int) : Bool := decide ((pu.sv r.toNat c.toNat xs ys).length = 0)
def sp (r c : Int) (xs ys : List Int) : Bool := (((gm.sp r c xs ys && (r == 2)) && (c == 2)) && tb.pn.sp r c xs ys) && (ev.ok.sp ys && ev.ok.sp (tn.sv 2 2 xs))
def l.sv (xs ys : List Int) : List Int := [ev.p.sv ys, ev.q.sv ys, ev.p.sv (tn.sv 2 2 xs), ev.q.sv (tn.sv 2 2 xs)]
theorem tn4 (xs : List Int) : gz (tn.sv 2 2 xs) 0 = gz xs 0 ∧ gz (tn.sv 2 2 xs) 1 = gz xs 2 ∧ gz (tn.sv 2 2 xs) 2 = gz xs 1 ∧ gz (tn.sv 2 2 xs) 3 = gz xs 3 := by
  have h := fun k i (hk : k < 2) (hi : i < 2) => tn.sv_get (r := 2) (c := 2) (xs := xs) (k := k) (i := i) hk hi
  exact ⟨h 0 0 (by omega) (by omega), h 0 1 (by omega) (by omega), h 1 0 (by omega) (by omega), h 1 1 (by omega) (by omega)⟩
theorem four {α : Type} (z a b c d : α) : ((((List.replicate 4 z).set 0 a).set 1 b).set 2 c).set 3 d = [a, b, c, d] := rfl
end tb

namespace gEven
def dr : Nat → Dr := fun i => bif eqN i 1 then ⟨some [0, 2, 5, 7, 10, 13, 1, 3, 4, 6, 8, 9, 11, 12, 14, 15, 16, 17, 18, 19, 20, 21, 22, 23], false⟩ else ⟨none, false⟩
def R : List AVal → Option (Bool × AVal × List Blk)
  | [.agg [.int .i64 r, .int .i64 c, .ro (.ints .i64 xs) ma 1, .ro (.ints .i64 ys) mb 1]] => some (decide (ma = xs.length ∧ mb = ys.length ∧ r = 2 ∧ c = 2) && gm.sp r c xs ys, .tup [.int .i64 (ev.p.sv ys), .int .i64 (ev.q.sv ys), .bool (ev.ok.sp ys)], [])
  | _ => none
theorem go (r c : Int) (xs ys : List Int) :
  runFn Try.prog (orc [⟨53, gB.R⟩, ⟨56, reduced.R⟩, ⟨40, within.R⟩]) hd0 dr (some 0) 0 (bodyOf Try.f47) 37 [2, 3, 4] [.agg [.int .i64 r, .int .i64 c, .ro (.ints .i64 xs) xs.length 1, .ro (.ints .i64 ys) ys.length 1]] []
  = (bif true && true && (true && true && (true && true && (true && true && true))) then bif true && true && (true && true && (true && true && (true && true && true))) then bif true && true && (true && true && (true && true && (true && true && true))) then bif true && true && (true && true && (true && true && (true && true && true))) then bif true && true && (true && true && (true && true && (true && true && true))) then bif true && true && (true && true && (true && true && (true && true && true))) then bif decide (xs.length = xs.length ∧ ys.length = ys.length ∧ (0 : Int) ≤ (1 : Int) ∧ (0 : Int) ≤ (1 : Int) ∧ (1 : Int) ≤ (100 : Int) ∧ (1 : Int) ≤ (100 : Int) ∧ (0 : Int) ≤ c ∧ c ≤ (100 : Int) ∧ (1 : Int) * c + (1 : Int) < (↑ys.length : Int)) && (true && (true && (true && (true && true))) && true || true && true) then bif decide (xs.length = xs.length ∧ ys.length = ys.length ∧ (0 : Int) ≤ (1 : Int) ∧ (0 : Int) ≤ (0 : Int) ∧ (1 : Int) ≤ (100 : Int) ∧ (0 : Int) ≤ (100 : Int) ∧ (0 : Int) ≤ c ∧ c ≤ (100 : Int) ∧ (1 : Int) * c + (0 : Int) < (↑ys.length : Int)) && (true && (true && (true && (true && true))) && true || true && true) then bif decide (xs.length = xs.length ∧ ys.length = ys.length ∧ (0 : Int) ≤ (0 : Int) ∧ (0 : Int) ≤ (0 : Int) ∧ (0 : Int) ≤ (100 : Int) ∧ (0 : Int) ≤ (100 : Int) ∧ (0 : Int) ≤ c ∧ c ≤ (100 : Int) ∧ (0 : Int) * c + (0 : Int) < (↑ys.length : Int)) && (true && (true && (true && (true && true))) && true || true && true) then bif decide (xs.length = xs.length ∧ ys.length = ys.length ∧ (0 : Int) ≤ (1 : Int) ∧ (0 : Int) ≤ (0 : Int) ∧ (1 : Int) ≤ (100 : Int) ∧ (0 : Int) ≤ (100 : Int) ∧ (0 : Int) ≤ c ∧ c ≤ (100 : Int) ∧ (1 : Int) * c + (0 : Int) < (↑ys.length : Int)) && (true && (true && (true && (true && true))) && true || true && true) then bif decide (xs.length = xs.length ∧ ys.length = ys.length ∧ (0 : Int) ≤ (0 : Int) ∧ (0 : Int) ≤ (1 : Int) ∧ (0 : Int) ≤ (100 : Int) ∧ (1 : Int) ≤ (100 : Int) ∧ (0 : Int) ≤ c ∧ c ≤ (100 : Int) ∧ (0 : Int) * c + (1 : Int) < (↑ys.length : Int)) && (true && (true && (true && (true && true))) && true || true && true) then bif decide (xs.length = xs.length ∧ ys.length = ys.length ∧ (0 : Int) ≤ (1 : Int) ∧ (0 : Int) ≤ (1 : Int) ∧ (1 : Int) ≤ (100 : Int) ∧ (1 : Int) ≤ (100 : Int) ∧ (0 : Int) ≤ c ∧ c ≤ (100 : Int) ∧ (1 : Int) * c + (1 : Int) < (↑ys.length : Int)) && (true && (true && (true && (true && true))) && true || true && true) then bif decide ((-5000 : Int) ≤ IntKind.i64.wrap (gz ys ((1 : Int) * c + (1 : Int)).toNat - gz ys ((1 : Int) * c + (0 : Int)).toNat) ∧ IntKind.i64.wrap (gz ys ((1 : Int) * c + (1 : Int)).toNat - gz ys ((1 : Int) * c + (0 : Int)).toNat) ≤ (5000 : Int) ∧ (-5000 : Int) ≤ IntKind.i64.wrap (IntKind.i64.wrap (IntKind.i64.wrap (gz ys ((0 : Int) * c + (0 : Int)).toNat - gz ys ((1 : Int) * c + (0 : Int)).toNat) - gz ys ((0 : Int) * c + (1 : Int)).toNat) + gz ys ((1 : Int) * c + (1 : Int)).toNat) ∧ IntKind.i64.wrap (IntKind.i64.wrap (IntKind.i64.wrap (gz ys ((0 : Int) * c + (0 : Int)).toNat - gz ys ((1 : Int) * c + (0 : Int)).toNat) - gz ys ((0 : Int) * c + (1 : Int)).toNat) + gz ys ((1 : Int) * c + (1 : Int)).toNat) ≤ (5000 : Int)) && (true && (true && true) || true && (true && (true && true)) && true) then bif IntKind.i64.wrap (IntKind.i64.wrap (IntKind.i64.wrap (gz ys ((0 : Int) * c + (0 : Int)).toNat - gz ys ((1 : Int) * c + (0 : Int)).toNat) - gz ys ((0 : Int) * c + (1 : Int)).toNat) + gz ys ((1 : Int) * c + (1 : Int)).toNat) != (0 : Int) then bif true && (true && (true && (true && true)) || true && true) then some (AVal.tup [AVal.int IntKind.i64 (rd.p.sv (IntKind.i64.wrap (gz ys ((1 : Int) * c + (1 : Int)).toNat - gz ys ((1 : Int) * c + (0 : Int)).toNat)) (IntKind.i64.wrap (IntKind.i64.wrap (IntKind.i64.wrap (gz ys ((0 : Int) * c + (0 : Int)).toNat - gz ys ((1 : Int) * c + (0 : Int)).toNat) - gz ys ((0 : Int) * c + (1 : Int)).toNat) + gz ys ((1 : Int) * c + (1 : Int)).toNat))), AVal.int IntKind.i64 (rd.q.sv (IntKind.i64.wrap (gz ys ((1 : Int) * c + (1 : Int)).toNat - gz ys ((1 : Int) * c + (0 : Int)).toNat)) (IntKind.i64.wrap (IntKind.i64.wrap (IntKind.i64.wrap (gz ys ((0 : Int) * c + (0 : Int)).toNat - gz ys ((1 : Int) * c + (0 : Int)).toNat) - gz ys ((0 : Int) * c + (1 : Int)).toNat) + gz ys ((1 : Int) * c + (1 : Int)).toNat))), AVal.bool (decide ((0 : Int) ≤ rd.p.sv (IntKind.i64.wrap (gz ys ((1 : Int) * c + (1 : Int)).toNat - gz ys ((1 : Int) * c + (0 : Int)).toNat)) (IntKind.i64.wrap (IntKind.i64.wrap (IntKind.i64.wrap (gz ys ((0 : Int) * c + (0 : Int)).toNat - gz ys ((1 : Int) * c + (0 : Int)).toNat) - gz ys ((0 : Int) * c + (1 : Int)).toNat) + gz ys ((1 : Int) * c + (1 : Int)).toNat))) && decide (rd.p.sv (IntKind.i64.wrap (gz ys ((1 : Int) * c + (1 : Int)).toNat - gz ys ((1 : Int) * c + (0 : Int)).toNat)) (IntKind.i64.wrap (IntKind.i64.wrap (IntKind.i64.wrap (gz ys ((0 : Int) * c + (0 : Int)).toNat - gz ys ((1 : Int) * c + (0 : Int)).toNat) - gz ys ((0 : Int) * c + (1 : Int)).toNat) + gz ys ((1 : Int) * c + (1 : Int)).toNat)) ≤ rd.q.sv (IntKind.i64.wrap (gz ys ((1 : Int) * c + (1 : Int)).toNat - gz ys ((1 : Int) * c + (0 : Int)).toNat)) (IntKind.i64.wrap (IntKind.i64.wrap (IntKind.i64.wrap (gz ys ((0 : Int) * c + (0 : Int)).toNat - gz ys ((1 : Int) * c + (0 : Int)).toNat) - gz ys ((0 : Int) * c + (1 : Int)).toNat) + gz ys ((1 : Int) * c + (1 : Int)).toNat))))], []) else none else some (AVal.tup [AVal.int IntKind.i64 (rd.p.sv (IntKind.i64.wrap (gz ys ((1 : Int) * c + (1 : Int)).toNat - gz ys ((1 : Int) * c + (0 : Int)).toNat)) (IntKind.i64.wrap (IntKind.i64.wrap (IntKind.i64.wrap (gz ys ((0 : Int) * c + (0 : Int)).toNat - gz ys ((1 : Int) * c + (0 : Int)).toNat) - gz ys ((0 : Int) * c + (1 : Int)).toNat) + gz ys ((1 : Int) * c + (1 : Int)).toNat))), AVal.int IntKind.i64 (rd.q.sv (IntKind.i64.wrap (gz ys ((1 : Int) * c + (1 : Int)).toNat - gz ys ((1 : Int) * c + (0 : Int)).toNat)) (IntKind.i64.wrap (IntKind.i64.wrap (IntKind.i64.wrap (gz ys ((0 : Int) * c + (0 : Int)).toNat - gz ys ((1 : Int) * c + (0 : Int)).toNat) - gz ys ((0 : Int) * c + (1 : Int)).toNat) + gz ys ((1 : Int) * c + (1 : Int)).toNat))), AVal.bool false], []) else none else none else none else none else none else none else none else none else none else none else none else none else none) := by kernel_rfl
theorem run : ∀ args v new, R args = some (true, v, new) → ∃ fuel, runFn Try.prog (orc [⟨53, gB.R⟩, ⟨56, reduced.R⟩, ⟨40, within.R⟩]) hd0 dr (some 0) fuel (bodyOf Try.f47) 37 [2, 3, 4] args [] = some (v, new) := by
  intro args v new h
  unfold R at h
  split at h
  · rename_i r c xs ma ys mb
    simp only [Option.some.injEq, Prod.mk.injEq, Bool.and_eq_true, decide_eq_true_eq, Bool.not_eq_true'] at h
    obtain ⟨⟨⟨rfl, rfl, hr2, hc2⟩, hv⟩, rfl, rfl⟩ := h
    obtain ⟨r', c', hr', hc', hr, hc, hx, hy, vx, vy⟩ := gm.valid hv
    have er : r' = 2 := by omega
    have ec : c' = 2 := by omega
    subst er ec
    have l4 : ys.length = 4 := by omega
    have bnd : ∀ i, i < 4 → -1000 ≤ gz ys i ∧ gz ys i ≤ 1000 := fun i hi => by
      rw [gz_eq (by omega)]; exact vy _ (List.getElem_mem _)
    have y0 := bnd 0 (by omega)
    have y1 := bnd 1 (by omega)
    have y2 := bnd 2 (by omega)
    have y3 := bnd 3 (by omega)
    have l4' : (ys.length : Int) = 4 := by omega
    have w1 : IntKind.i64.wrap (gz ys 3 - gz ys 2) = ev.n ys := by rw [IntWalk.i64_in _ (by omega)]; rfl
    have w2 : IntKind.i64.wrap (gz ys 0 - gz ys 2) = gz ys 0 - gz ys 2 := IntWalk.i64_in _ (by omega)
    have w3 : IntKind.i64.wrap (gz ys 0 - gz ys 2 - gz ys 1) = gz ys 0 - gz ys 2 - gz ys 1 := IntWalk.i64_in _ (by omega)
    have w4 : IntKind.i64.wrap (gz ys 0 - gz ys 2 - gz ys 1 + gz ys 3) = ev.d ys := by rw [IntWalk.i64_in _ (by omega)]; rfl
    have n1 : -5000 ≤ ev.n ys := by unfold ev.n; omega
    have n2 : ev.n ys ≤ 5000 := by unfold ev.n; omega
    have d1 : -5000 ≤ ev.d ys := by unfold ev.d; omega
    have d2 : ev.d ys ≤ 5000 := by unfold ev.d; omega
    have i1 : ((1 : Int) * 2 + 1).toNat = 3 := rfl
    have i2 : ((1 : Int) * 2 + 0).toNat = 2 := rfl
    have i3 : ((0 : Int) * 2 + 0).toNat = 0 := rfl
    have i4 : ((0 : Int) * 2 + 1).toNat = 1 := rfl
    have j1 : ((1 : Int) * 2 + 1 < 4) = True := by simp
    have j2 : ((1 : Int) * 2 + 0 < 4) = True := by simp
    have j3 : ((0 : Int) * 2 + 0 < 4) = True := by simp
    have j4 : ((0 : Int) * 2 + 1 < 4) = True := by simp
    have z1 : ((0 : Int) ≤ 1) = True := by simp
    have z2 : ((1 : Int) ≤ 100) = True := by simp
    have z3 : ((0 : Int) ≤ 100) = True := by simp
    have z4 : ((0 : Int) ≤ 2) = True := by simp
    have z5 : ((2 : Int) ≤ 100) = True := by simp
    subst hr2 hc2
    refine ⟨0, ?_⟩
    rw [go]
    simp -implicitDefEqProofs only [l4', i1, i2, i3, i4, j1, j2, j3, j4, z1, z2, z3, z4, z5, w1, w2, w3, w4, n1, n2, d1, d2, Int.le_refl, and_self, eq_self, ev.p.sv, ev.q.sv, ev.ok.sp, decide_true, decide_false, Bool.and_self, Bool.or_self, Bool.and_true, Bool.true_and, Bool.and_false, Bool.false_and, Bool.or_true, Bool.true_or, Bool.or_false, Bool.false_or, Bool.not_true, Bool.not_false, cond_true, cond_false]
    cases (ev.d ys != 0) <;> rfl
  · cases h
theorem ok : EntOk Try.prog ⟨47, R⟩ :=
  ent_okA mixed (A := (orc [⟨53, gB.R⟩, ⟨56, reduced.R⟩, ⟨40, within.R⟩])) (orc_ok (by simp only [List.mem_cons, List.not_mem_nil, or_false, forall_eq_or_imp, forall_eq]; exact ⟨gB.ok, reduced.ok, within.ok⟩)) Try.func47 (by kernel_rfl) (by kernel_rfl) (n := 37) (ts := [2, 3, 4]) (hd := hd0) (dr := dr) (cut := (some 0)) (by kernel_rfl) (by kernel_rfl) (by kernel_rfl) run
end gEven

namespace iTwoByTwo_t
def R : List AVal → Option (Bool × AVal × List Blk)
  | [.agg [.int .i64 r, .int .i64 c, .ro (.ints .i64 xs) ma 1, .ro (.ints .i64 ys) mb 1]] => some (decide (ma = xs.length ∧ mb = ys.length ∧ ma ≤ 4611686018427387904 ∧ mb ≤ 4611686018427387904) && tb.sp r c xs ys, .tup [.own 0 0 (tb.l.sv xs ys).length 0 1, .bool true], [⟨.typ (.ints .i64 (tb.l.sv xs ys)), 0⟩])
  | _ => none
theorem go (r c : Int) (xs ys : List Int) :
  regc [4] (runFn Try.prog (orc [⟨43, iValidGame.R⟩, ⟨46, gPure.R⟩, ⟨47, gEven.R⟩, ⟨44, gTurned.R⟩]) hd0 Dr.std none 0 (bodyOf Try.f17) 53 [2, 3] [.agg [.int .i64 r, .int .i64 c, .ro (.ints .i64 xs) xs.length 1, .ro (.ints .i64 ys) ys.length 1]] [])
  = (match bif true && true && (true && true && (true && true && (true && true && true))) then bif decide (xs.length = xs.length ∧ ys.length = ys.length ∧ xs.length ≤ (4611686018427387904 : Nat) ∧ ys.length ≤ (4611686018427387904 : Nat)) && (true && (true && (true && (true && true))) && true || true && true) then bif !gm.sp r c xs ys then some (AVal.tup [AVal.nils, AVal.bool false], [{ c := BC.cells [AVal.int IntKind.i64 r, AVal.int IntKind.i64 c, AVal.ro (Cont.ints IntKind.i64 xs) xs.length (1 : Nat), AVal.ro (Cont.ints IntKind.i64 ys) ys.length (1 : Nat)], ver := (0 : Nat) }]) else bif true && true then bif r != (2 : Int) then some (AVal.tup [AVal.nils, AVal.bool false], [{ c := BC.cells [AVal.int IntKind.i64 r, AVal.int IntKind.i64 c, AVal.ro (Cont.ints IntKind.i64 xs) xs.length (1 : Nat), AVal.ro (Cont.ints IntKind.i64 ys) ys.length (1 : Nat)], ver := (0 : Nat) }]) else bif true && true then bif c != (2 : Int) then some (AVal.tup [AVal.nils, AVal.bool false], [{ c := BC.cells [AVal.int IntKind.i64 r, AVal.int IntKind.i64 c, AVal.ro (Cont.ints IntKind.i64 xs) xs.length (1 : Nat), AVal.ro (Cont.ints IntKind.i64 ys) ys.length (1 : Nat)], ver := (0 : Nat) }]) else bif true && true && (true && true && (true && true && (true && true && true))) then bif decide (xs.length = xs.length ∧ ys.length = ys.length) && gm.sp r c xs ys && (true && (true && (true && (true && true))) && true || true && (true && true)) then bif decide ((0 : Int) < (↑(pu.sv r.toNat c.toNat xs ys).length : Int)) then some (AVal.tup [AVal.nils, AVal.bool false], [{ c := BC.cells [AVal.int IntKind.i64 r, AVal.int IntKind.i64 c, AVal.ro (Cont.ints IntKind.i64 xs) xs.length (1 : Nat), AVal.ro (Cont.ints IntKind.i64 ys) ys.length (1 : Nat)], ver := (0 : Nat) }, { c := BC.typ (Cont.ints IntKind.i64 (pu.sv r.toNat c.toNat xs ys)), ver := (0 : Nat) }]) else bif true && true && (true && true && (true && true && (true && true && true))) then bif decide (xs.length = xs.length ∧ ys.length = ys.length ∧ r = (2 : Int) ∧ c = (2 : Int)) && gm.sp r c xs ys && (true && (true && (true && (true && true))) && true || true && (true && (true && true)) && true) then bif true && true && (true && true && (true && true && (true && true && true))) then bif decide (xs.length = xs.length ∧ ys.length = ys.length) && gm.sp r c xs ys && (true && (true && (true && (true && true))) && true || true && (true && (true && (true && true))) && (true && (true && true))) then bif decide ((c * r).toNat = (tn.sv r.toNat c.toNat ys).length ∧ (c * r).toNat = (tn.sv r.toNat c.toNat xs).length ∧ c = (2 : Int) ∧ r = (2 : Int)) && gm.sp c r (tn.sv r.toNat c.toNat ys) (tn.sv r.toNat c.toNat xs) && (true && (true && (false && (false && true))) && true || true && (true && (true && true)) && true) then bif !ev.ok.sp ys then some (AVal.tup [AVal.nils, AVal.bool false], [{ c := BC.cells [AVal.int IntKind.i64 r, AVal.int IntKind.i64 c, AVal.ro (Cont.ints IntKind.i64 xs) xs.length (1 : Nat), AVal.ro (Cont.ints IntKind.i64 ys) ys.length (1 : Nat)], ver := (0 : Nat) }, { c := BC.typ (Cont.ints IntKind.i64 (pu.sv r.toNat c.toNat xs ys)), ver := (0 : Nat) }, { c := BC.typ (Cont.ints IntKind.i64 (tn.sv r.toNat c.toNat ys)), ver := (0 : Nat) }, { c := BC.typ (Cont.ints IntKind.i64 (tn.sv r.toNat c.toNat xs)), ver := (0 : Nat) }]) else bif !ev.ok.sp (tn.sv r.toNat c.toNat xs) then some (AVal.tup [AVal.nils, AVal.bool false], [{ c := BC.cells [AVal.int IntKind.i64 r, AVal.int IntKind.i64 c, AVal.ro (Cont.ints IntKind.i64 xs) xs.length (1 : Nat), AVal.ro (Cont.ints IntKind.i64 ys) ys.length (1 : Nat)], ver := (0 : Nat) }, { c := BC.typ (Cont.ints IntKind.i64 (pu.sv r.toNat c.toNat xs ys)), ver := (0 : Nat) }, { c := BC.typ (Cont.ints IntKind.i64 (tn.sv r.toNat c.toNat ys)), ver := (0 : Nat) }, { c := BC.typ (Cont.ints IntKind.i64 (tn.sv r.toNat c.toNat xs)), ver := (0 : Nat) }]) else some (AVal.tup [AVal.own ((1 : Nat) + (1 : Nat) + (1 : Nat) + (1 : Nat)) (0 : Nat) (4 : Nat) (0 : Nat) (1 : Nat), AVal.bool true], [{ c := BC.cells [AVal.int IntKind.i64 r, AVal.int IntKind.i64 c, AVal.ro (Cont.ints IntKind.i64 xs) xs.length (1 : Nat), AVal.ro (Cont.ints IntKind.i64 ys) ys.length (1 : Nat)], ver := (0 : Nat) }, { c := BC.typ (Cont.ints IntKind.i64 (pu.sv r.toNat c.toNat xs ys)), ver := (0 : Nat) }, { c := BC.typ (Cont.ints IntKind.i64 (tn.sv r.toNat c.toNat ys)), ver := (0 : Nat) }, { c := BC.typ (Cont.ints IntKind.i64 (tn.sv r.toNat c.toNat xs)), ver := (0 : Nat) }, { c := BC.typ (Cont.ints IntKind.i64 (((((List.replicate (4 : Nat) (0 : Int)).set (0 : Nat) (ev.p.sv ys)).set (1 : Nat) (ev.q.sv ys)).set (2 : Nat) (ev.p.sv (tn.sv r.toNat c.toNat xs))).set (3 : Nat) (ev.q.sv (tn.sv r.toNat c.toNat xs)))), ver := (0 : Nat) }]) else none else none else none else none else none else none else none else none else none else none else none with
| some (v, h) =>
  bif true && (ltN (4 : Nat) (hlen h) && true) then
    some
      (AVal.re [(4 : Nat)] h v,
        match nth h (4 : Nat) with
        | some b => { c := BC.re [(4 : Nat)] h b.c, ver := b.ver } :: reB [(4 : Nat)] h []
        | none => { c := BC.cells [], ver := (0 : Nat) } :: reB [(4 : Nat)] h [])
  else none
| none => none) := by kernel_rfl
theorem run : ∀ args v new, R args = some (true, v, new) → ∃ fuel, regc [4] (runFn Try.prog (orc [⟨43, iValidGame.R⟩, ⟨46, gPure.R⟩, ⟨47, gEven.R⟩, ⟨44, gTurned.R⟩]) hd0 Dr.std none fuel (bodyOf Try.f17) 53 [2, 3] args []) = some (v, new) := by
  intro args v new h
  unfold R at h
  split at h
  · rename_i r c xs ma ys mb
    simp only [Option.some.injEq, Prod.mk.injEq, Bool.and_eq_true, decide_eq_true_eq, Bool.not_eq_true'] at h
    obtain ⟨⟨⟨rfl, rfl, h3, h4⟩, hs⟩, rfl, rfl⟩ := h
    simp only [tb.sp, tb.pn.sp, Bool.and_eq_true, beq_iff_eq, decide_eq_true_eq] at hs
    obtain ⟨⟨⟨⟨hv, hrr⟩, hcc⟩, hpu⟩, ho1, ho2⟩ := hs
    have hv2 := hv
    obtain ⟨r, c, rfl, rfl, hr, hc, hx, hy, vx, vy⟩ := gm.valid hv2
    have hr2 : r = 2 := by omega
    have hc2 : c = 2 := by omega
    subst hr2 hc2
    obtain ⟨t0', t1', t2', t3'⟩ := tb.tn4 xs
    have l4 : ys.length = 4 := by omega
    have l4x : xs.length = 4 := by omega
    have l4' : (ys.length : Int) = 4 := by omega
    have l4x' : (xs.length : Int) = 4 := by omega
    have k1 : (tn.sv 2 2 ys).length = 4 := tn.sv_length _ _ _
    have k2 : (tn.sv 2 2 xs).length = 4 := tn.sv_length _ _ _
    have k3 : (tn.sv 2 2 ys).take 4 = tn.sv 2 2 ys := List.take_of_length_le (by omega)
    have k4 : (tn.sv 2 2 xs).take 4 = tn.sv 2 2 xs := List.take_of_length_le (by omega)
    have v3 : gm.sp 2 2 (tn.sv 2 2 ys) (tn.sv 2 2 xs) = true := tn.valid hr hc hx hy vx vy
    have e22 : ((2 : Int) * 2).toNat = 4 := rfl
    have t2n : (2 : Int).toNat = 2 := rfl
    have b2 : ((2 : Int) != 2) = false := rfl
    have hpu0 : ¬ ((0 : Int) < ((pu.sv 2 2 xs ys).length : Int)) := by
      have : (pu.sv 2 2 xs ys).length = 0 := hpu
      omega
    have hcast : ((2 : Nat) : Int) = 2 := rfl
    rw [hcast] at hv
    have lenl : (tb.l.sv xs ys).length = 4 := rfl
    refine ⟨0, ?_⟩
    rw [hcast, go, lenl]
    simp -implicitDefEqProofs only [hpu0, ho1, ho2, l4', l4x', k1, k2, k3, k4, v3, e22, t2n, b2, h3, h4, hv, Nat.le_refl, Int.le_refl, tb.four, and_self, eq_self, bne_self_eq_false, decide_true, decide_false, Bool.and_self, Bool.or_self, Bool.and_true, Bool.true_and, Bool.and_false, Bool.false_and, Bool.or_true, Bool.true_or, Bool.or_false, Bool.false_or, Bool.not_true, Bool.not_false, cond_true, cond_false]
    rfl
  · cases h
theorem ok : EntOk Try.prog ⟨17, R⟩ :=
  ent_okAG (ks := [4]) mixed (A := (orc [⟨43, iValidGame.R⟩, ⟨46, gPure.R⟩, ⟨47, gEven.R⟩, ⟨44, gTurned.R⟩])) (orc_ok (by simp only [List.mem_cons, List.not_mem_nil, or_false, forall_eq_or_imp, forall_eq]; exact ⟨iValidGame.ok, gPure.ok, gEven.ok, gTurned.ok⟩)) Try.func17 (by kernel_rfl) (by kernel_rfl) (n := 53) (ts := [2, 3]) (hd := hd0) (dr := Dr.std) (cut := none) (by kernel_rfl) (by kernel_rfl) (by kernel_rfl) run
end iTwoByTwo_t

namespace iTwoByTwo_f
def R : List AVal → Option (Bool × AVal × List Blk)
  | [.agg [.int .i64 r, .int .i64 c, .ro (.ints .i64 xs) ma 1, .ro (.ints .i64 ys) mb 1]] => some (decide (ma = xs.length ∧ mb = ys.length ∧ ma ≤ 4611686018427387904 ∧ mb ≤ 4611686018427387904) && !tb.sp r c xs ys, .tup [.nils, .bool false], [])
  | _ => none
theorem go (r c : Int) (xs ys : List Int) :
  runFn Try.prog (orc [⟨43, iValidGame.R⟩, ⟨46, gPure.R⟩, ⟨47, gEven.R⟩, ⟨44, gTurned.R⟩]) hd0 Dr.std (some 0) 0 (bodyOf Try.f17) 53 [2, 3] [.agg [.int .i64 r, .int .i64 c, .ro (.ints .i64 xs) xs.length 1, .ro (.ints .i64 ys) ys.length 1]] []
  = (bif true && true && (true && true && (true && true && (true && true && true))) then bif decide (xs.length = xs.length ∧ ys.length = ys.length ∧ xs.length ≤ (4611686018427387904 : Nat) ∧ ys.length ≤ (4611686018427387904 : Nat)) && (true && (true && (true && (true && true))) && true || true && true) then bif !gm.sp r c xs ys then some (AVal.tup [AVal.nils, AVal.bool false], []) else bif true && true then bif r != (2 : Int) then some (AVal.tup [AVal.nils, AVal.bool false], []) else bif true && true then bif c != (2 : Int) then some (AVal.tup [AVal.nils, AVal.bool false], []) else bif true && true && (true && true && (true && true && (true && true && true))) then bif decide (xs.length = xs.length ∧ ys.length = ys.length) && gm.sp r c xs ys && (true && (true && (true && (true && true))) && true || true && (true && true)) then bif decide ((0 : Int) < (↑(pu.sv r.toNat c.toNat xs ys).length : Int)) then some (AVal.tup [AVal.nils, AVal.bool false], []) else bif true && true && (true && true && (true && true && (true && true && true))) then bif decide (xs.length = xs.length ∧ ys.length = ys.length ∧ r = (2 : Int) ∧ c = (2 : Int)) && gm.sp r c xs ys && (true && (true && (true && (true && true))) && true || true && (true && (true && true)) && true) then bif true && true && (true && true && (true && true && (true && true && true))) then bif decide (xs.length = xs.length ∧ ys.length = ys.length) && gm.sp r c xs ys && (true && (true && (true && (true && true))) && true || true && (true && (true && (true && true))) && (true && (true && true))) then bif decide ((c * r).toNat = (tn.sv r.toNat c.toNat ys).length ∧ (c * r).toNat = (tn.sv r.toNat c.toNat xs).length ∧ c = (2 : Int) ∧ r = (2 : Int)) && gm.sp c r (tn.sv r.toNat c.toNat ys) (tn.sv r.toNat c.toNat xs) && (true && (true && (false && (false && true))) && true || true && (true && (true && true)) && true) then bif !ev.ok.sp ys then some (AVal.tup [AVal.nils, AVal.bool false], []) else bif !ev.ok.sp (tn.sv r.toNat c.toNat xs) then some (AVal.tup [AVal.nils, AVal.bool false], []) else some (AVal.tup [AVal.ro (Cont.ints IntKind.i64 (((((List.replicate (4 : Nat) (0 : Int)).set (0 : Nat) (ev.p.sv ys)).set (1 : Nat) (ev.q.sv ys)).set (2 : Nat) (ev.p.sv (tn.sv r.toNat c.toNat xs))).set (3 : Nat) (ev.q.sv (tn.sv r.toNat c.toNat xs)))) (4 : Nat) (1 : Nat), AVal.bool true], []) else none else none else none else none else none else none else none else none else none else none else none) := by kernel_rfl
theorem run : ∀ args v new, R args = some (true, v, new) → ∃ fuel, runFn Try.prog (orc [⟨43, iValidGame.R⟩, ⟨46, gPure.R⟩, ⟨47, gEven.R⟩, ⟨44, gTurned.R⟩]) hd0 Dr.std (some 0) fuel (bodyOf Try.f17) 53 [2, 3] args [] = some (v, new) := by
  intro args v new h
  unfold R at h
  split at h
  · rename_i r c xs ma ys mb
    simp only [Option.some.injEq, Prod.mk.injEq, Bool.and_eq_true, decide_eq_true_eq, Bool.not_eq_true'] at h
    obtain ⟨⟨⟨rfl, rfl, h3, h4⟩, hs⟩, rfl, rfl⟩ := h
    refine ⟨0, ?_⟩
    rw [go]
    cases hv : gm.sp r c xs ys
    · simp -implicitDefEqProofs only [h3, h4, hv, Nat.le_refl, Int.le_refl, tb.four, and_self, eq_self, bne_self_eq_false, decide_true, decide_false, Bool.and_self, Bool.or_self, Bool.and_true, Bool.true_and, Bool.and_false, Bool.false_and, Bool.or_true, Bool.true_or, Bool.or_false, Bool.false_or, Bool.not_true, Bool.not_false, cond_true, cond_false]
    · obtain ⟨r, c, rfl, rfl, hr, hc, hx, hy, vx, vy⟩ := gm.valid hv
      by_cases hrr : (r : Int) = 2
      · by_cases hcc : (c : Int) = 2
        · have hr2 : r = 2 := by omega
          have hc2 : c = 2 := by omega
          subst hr2 hc2
          obtain ⟨t0', t1', t2', t3'⟩ := tb.tn4 xs
          have l4 : ys.length = 4 := by omega
          have l4x : xs.length = 4 := by omega
          have l4' : (ys.length : Int) = 4 := by omega
          have l4x' : (xs.length : Int) = 4 := by omega
          have k1 : (tn.sv 2 2 ys).length = 4 := tn.sv_length _ _ _
          have k2 : (tn.sv 2 2 xs).length = 4 := tn.sv_length _ _ _
          have k3 : (tn.sv 2 2 ys).take 4 = tn.sv 2 2 ys := List.take_of_length_le (by omega)
          have k4 : (tn.sv 2 2 xs).take 4 = tn.sv 2 2 xs := List.take_of_length_le (by omega)
          have v3 : gm.sp 2 2 (tn.sv 2 2 ys) (tn.sv 2 2 xs) = true := tn.valid hr hc hx hy vx vy
          have e22 : ((2 : Int) * 2).toNat = 4 := rfl
          have t2n : (2 : Int).toNat = 2 := rfl
          have b2 : ((2 : Int) != 2) = false := rfl
          have hcast : ((2 : Nat) : Int) = 2 := rfl
          rw [hcast] at hv hs ⊢
          simp only [tb.sp, hv, beq_self_eq_true, Bool.true_and] at hs
          cases hp : tb.pn.sp 2 2 xs ys
          · have hpu0 : (0 : Int) < ((pu.sv 2 2 xs ys).length : Int) := by
              have : ¬ ((pu.sv 2 2 xs ys).length = 0) := of_decide_eq_false hp
              omega
            simp -implicitDefEqProofs only [hpu0, l4', l4x', k1, k2, k3, k4, v3, e22, t2n, b2, h3, h4, hv, Nat.le_refl, Int.le_refl, tb.four, and_self, eq_self, bne_self_eq_false, decide_true, decide_false, Bool.and_self, Bool.or_self, Bool.and_true, Bool.true_and, Bool.and_false, Bool.false_and, Bool.or_true, Bool.true_or, Bool.or_false, Bool.false_or, Bool.not_true, Bool.not_false, cond_true, cond_false]
          · have hpu0 : ¬ ((0 : Int) < ((pu.sv 2 2 xs ys).length : Int)) := by
              have : (pu.sv 2 2 xs ys).length = 0 := of_decide_eq_true hp
              omega
            rw [hp, Bool.true_and] at hs
            cases o1 : ev.ok.sp ys
            · simp -implicitDefEqProofs only [hpu0, o1, l4', l4x', k1, k2, k3, k4, v3, e22, t2n, b2, h3, h4, hv, Nat.le_refl, Int.le_refl, tb.four, and_self, eq_self, bne_self_eq_false, decide_true, decide_false, Bool.and_self, Bool.or_self, Bool.and_true, Bool.true_and, Bool.and_false, Bool.false_and, Bool.or_true, Bool.true_or, Bool.or_false, Bool.false_or, Bool.not_true, Bool.not_false, cond_true, cond_false]
            · rw [o1, Bool.true_and] at hs
              simp -implicitDefEqProofs only [hpu0, o1, hs, l4', l4x', k1, k2, k3, k4, v3, e22, t2n, b2, h3, h4, hv, Nat.le_refl, Int.le_refl, tb.four, and_self, eq_self, bne_self_eq_false, decide_true, decide_false, Bool.and_self, Bool.or_self, Bool.and_true, Bool.true_and, Bool.and_false, Bool.false_and, Bool.or_true, Bool.true_or, Bool.or_false, Bool.false_or, Bool.not_true, Bool.not_false, cond_true, cond_false]
        · have nc : ((c : Int) != 2) = true := by simpa using hcc
          have er : ((r : Int) != 2) = false := by rw [hrr]; rfl
          simp -implicitDefEqProofs only [nc, er, h3, h4, hv, Nat.le_refl, Int.le_refl, tb.four, and_self, eq_self, bne_self_eq_false, decide_true, decide_false, Bool.and_self, Bool.or_self, Bool.and_true, Bool.true_and, Bool.and_false, Bool.false_and, Bool.or_true, Bool.true_or, Bool.or_false, Bool.false_or, Bool.not_true, Bool.not_false, cond_true, cond_false]
      · have nr : ((r : Int) != 2) = true := by simpa using hrr
        simp -implicitDefEqProofs only [nr, h3, h4, hv, Nat.le_refl, Int.le_refl, tb.four, and_self, eq_self, bne_self_eq_false, decide_true, decide_false, Bool.and_self, Bool.or_self, Bool.and_true, Bool.true_and, Bool.and_false, Bool.false_and, Bool.or_true, Bool.true_or, Bool.or_false, Bool.false_or, Bool.not_true, Bool.not_false, cond_true, cond_false]
  · cases h
theorem ok : EntOk Try.prog ⟨17, R⟩ :=
  ent_okA mixed (A := (orc [⟨43, iValidGame.R⟩, ⟨46, gPure.R⟩, ⟨47, gEven.R⟩, ⟨44, gTurned.R⟩])) (orc_ok (by simp only [List.mem_cons, List.not_mem_nil, or_false, forall_eq_or_imp, forall_eq]; exact ⟨iValidGame.ok, gPure.ok, gEven.ok, gTurned.ok⟩)) Try.func17 (by kernel_rfl) (by kernel_rfl) (n := 53) (ts := [2, 3]) (hd := hd0) (dr := Dr.std) (cut := (some 0)) (by kernel_rfl) (by kernel_rfl) (by kernel_rfl) run
end iTwoByTwo_f

namespace iTwoByTwo
def Rt := iTwoByTwo_t.R
def Rf := iTwoByTwo_f.R
theorem okt : EntOk Try.prog ⟨17, Rt⟩ := iTwoByTwo_t.ok
theorem okf : EntOk Try.prog ⟨17, Rf⟩ := iTwoByTwo_f.ok
end iTwoByTwo







end Go.Proofs.Ytgblgofmdhekiaa.Ab
