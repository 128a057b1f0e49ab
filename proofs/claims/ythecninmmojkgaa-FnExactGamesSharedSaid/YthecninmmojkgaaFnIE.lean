/-
  The law of GamesShared.
-/
import Derived.Test.YthecninmmojkgaaFnIC
import Derived.Test.YthecninmmojkgaaFnID
import Derived.Test.YthecninmmojkgaaFnE
import Derived.Test.YthecninmmojkgaaFnUA
namespace Go.Proofs.Ythecninmmojkgaa.Ab
open Go
set_option linter.unusedVariables false
set_option linter.unusedSimpArgs false
set_option maxRecDepth 100000

open Go.ChangeShapes Go.WideShapes Go.ChangeAt Go.RowKit
set_option maxRecDepth 100000
namespace FnExactGamesShared
theorem short_mono {a b : Nat} (h : a ≤ b) {xs : List (List Int)} (hs : short.sp a xs = true) : short.sp b xs = true := by
  simp only [short.sp, List.all_eq_true, decide_eq_true_eq] at hs ⊢
  intro r hr
  have := hs r hr
  omega
/-- A law whose run is carried out where slices are held. -/
theorem law_callsX {P : Program} (hm : P.follows .mixedOrders = true) {A : OrcK} [hR : OrcRen A] [hL : OrcLoc A] (hA : OrcOk P A.plain) {C : XC} (hC : XCok P C) {hd : Nat → List Nat} {dr : Nat → Dr} {fuel : Nat} {f : FuncId} {fn : Func} {n : Nat} {ts : List ResultVar}
    (hf : P.funcs[f]? = some fn) (hbn : fn.body.isNone = false) (hn : fn.ntmps = n) (hr : fn.results = ts.toArray) (hc : drawChk dr (bodyOf fn) = true) {us : List AVal} {H' : Heap} {m' : Nat}
    (h : runFnX P A C hd dr fuel (bodyOf fn) n ts us [] 0 = some (.bool true, H', m')) {W : World} {args : Array Value} (hargs : @VRs noForb [] [] W us args.toList) :
    Calls P f args W fun e W' => e = .returned (.bool true) ∧ Below W.heap.size W W' := by
  have S : @Sim noForb [] [] W := @Sim.mk noForb [] [] W rfl List.nodup_nil (fun b hb => by cases hb) (fun l b blk h => by simp at h)
  have K : Kept [] W noForb [] 0 W := ⟨env_nil, rfl, MvX.refl _ _, fun b hb => (by cases hb), fun b hb => (by cases hb)⟩
  refine (fnX_sound (X := []) hm hA hC hf hbn hn hr hc h hargs S K).mono fun e W' ⟨c, he, F1, ρ, hv, S', k⟩ => ?_
  cases hv
  exact ⟨he, k.mv.os, k.mv.tape, k.mv.output, k.mv.size, fun b hb => k.mv.frame b hb (by simp)⟩
def C : XC := ⟨[⟨8, kGameS.R⟩], [⟨12, mGameS.ix, mGameS.R⟩]⟩
theorem got (fs : List Fld) (m : Nat) (w : Int) :
  runFnX Try.prog (orcWU [⟨13, markInt64S.R⟩] [⟨6, szGameS.R⟩, ⟨7, sGamesShared.Rt⟩, ⟨9, iGamesShared.Rt⟩, ⟨10, eqInt64N.R⟩, ⟨11, eqGameS.R⟩, ⟨14, heldInt64S.R⟩]) C (fun _ => []) Dr.std 0 (bodyOf Try.f3) 101 [4] [.ro (.recs [0, 0, 1, 1] fs) m 4, .int .i64 w] [] 0
  = (bif decide (fs.length = m * (4 : Nat)) && (gsh.sp fs && gms.short.sp (9223372036854775807 : Nat) (gof.sv fs)) && decide (m ≤ (9223372036854775807 : Nat) ∧ (0 : Int) ≤ (1048576 : Int) ∧ (1048576 : Int) ≤ (9223372036854775807 : Int)) && (true && true || true && true) then bif decide (gms.sz.sv (gof.sv fs) (1048576 : Int) < (0 : Int)) then some (AVal.bool true, [], (0 : Nat)) else bif decide (fs.length = m * (4 : Nat)) && (gsh.sp fs && gms.short.sp (1048576 : Nat) (gof.sv fs)) && decide (m ≤ (1048576 : Nat)) && true then bif decide (fs.length = m * (4 : Nat)) && (gsh.sp fs && (gms.short.sp (4611686018427387904 : Nat) (gof.sv fs) && gms.sp (gof.sv fs) w)) && (false && (true && true) || true && true && (true && true)) then bif decide (fs.length = m * (4 : Nat)) && (gsh.sp fs && gms.short.sp (1048576 : Nat) (gof.sv fs)) && decide (m ≤ (1048576 : Nat)) && true then bif decide (fs.length = m * (4 : Nat)) && (gsh.sp fs && (gms.short.sp (4611686018427387904 : Nat) (gof.sv fs) && gms.sp (gof.sv fs) w)) && (false && (true && true) || true && true && (true && true)) then bif decide (m ≤ (gms.o.sv (gof.sv fs)).length ∧ m ≤ (gms.o.sv (gof.sv fs)).length ∧ m ≤ (4611686018427387904 : Nat)) && (false && (false && true) || true && true) then bif !decide (List.take m (gms.o.sv (gof.sv fs)) = List.take m (gms.o.sv (gof.sv fs))) then some (AVal.bool false, [{ c := BC.typ (Cont.ints IntKind.i64 (gms.o.sv (gof.sv fs))), ver := (0 : Nat) }, { c := BC.typ (Cont.ints IntKind.i64 (gms.o.sv (gof.sv fs))), ver := (0 : Nat) }], (2 : Nat)) else bif decide (fs.length = m * (4 : Nat)) && (gsh.sp fs && gms.short.sp (1048576 : Nat) (gof.sv fs)) && decide (m ≤ (1048576 : Nat)) && true then bif decide (fs.length = m * (4 : Nat)) && (gsh.sp fs && gms.short.sp (4611686018427387904 : Nat) (gof.sv fs)) && decide (m ≤ (4611686018427387904 : Nat) ∧ m = m ∧ [(0 : Nat), (0 : Nat), (1 : Nat), (1 : Nat)] = [(0 : Nat), (0 : Nat), (1 : Nat), (1 : Nat)] ∧ gof.sv fs = gof.sv fs ∧ fs.length = m * (4 : Nat) ∧ gsh.sp fs = true) && (false && (false && true) || true && true) then bif decide ([(0 : Nat), (0 : Nat), (1 : Nat), (1 : Nat)] = [(0 : Nat), (0 : Nat), (1 : Nat), (1 : Nat)] ∧ fs.length = m * (4 : Nat) ∧ m ≤ (1048576 : Nat) ∧ (0 : Int) ≤ (1 : Int) ∧ (1 : Int) + (↑(gms.tt.sv (gof.sv fs)) : Int) ≤ (1000000000 : Int)) && (gsh.sp fs && gms.short.sp (4611686018427387904 : Nat) (gof.sv fs)) then bif decide ((1 : Int) + (↑(gms.tt.sv (gof.sv fs)) : Int) < (0 : Int)) then some (AVal.bool false, [{ c := BC.typ (Cont.ints IntKind.i64 (gms.o.sv (gof.sv fs))), ver := (0 : Nat) }, { c := BC.typ (Cont.ints IntKind.i64 (gms.o.sv (gof.sv fs))), ver := (0 : Nat) }], (3 : Nat)) else bif decide (m ≤ (gms.o.sv (gof.sv fs)).length ∧ m ≤ (gms.o.sv (gof.sv fs)).length ∧ m ≤ (4611686018427387904 : Nat)) && (false && (false && true) || true && true) then bif !decide (List.take m (gms.o.sv (gof.sv fs)) = List.take m (gms.o.sv (gof.sv fs))) then some (AVal.bool false, [{ c := BC.typ (Cont.ints IntKind.i64 (gms.o.sv (gof.sv fs))), ver := (0 : Nat) }, { c := BC.typ (Cont.ints IntKind.i64 (gms.o.sv (gof.sv fs))), ver := (0 : Nat) }], (3 : Nat)) else bif decide (m = (gms.o.sv (gof.sv fs)).length ∧ m ≤ (4611686018427387904 : Nat) ∧ (0 : Int) ≤ (1 : Int) ∧ (1 : Int) ≤ (1000000000 : Int)) && (true && (true && true)) then bif decide (m ≤ (marks.sv (1 : Int) m).length ∧ m ≤ (4611686018427387904 : Nat) ∧ (0 : Int) ≤ (1 : Int) ∧ (1 : Int) ≤ (1000000000 : Int)) && (false && true || true && true) then bif decide ((bif decide (List.take m (marks.sv (1 : Int) m) = marks.sv (1 : Int) m) then (1 : Int) + (↑m : Int) else (-1 : Int)) < (0 : Int)) then some (AVal.bool false, [{ c := BC.typ (Cont.ints IntKind.i64 (gms.o.sv (gof.sv fs))), ver := (0 : Nat) }, { c := BC.typ (Cont.ints IntKind.i64 (marks.sv (1 : Int) m)), ver := (0 : Nat) + (0 : Nat) }], (3 : Nat)) else bif (bif decide (List.take m (marks.sv (1 : Int) m) = marks.sv (1 : Int) m) then (1 : Int) + (↑m : Int) else (-1 : Int)) != (1 : Int) + (↑m : Int) then some (AVal.bool false, [{ c := BC.typ (Cont.ints IntKind.i64 (gms.o.sv (gof.sv fs))), ver := (0 : Nat) }, { c := BC.typ (Cont.ints IntKind.i64 (marks.sv (1 : Int) m)), ver := (0 : Nat) + (0 : Nat) }], (3 : Nat)) else bif decide (fs.length = m * (4 : Nat)) && (gsh.sp fs && gms.short.sp (1048576 : Nat) (gof.sv fs)) && decide (m ≤ (1048576 : Nat)) && true then bif decide (fs.length = m * (4 : Nat)) && (gsh.sp fs && (gms.short.sp (4611686018427387904 : Nat) (gof.sv fs) && gms.sp (gof.sv fs) w)) && (false && (true && true) || true && true && (true && true)) then bif decide (m ≤ (gms.o.sv (gof.sv fs)).length ∧ m ≤ (gms.o.sv (gof.sv fs)).length ∧ m ≤ (4611686018427387904 : Nat)) && (false && (false && true) || true && true) then bif !decide (List.take m (gms.o.sv (gof.sv fs)) = List.take m (gms.o.sv (gof.sv fs))) then some (AVal.bool false, [{ c := BC.typ (Cont.ints IntKind.i64 (gms.o.sv (gof.sv fs))), ver := (0 : Nat) }, { c := BC.typ (Cont.ints IntKind.i64 (marks.sv (1 : Int) m)), ver := (0 : Nat) + (0 : Nat) }, { c := BC.typ (Cont.ints IntKind.i64 (gms.o.sv (gof.sv fs))), ver := (0 : Nat) }], (4 : Nat)) else bif decide (m ≤ (marks.sv (1 : Int) m).length ∧ m ≤ (4611686018427387904 : Nat) ∧ (0 : Int) ≤ (1 : Int) ∧ (1 : Int) ≤ (1000000000 : Int)) && (false && true || true && true) then bif decide ((bif decide (List.take m (marks.sv (1 : Int) m) = marks.sv (1 : Int) m) then (1 : Int) + (↑m : Int) else (-1 : Int)) < (0 : Int)) then some (AVal.bool false, [{ c := BC.typ (Cont.ints IntKind.i64 (gms.o.sv (gof.sv fs))), ver := (0 : Nat) }, { c := BC.typ (Cont.ints IntKind.i64 (marks.sv (1 : Int) m)), ver := (0 : Nat) + (0 : Nat) }, { c := BC.typ (Cont.ints IntKind.i64 (gms.o.sv (gof.sv fs))), ver := (0 : Nat) }], (4 : Nat)) else bif (bif decide (List.take m (marks.sv (1 : Int) m) = marks.sv (1 : Int) m) then (1 : Int) + (↑m : Int) else (-1 : Int)) != (1 : Int) + (↑m : Int) then some (AVal.bool false, [{ c := BC.typ (Cont.ints IntKind.i64 (gms.o.sv (gof.sv fs))), ver := (0 : Nat) }, { c := BC.typ (Cont.ints IntKind.i64 (marks.sv (1 : Int) m)), ver := (0 : Nat) + (0 : Nat) }, { c := BC.typ (Cont.ints IntKind.i64 (gms.o.sv (gof.sv fs))), ver := (0 : Nat) }], (4 : Nat)) else some (AVal.bool true, [{ c := BC.typ (Cont.ints IntKind.i64 (gms.o.sv (gof.sv fs))), ver := (0 : Nat) }, { c := BC.typ (Cont.ints IntKind.i64 (marks.sv (1 : Int) m)), ver := (0 : Nat) + (0 : Nat) }, { c := BC.typ (Cont.ints IntKind.i64 (gms.o.sv (gof.sv fs))), ver := (0 : Nat) }], (4 : Nat)) else none else none else none else none else none else none else none else none else none else none else none else none else none else none else none else none) := by kernel_rfl
theorem gof (fs : List Fld) (m : Nat) (w : Int) :
  runFnX Try.prog (orcWU [⟨13, markInt64S.R⟩] [⟨6, szGameS.R⟩, ⟨7, sGamesShared.Rf⟩, ⟨9, iGamesShared.Rf⟩, ⟨10, eqInt64N.R⟩, ⟨11, eqGameS.R⟩, ⟨14, heldInt64S.R⟩]) C (fun _ => []) Dr.std 0 (bodyOf Try.f3) 101 [4] [.ro (.recs [0, 0, 1, 1] fs) m 4, .int .i64 w] [] 0
  = (bif decide (fs.length = m * (4 : Nat)) && (gsh.sp fs && gms.short.sp (9223372036854775807 : Nat) (gof.sv fs)) && decide (m ≤ (9223372036854775807 : Nat) ∧ (0 : Int) ≤ (1048576 : Int) ∧ (1048576 : Int) ≤ (9223372036854775807 : Int)) && (true && true || true && true) then bif decide (gms.sz.sv (gof.sv fs) (1048576 : Int) < (0 : Int)) then some (AVal.bool true, [], (0 : Nat)) else bif decide (fs.length = m * (4 : Nat)) && (gsh.sp fs && gms.short.sp (1048576 : Nat) (gof.sv fs)) && decide (m ≤ (1048576 : Nat)) && true then bif decide (fs.length = m * (4 : Nat)) && (gsh.sp fs && (gms.short.sp (4611686018427387904 : Nat) (gof.sv fs) && !gms.sp (gof.sv fs) w)) && (false && (true && true) || true && true) then bif decide (fs.length = m * (4 : Nat)) && (gsh.sp fs && gms.short.sp (1048576 : Nat) (gof.sv fs)) && decide (m ≤ (1048576 : Nat)) && true then bif decide (fs.length = m * (4 : Nat)) && (gsh.sp fs && (gms.short.sp (4611686018427387904 : Nat) (gof.sv fs) && !gms.sp (gof.sv fs) w)) && (false && (true && true) || true && true) then bif decide (fs.length = m * (4 : Nat)) && (gsh.sp fs && gms.short.sp (1048576 : Nat) (gof.sv fs)) && decide (m ≤ (1048576 : Nat)) && true then bif decide (fs.length = m * (4 : Nat)) && (gsh.sp fs && gms.short.sp (4611686018427387904 : Nat) (gof.sv fs)) && decide (m ≤ (4611686018427387904 : Nat) ∧ m = m ∧ [(0 : Nat), (0 : Nat), (1 : Nat), (1 : Nat)] = [(0 : Nat), (0 : Nat), (1 : Nat), (1 : Nat)] ∧ gof.sv fs = gof.sv fs ∧ fs.length = m * (4 : Nat) ∧ gsh.sp fs = true) && (false && (false && true) || true && true) then bif decide ([(0 : Nat), (0 : Nat), (1 : Nat), (1 : Nat)] = [(0 : Nat), (0 : Nat), (1 : Nat), (1 : Nat)] ∧ fs.length = m * (4 : Nat) ∧ m ≤ (1048576 : Nat) ∧ (0 : Int) ≤ (1 : Int) ∧ (1 : Int) + (↑(gms.tt.sv (gof.sv fs)) : Int) ≤ (1000000000 : Int)) && (gsh.sp fs && gms.short.sp (4611686018427387904 : Nat) (gof.sv fs)) then bif decide ((1 : Int) + (↑(gms.tt.sv (gof.sv fs)) : Int) < (0 : Int)) then some (AVal.bool false, [], (3 : Nat)) else bif decide (fs.length = m * (4 : Nat)) && (gsh.sp fs && gms.short.sp (1048576 : Nat) (gof.sv fs)) && decide (m ≤ (1048576 : Nat)) && true then bif decide (fs.length = m * (4 : Nat)) && (gsh.sp fs && (gms.short.sp (4611686018427387904 : Nat) (gof.sv fs) && !gms.sp (gof.sv fs) w)) && (false && (true && true) || true && true) then some (AVal.bool true, [], (4 : Nat)) else none else none else none else none else none else none else none else none else none else none) := by kernel_rfl
theorem Cok : XCok Try.prog C := ⟨by simp only [C, List.mem_cons, List.not_mem_nil, or_false, forall_eq]; exact kGameS.ok, by simp only [C, List.mem_cons, List.not_mem_nil, or_false, forall_eq]; exact mGameS.ok⟩
theorem szl_ok : ∀ {xs : List GmT} {l : Int}, 0 ≤ l → 0 ≤ gms.szl.sv xs l → (gms.tt.sv xs : Int) ≤ 2 * (xs.length : Int) + l ∧ gms.short.sp l.toNat xs = true
  | [], l, h, _ => ⟨by simp [gms.tt.sv]; omega, rfl⟩
  | g :: r, l, h, hz => by
    rw [gms.szl.sv] at hz
    by_cases c : gms.sz1.sv g l < 0
    · rw [decide_eq_true c, cond_true] at hz; omega
    · rw [decide_eq_false c, cond_false] at hz
      obtain ⟨k1, k2⟩ := szl_ok (xs := r) (l := gms.sz1.sv g l) (by omega) hz
      have e : gms.sz1.sv g l = l - (g.2.1.length : Int) - (g.2.2.length : Int) ∧ (g.2.1.length : Int) + (g.2.2.length : Int) ≤ l := by
        unfold gms.sz1.sv at c ⊢
        by_cases c1 : l - (g.2.1.length : Int) < 0
        · rw [decide_eq_true c1, cond_true] at c; omega
        · rw [decide_eq_false c1, cond_false] at c ⊢
          by_cases c2 : l - (g.2.1.length : Int) - (g.2.2.length : Int) < 0
          · rw [decide_eq_true c2, cond_true] at c; omega
          · rw [decide_eq_false c2, cond_false]; exact ⟨rfl, by omega⟩
      refine ⟨?_, ?_⟩
      · rw [gms.tt.sv, List.length_cons]; rw [e.1] at k1; omega
      · have k3 := gms.short_mono (k := l.toNat) (by omega) k2
        unfold gms.short.sp at k3 ⊢
        rw [List.all_cons, k3, decide_eq_true (show g.2.1.length ≤ l.toNat by omega), decide_eq_true (show g.2.2.length ≤ l.toNat by omega)]; rfl
theorem sz_ok {xs : List GmT} {l : Int} (h : 0 ≤ l) (hz : 0 ≤ gms.sz.sv xs l) : (xs.length : Int) ≤ l ∧ (gms.tt.sv xs : Int) ≤ 3 * l ∧ gms.short.sp l.toNat xs = true := by
  unfold gms.sz.sv at hz
  by_cases c : l - (xs.length : Int) < 0
  · rw [decide_eq_true c, cond_true] at hz; omega
  · rw [decide_eq_false c, cond_false] at hz
    obtain ⟨k1, k2⟩ := szl_ok (xs := xs) (by omega) hz
    exact ⟨by omega, by omega, gms.short_mono (by omega) k2⟩
theorem runt (xs : List GmT) (w : Int) (l1 : xs.length ≤ 9223372036854775807) (s1 : gms.short.sp 9223372036854775807 xs = true) (ho : gms.sp xs w = true) : ∃ H' m', runFnX Try.prog (orcWU [⟨13, markInt64S.R⟩] [⟨6, szGameS.R⟩, ⟨7, sGamesShared.Rt⟩, ⟨9, iGamesShared.Rt⟩, ⟨10, eqInt64N.R⟩, ⟨11, eqGameS.R⟩, ⟨14, heldInt64S.R⟩]) C (fun _ => []) Dr.std 0 (bodyOf Try.f3) 101 [4] [.ro (.recs [0, 0, 1, 1] (gfs.sv xs)) xs.length 4, .int .i64 w] [] 0 = some (.bool true, H', m') := by
  rw [got]
  have i0 : (0 : Int) ≤ 1048576 := by omega
  have i1 : (1048576 : Int) ≤ 9223372036854775807 := by omega
  have hlen := gfs_len xs
  obtain ⟨hsh, hof⟩ := gsh_of xs
  by_cases hb : gms.sz.sv xs 1048576 < 0
  · simp -implicitDefEqProofs only [hlen, hsh, hof, l1, s1, i0, i1, hb, Nat.le_refl, true_and, and_true, and_self, decide_true, decide_false, Bool.and_self, Bool.or_self, Bool.and_true, Bool.true_and, Bool.and_false, Bool.false_and, Bool.or_true, Bool.true_or, Bool.or_false, Bool.false_or, Bool.not_true, Bool.not_false, cond_true, cond_false]
    exact ⟨_, _, rfl⟩
  · obtain ⟨q1, q2, q3⟩ := sz_ok (xs := xs) (l := 1048576) (by omega) (by omega)
    have h1 : xs.length ≤ 1048576 := by omega
    have h4 : gms.short.sp 1048576 xs = true := q3
    have h6 : gms.short.sp 4611686018427387904 xs = true := gms.short_mono (by omega) h4
    have h8 : xs.length ≤ 4611686018427387904 := by omega
    have hc : (1 : Int) + (gms.tt.sv xs : Int) ≤ 1000000000 := by omega
    have hd : ¬ ((1 : Int) + (gms.tt.sv xs : Int) < 0) := by omega
    have hg : ¬ ((1 : Int) + (xs.length : Int) < 0) := by omega
    have ol : (gms.o.sv xs).length = xs.length := by simp [gms.o.sv]
    simp -implicitDefEqProofs only [hlen, hsh, hof, l1, s1, i0, i1, hb, h1, h4, h6, h8, hc, hd, hg, ho, ol, ne_eq, not_false_eq_true, eq_self, List.take_take, Nat.min_self, Nat.le_refl, List.take_length, marks_length, take_marks, one_neg, i0_1, i1_b, true_and, and_true, and_self, decide_true, decide_false, Bool.and_self, Bool.or_self, Bool.and_true, Bool.true_and, Bool.and_false, Bool.false_and, Bool.or_true, Bool.true_or, Bool.or_false, Bool.false_or, Bool.not_true, Bool.not_false, cond_true, cond_false, bne_self_eq_false, beq_self_eq_true, and_self, decide_true, decide_false, Bool.and_self, Bool.or_self, Bool.and_true, Bool.true_and, Bool.and_false, Bool.false_and, Bool.or_true, Bool.true_or, Bool.or_false, Bool.false_or, Bool.not_true, Bool.not_false, cond_true, cond_false]
    exact ⟨_, _, rfl⟩
theorem runf (xs : List GmT) (w : Int) (l1 : xs.length ≤ 9223372036854775807) (s1 : gms.short.sp 9223372036854775807 xs = true) (ho : gms.sp xs w = false) : ∃ H' m', runFnX Try.prog (orcWU [⟨13, markInt64S.R⟩] [⟨6, szGameS.R⟩, ⟨7, sGamesShared.Rf⟩, ⟨9, iGamesShared.Rf⟩, ⟨10, eqInt64N.R⟩, ⟨11, eqGameS.R⟩, ⟨14, heldInt64S.R⟩]) C (fun _ => []) Dr.std 0 (bodyOf Try.f3) 101 [4] [.ro (.recs [0, 0, 1, 1] (gfs.sv xs)) xs.length 4, .int .i64 w] [] 0 = some (.bool true, H', m') := by
  rw [gof]
  have i0 : (0 : Int) ≤ 1048576 := by omega
  have i1 : (1048576 : Int) ≤ 9223372036854775807 := by omega
  have hlen := gfs_len xs
  obtain ⟨hsh, hof⟩ := gsh_of xs
  by_cases hb : gms.sz.sv xs 1048576 < 0
  · simp -implicitDefEqProofs only [hlen, hsh, hof, l1, s1, i0, i1, hb, Nat.le_refl, true_and, and_true, and_self, decide_true, decide_false, Bool.and_self, Bool.or_self, Bool.and_true, Bool.true_and, Bool.and_false, Bool.false_and, Bool.or_true, Bool.true_or, Bool.or_false, Bool.false_or, Bool.not_true, Bool.not_false, cond_true, cond_false]
    exact ⟨_, _, rfl⟩
  · obtain ⟨q1, q2, q3⟩ := sz_ok (xs := xs) (l := 1048576) (by omega) (by omega)
    have h1 : xs.length ≤ 1048576 := by omega
    have h4 : gms.short.sp 1048576 xs = true := q3
    have h6 : gms.short.sp 4611686018427387904 xs = true := gms.short_mono (by omega) h4
    have h8 : xs.length ≤ 4611686018427387904 := by omega
    have hc : (1 : Int) + (gms.tt.sv xs : Int) ≤ 1000000000 := by omega
    have hd : ¬ ((1 : Int) + (gms.tt.sv xs : Int) < 0) := by omega
    have hg : ¬ ((1 : Int) + (xs.length : Int) < 0) := by omega
    have ol : (gms.o.sv xs).length = xs.length := by simp [gms.o.sv]
    simp -implicitDefEqProofs only [hlen, hsh, hof, l1, s1, i0, i1, hb, h1, h4, h6, h8, hc, hd, hg, ho, ol, ne_eq, not_false_eq_true, eq_self, List.take_take, Nat.min_self, Nat.le_refl, List.take_length, marks_length, take_marks, one_neg, i0_1, i1_b, true_and, and_true, and_self, decide_true, decide_false, Bool.and_self, Bool.or_self, Bool.and_true, Bool.true_and, Bool.and_false, Bool.false_and, Bool.or_true, Bool.true_or, Bool.or_false, Bool.false_or, Bool.not_true, Bool.not_false, cond_true, cond_false, bne_self_eq_false, beq_self_eq_true, and_self, decide_true, decide_false, Bool.and_self, Bool.or_self, Bool.and_true, Bool.true_and, Bool.and_false, Bool.false_and, Bool.or_true, Bool.true_or, Bool.or_false, Bool.false_or, Bool.not_true, Bool.not_false, cond_true, cond_false]
    exact ⟨_, _, rfl⟩
theorem calls {W : World} {args : Array Value} (xs : List GmT) (l1 : xs.length ≤ 9223372036854775807) (s1 : gms.short.sp 9223372036854775807 xs = true) (w : Int) (h : @VRs noForb [] [] W [.ro (.recs [0, 0, 1, 1] (gfs.sv xs)) xs.length 4, .int .i64 w] args.toList) :
    Calls Try.prog 3 args W fun e W' => e = .returned (.bool true) ∧ Below W.heap.size W W' := by
  rcases Bool.eq_false_or_eq_true (gms.sp xs w) with ho | ho
  · obtain ⟨H', m', hrun⟩ := runt xs w l1 s1 ho
    exact law_callsX mixed (orcWU_ok (by simp only [List.mem_cons, List.not_mem_nil, or_false, forall_eq_or_imp, forall_eq]; exact markInt64S.ok) (by simp only [List.mem_cons, List.not_mem_nil, or_false, forall_eq_or_imp, forall_eq]; exact ⟨szGameS.ok, sGamesShared.okt, iGamesShared.okt, eqInt64N.ok, eqGameS.ok, heldInt64S.ok⟩)) Cok Try.func3 (by kernel_rfl) (n := 101) (ts := [4]) (by kernel_rfl) (by kernel_rfl) (by kernel_rfl) hrun h
  · obtain ⟨H', m', hrun⟩ := runf xs w l1 s1 ho
    exact law_callsX mixed (orcWU_ok (by simp only [List.mem_cons, List.not_mem_nil, or_false, forall_eq_or_imp, forall_eq]; exact markInt64S.ok) (by simp only [List.mem_cons, List.not_mem_nil, or_false, forall_eq_or_imp, forall_eq]; exact ⟨szGameS.ok, sGamesShared.okf, iGamesShared.okf, eqInt64N.ok, eqGameS.ok, heldInt64S.ok⟩)) Cok Try.func3 (by kernel_rfl) (n := 101) (ts := [4]) (by kernel_rfl) (by kernel_rfl) (by kernel_rfl) hrun h
end FnExactGamesShared
end Go.Proofs.Ythecninmmojkgaa.Ab
