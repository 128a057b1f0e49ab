/-
  Functions: the law of games with both players exchanged.
-/
import Derived.Test.YtnakiceojcomlaaFnGC
namespace Go.Proofs.Ytnakiceojcomlaa.Ab
open Go
set_option linter.unusedVariables false
set_option linter.unusedSimpArgs false
set_option maxRecDepth 100000

namespace iTurnGame_t
def R : List AVal → Option (Bool × AVal × List Blk)
  | [.agg [.int .i64 r, .int .i64 c, .ro (.ints .i64 xs) ma 1, .ro (.ints .i64 ys) mb 1]] => some (decide (ma = xs.length ∧ mb = ys.length ∧ ma ≤ 4611686018427387904 ∧ mb ≤ 4611686018427387904) && gm.sp r c xs ys, .tup [.agg [.int .i64 c, .int .i64 r, .own 0 0 (tn.sv r.toNat c.toNat ys).length 0 1, .own 1 0 (tn.sv r.toNat c.toNat xs).length 0 1], .bool true], [⟨.typ (.ints .i64 (tn.sv r.toNat c.toNat ys)), 0⟩, ⟨.typ (.ints .i64 (tn.sv r.toNat c.toNat xs)), 0⟩])
  | _ => none
theorem go (r c : Int) (xs ys : List Int) :
  regc [2, 3] (runFn Try.prog (orc [⟨52, iValidGame.R⟩, ⟨53, gTurned.R⟩]) hd0 Dr.std none 0 (bodyOf Try.f16) 10 [.cell 2 26, .tmp 3] [.agg [.int .i64 r, .int .i64 c, .ro (.ints .i64 xs) xs.length 1, .ro (.ints .i64 ys) ys.length 1]] [])
  = (match bif true && true && (true && true && (true && true && (true && true && true))) then bif decide (xs.length = xs.length ∧ ys.length = ys.length ∧ xs.length ≤ (4611686018427387904 : Nat) ∧ ys.length ≤ (4611686018427387904 : Nat)) && (true && (true && (true && (true && true))) && true || true && true) then bif !gm.sp r c xs ys then some (AVal.tup [AVal.agg [AVal.int IntKind.i64 (0 : Int), AVal.int IntKind.i64 (0 : Int), AVal.nils, AVal.nils], AVal.bool false], [{ c := BC.cells [AVal.int IntKind.i64 r, AVal.int IntKind.i64 c, AVal.ro (Cont.ints IntKind.i64 xs) xs.length (1 : Nat), AVal.ro (Cont.ints IntKind.i64 ys) ys.length (1 : Nat)], ver := (0 : Nat) }, { c := BC.cells [AVal.int IntKind.i64 (0 : Int), AVal.int IntKind.i64 (0 : Int), AVal.nils, AVal.nils], ver := (0 : Nat) }]) else bif true && true && (true && true && (true && true && (true && true && true))) then bif decide (xs.length = xs.length ∧ ys.length = ys.length) && gm.sp r c xs ys && (true && (true && (true && (true && true))) && true || true && (true && (true && (true && true))) && (true && (true && true))) then bif true && (true && (true && (true && (true && (true && true))))) then bif true && true && (true && true && (true && true && (true && true && true))) && true then some (AVal.tup [AVal.agg [AVal.int IntKind.i64 c, AVal.int IntKind.i64 r, AVal.own (2 : Nat) (0 : Nat) (c * r).toNat (0 : Nat) (1 : Nat), AVal.own (3 : Nat) (0 : Nat) (c * r).toNat (0 : Nat) (1 : Nat)], AVal.bool true], [{ c := BC.cells [AVal.int IntKind.i64 r, AVal.int IntKind.i64 c, AVal.ro (Cont.ints IntKind.i64 xs) xs.length (1 : Nat), AVal.ro (Cont.ints IntKind.i64 ys) ys.length (1 : Nat)], ver := (0 : Nat) }, { c := BC.cells [AVal.int IntKind.i64 c, AVal.int IntKind.i64 r, AVal.own (2 : Nat) (0 : Nat) (c * r).toNat (0 : Nat) (1 : Nat), AVal.own (3 : Nat) (0 : Nat) (c * r).toNat (0 : Nat) (1 : Nat)], ver := (0 : Nat) }, { c := BC.typ (Cont.ints IntKind.i64 (tn.sv r.toNat c.toNat ys)), ver := (0 : Nat) }, { c := BC.typ (Cont.ints IntKind.i64 (tn.sv r.toNat c.toNat xs)), ver := (0 : Nat) }]) else none else none else none else none else none else none with
| some (v, h) =>
  bif true && (ltN (2 : Nat) (hlen h) && (ltN (3 : Nat) (hlen h) && true)) then
    some
      (AVal.re [(2 : Nat), (3 : Nat)] h v,
        match nth h (2 : Nat) with
        | some b => { c := BC.re [(2 : Nat), (3 : Nat)] h b.c, ver := b.ver } :: reB [(2 : Nat), (3 : Nat)] h [(3 : Nat)]
        | none => { c := BC.cells [], ver := (0 : Nat) } :: reB [(2 : Nat), (3 : Nat)] h [(3 : Nat)])
  else none
| none => none) := by kernel_rfl
theorem run : ∀ args v new, R args = some (true, v, new) → ∃ fuel, regc [2, 3] (runFn Try.prog (orc [⟨52, iValidGame.R⟩, ⟨53, gTurned.R⟩]) hd0 Dr.std none fuel (bodyOf Try.f16) 10 [.cell 2 26, .tmp 3] args []) = some (v, new) := by
  intro args v new h
  unfold R at h
  split at h
  · rename_i r c xs ma ys mb
    simp only [Option.some.injEq, Prod.mk.injEq, Bool.and_eq_true, decide_eq_true_eq, Bool.not_eq_true'] at h
    obtain ⟨⟨⟨rfl, rfl, h3, h4⟩, hv⟩, rfl, rfl⟩ := h
    refine ⟨0, ?_⟩
    rw [go]
    have el : ∀ zs, (tn.sv r.toNat c.toNat zs).length = (c * r).toNat := fun zs => by
      obtain ⟨r', c', rfl, rfl, _⟩ := gm.valid hv
      rw [tn.sv_length]
      have : (c' : Int) * (r' : Int) = ((c' * r' : Nat) : Int) := by simp
      rw [this]; rfl
    rw [el, el]
    simp only [h3, h4, hv, and_self, decide_true, decide_false, Bool.and_self, Bool.or_self, Bool.and_true, Bool.true_and, Bool.and_false, Bool.false_and, Bool.or_true, Bool.true_or, Bool.or_false, Bool.false_or, Bool.not_true, Bool.not_false, cond_true, cond_false]
    try rfl
  · cases h
theorem ok : EntOk Try.prog ⟨16, R⟩ :=
  ent_okAG (ks := [2, 3]) mixed (A := (orc [⟨52, iValidGame.R⟩, ⟨53, gTurned.R⟩])) (orc_ok (by simp only [List.mem_cons, List.not_mem_nil, or_false, forall_eq_or_imp, forall_eq]; exact ⟨iValidGame.ok, gTurned.ok⟩)) Try.func16 (by kernel_rfl) (by kernel_rfl) (n := 10) (ts := [.cell 2 26, .tmp 3]) (hd := hd0) (dr := Dr.std) (cut := none) (by kernel_rfl) (by kernel_rfl) (by kernel_rfl) run
end iTurnGame_t

namespace iTurnGame_f
def R : List AVal → Option (Bool × AVal × List Blk)
  | [.agg [.int .i64 r, .int .i64 c, .ro (.ints .i64 xs) ma 1, .ro (.ints .i64 ys) mb 1]] => some (decide (ma = xs.length ∧ mb = ys.length ∧ ma ≤ 4611686018427387904 ∧ mb ≤ 4611686018427387904) && !gm.sp r c xs ys, .tup [.agg [.int .i64 0, .int .i64 0, .nils, .nils], .bool false], [])
  | _ => none
theorem go (r c : Int) (xs ys : List Int) :
  runFn Try.prog (orc [⟨52, iValidGame.R⟩]) hd0 Dr.std (some 0) 0 (bodyOf Try.f16) 10 [.cell 2 26, .tmp 3] [.agg [.int .i64 r, .int .i64 c, .ro (.ints .i64 xs) xs.length 1, .ro (.ints .i64 ys) ys.length 1]] []
  = (bif true && true && (true && true && (true && true && (true && true && true))) then bif decide (xs.length = xs.length ∧ ys.length = ys.length ∧ xs.length ≤ (4611686018427387904 : Nat) ∧ ys.length ≤ (4611686018427387904 : Nat)) && (true && (true && (true && (true && true))) && true || true && true) then bif !gm.sp r c xs ys then some (AVal.tup [AVal.agg [AVal.int IntKind.i64 (0 : Int), AVal.int IntKind.i64 (0 : Int), AVal.nils, AVal.nils], AVal.bool false], []) else bif true && true && (true && true && (true && true && (true && true && true))) then none else none else none else none) := by kernel_rfl
theorem run : ∀ args v new, R args = some (true, v, new) → ∃ fuel, runFn Try.prog (orc [⟨52, iValidGame.R⟩]) hd0 Dr.std (some 0) fuel (bodyOf Try.f16) 10 [.cell 2 26, .tmp 3] args [] = some (v, new) := by
  intro args v new h
  unfold R at h
  split at h
  · rename_i r c xs ma ys mb
    simp only [Option.some.injEq, Prod.mk.injEq, Bool.and_eq_true, decide_eq_true_eq, Bool.not_eq_true'] at h
    obtain ⟨⟨⟨rfl, rfl, h3, h4⟩, hv⟩, rfl, rfl⟩ := h
    refine ⟨0, ?_⟩
    rw [go]
    simp only [h3, h4, hv, and_self, decide_true, decide_false, Bool.and_self, Bool.or_self, Bool.and_true, Bool.true_and, Bool.and_false, Bool.false_and, Bool.or_true, Bool.true_or, Bool.or_false, Bool.false_or, Bool.not_true, Bool.not_false, cond_true, cond_false]
    try rfl
  · cases h
theorem ok : EntOk Try.prog ⟨16, R⟩ :=
  ent_okA mixed (A := (orc [⟨52, iValidGame.R⟩])) (orc_ok (by simp only [List.mem_cons, List.not_mem_nil, or_false, forall_eq_or_imp, forall_eq]; exact iValidGame.ok)) Try.func16 (by kernel_rfl) (by kernel_rfl) (n := 10) (ts := [.cell 2 26, .tmp 3]) (hd := hd0) (dr := Dr.std) (cut := (some 0)) (by kernel_rfl) (by kernel_rfl) (by kernel_rfl) run
end iTurnGame_f

namespace iTurnGame
def Rt := iTurnGame_t.R
def Rf := iTurnGame_f.R
theorem okt : EntOk Try.prog ⟨16, Rt⟩ := iTurnGame_t.ok
theorem okf : EntOk Try.prog ⟨16, Rf⟩ := iTurnGame_f.ok
end iTurnGame

namespace sTurnGame_t
def R : List AVal → Option (Bool × AVal × List Blk)
  | [.agg [.int .i64 r, .int .i64 c, .ro (.ints .i64 xs) ma 1, .ro (.ints .i64 ys) mb 1]] => some (decide (ma = xs.length ∧ mb = ys.length ∧ ma ≤ 4611686018427387904 ∧ mb ≤ 4611686018427387904) && gm.sp r c xs ys, .tup [.agg [.int .i64 c, .int .i64 r, .own 0 0 (tn.sv r.toNat c.toNat ys).length 0 1, .own 1 0 (tn.sv r.toNat c.toNat xs).length 0 1], .bool true], [⟨.typ (.ints .i64 (tn.sv r.toNat c.toNat ys)), 0⟩, ⟨.typ (.ints .i64 (tn.sv r.toNat c.toNat xs)), 0⟩])
  | _ => none
theorem go (r c : Int) (xs ys : List Int) :
  regc [2, 3] (runFn Try.prog (orc [⟨49, l02Is.R⟩, ⟨50, l02Turn.R⟩]) hd0 Dr.std none 0 (bodyOf Try.f14) 8 [.cell 2 26, .tmp 3] [.agg [.int .i64 r, .int .i64 c, .ro (.ints .i64 xs) xs.length 1, .ro (.ints .i64 ys) ys.length 1]] [])
  = (match bif decide (xs.length = xs.length ∧ ys.length = ys.length ∧ xs.length ≤ (4611686018427387904 : Nat) ∧ ys.length ≤ (4611686018427387904 : Nat)) && (false && true || true && true) then bif !gm.sp r c xs ys then some (AVal.tup [AVal.agg [AVal.int IntKind.i64 (0 : Int), AVal.int IntKind.i64 (0 : Int), AVal.nils, AVal.nils], AVal.bool false], [{ c := BC.cells [AVal.int IntKind.i64 r, AVal.int IntKind.i64 c, AVal.ro (Cont.ints IntKind.i64 xs) xs.length (1 : Nat), AVal.ro (Cont.ints IntKind.i64 ys) ys.length (1 : Nat)], ver := (0 : Nat) }, { c := BC.cells [AVal.int IntKind.i64 (0 : Int), AVal.int IntKind.i64 (0 : Int), AVal.nils, AVal.nils], ver := (0 : Nat) }]) else bif decide (xs.length = xs.length ∧ ys.length = ys.length) && gm.sp r c xs ys && (false && true || true && (true && (true && (true && true))) && (true && (true && true))) then bif true && (true && (true && (true && (true && (true && true))))) then bif true && true && (true && true && (true && true && (true && true && true))) && true then some (AVal.tup [AVal.agg [AVal.int IntKind.i64 c, AVal.int IntKind.i64 r, AVal.own (2 : Nat) (0 : Nat) (c * r).toNat (0 : Nat) (1 : Nat), AVal.own (3 : Nat) (0 : Nat) (c * r).toNat (0 : Nat) (1 : Nat)], AVal.bool true], [{ c := BC.cells [AVal.int IntKind.i64 r, AVal.int IntKind.i64 c, AVal.ro (Cont.ints IntKind.i64 xs) xs.length (1 : Nat), AVal.ro (Cont.ints IntKind.i64 ys) ys.length (1 : Nat)], ver := (0 : Nat) }, { c := BC.cells [AVal.int IntKind.i64 c, AVal.int IntKind.i64 r, AVal.own (2 : Nat) (0 : Nat) (c * r).toNat (0 : Nat) (1 : Nat), AVal.own (3 : Nat) (0 : Nat) (c * r).toNat (0 : Nat) (1 : Nat)], ver := (0 : Nat) }, { c := BC.typ (Cont.ints IntKind.i64 (tn.sv r.toNat c.toNat ys)), ver := (0 : Nat) }, { c := BC.typ (Cont.ints IntKind.i64 (tn.sv r.toNat c.toNat xs)), ver := (0 : Nat) }]) else none else none else none else none with
| some (v, h) =>
  bif true && (ltN (2 : Nat) (hlen h) && (ltN (3 : Nat) (hlen h) && true)) then
    some
      (AVal.re [(2 : Nat), (3 : Nat)] h v,
        match nth h (2 : Nat) with
        | some b => { c := BC.re [(2 : Nat), (3 : Nat)] h b.c, ver := b.ver } :: reB [(2 : Nat), (3 : Nat)] h [(3 : Nat)]
        | none => { c := BC.cells [], ver := (0 : Nat) } :: reB [(2 : Nat), (3 : Nat)] h [(3 : Nat)])
  else none
| none => none) := by kernel_rfl
theorem run : ∀ args v new, R args = some (true, v, new) → ∃ fuel, regc [2, 3] (runFn Try.prog (orc [⟨49, l02Is.R⟩, ⟨50, l02Turn.R⟩]) hd0 Dr.std none fuel (bodyOf Try.f14) 8 [.cell 2 26, .tmp 3] args []) = some (v, new) := by
  intro args v new h
  unfold R at h
  split at h
  · rename_i r c xs ma ys mb
    simp only [Option.some.injEq, Prod.mk.injEq, Bool.and_eq_true, decide_eq_true_eq, Bool.not_eq_true'] at h
    obtain ⟨⟨⟨rfl, rfl, h3, h4⟩, hv⟩, rfl, rfl⟩ := h
    refine ⟨0, ?_⟩
    rw [go]
    have el : ∀ zs, (tn.sv r.toNat c.toNat zs).length = (c * r).toNat := fun zs => by
      obtain ⟨r', c', rfl, rfl, _⟩ := gm.valid hv
      rw [tn.sv_length]
      have : (c' : Int) * (r' : Int) = ((c' * r' : Nat) : Int) := by simp
      rw [this]; rfl
    rw [el, el]
    simp only [h3, h4, hv, and_self, decide_true, decide_false, Bool.and_self, Bool.or_self, Bool.and_true, Bool.true_and, Bool.and_false, Bool.false_and, Bool.or_true, Bool.true_or, Bool.or_false, Bool.false_or, Bool.not_true, Bool.not_false, cond_true, cond_false]
    try rfl
  · cases h
theorem ok : EntOk Try.prog ⟨14, R⟩ :=
  ent_okAG (ks := [2, 3]) mixed (A := (orc [⟨49, l02Is.R⟩, ⟨50, l02Turn.R⟩])) (orc_ok (by simp only [List.mem_cons, List.not_mem_nil, or_false, forall_eq_or_imp, forall_eq]; exact ⟨l02Is.ok, l02Turn.ok⟩)) Try.func14 (by kernel_rfl) (by kernel_rfl) (n := 8) (ts := [.cell 2 26, .tmp 3]) (hd := hd0) (dr := Dr.std) (cut := none) (by kernel_rfl) (by kernel_rfl) (by kernel_rfl) run
end sTurnGame_t

namespace sTurnGame_f
def R : List AVal → Option (Bool × AVal × List Blk)
  | [.agg [.int .i64 r, .int .i64 c, .ro (.ints .i64 xs) ma 1, .ro (.ints .i64 ys) mb 1]] => some (decide (ma = xs.length ∧ mb = ys.length ∧ ma ≤ 4611686018427387904 ∧ mb ≤ 4611686018427387904) && !gm.sp r c xs ys, .tup [.agg [.int .i64 0, .int .i64 0, .nils, .nils], .bool false], [])
  | _ => none
theorem go (r c : Int) (xs ys : List Int) :
  runFn Try.prog (orc [⟨49, l02Is.R⟩]) hd0 Dr.std (some 0) 0 (bodyOf Try.f14) 8 [.cell 2 26, .tmp 3] [.agg [.int .i64 r, .int .i64 c, .ro (.ints .i64 xs) xs.length 1, .ro (.ints .i64 ys) ys.length 1]] []
  = (bif decide (xs.length = xs.length ∧ ys.length = ys.length ∧ xs.length ≤ (4611686018427387904 : Nat) ∧ ys.length ≤ (4611686018427387904 : Nat)) && (false && true || true && true) then bif !gm.sp r c xs ys then some (AVal.tup [AVal.agg [AVal.int IntKind.i64 (0 : Int), AVal.int IntKind.i64 (0 : Int), AVal.nils, AVal.nils], AVal.bool false], []) else none else none) := by kernel_rfl
theorem run : ∀ args v new, R args = some (true, v, new) → ∃ fuel, runFn Try.prog (orc [⟨49, l02Is.R⟩]) hd0 Dr.std (some 0) fuel (bodyOf Try.f14) 8 [.cell 2 26, .tmp 3] args [] = some (v, new) := by
  intro args v new h
  unfold R at h
  split at h
  · rename_i r c xs ma ys mb
    simp only [Option.some.injEq, Prod.mk.injEq, Bool.and_eq_true, decide_eq_true_eq, Bool.not_eq_true'] at h
    obtain ⟨⟨⟨rfl, rfl, h3, h4⟩, hv⟩, rfl, rfl⟩ := h
    refine ⟨0, ?_⟩
    rw [go]
    simp only [h3, h4, hv, and_self, decide_true, decide_false, Bool.and_self, Bool.or_self, Bool.and_true, Bool.true_and, Bool.and_false, Bool.false_and, Bool.or_true, Bool.true_or, Bool.or_false, Bool.false_or, Bool.not_true, Bool.not_false, cond_true, cond_false]
    try rfl
  · cases h
theorem ok : EntOk Try.prog ⟨14, R⟩ :=
  ent_okA mixed (A := (orc [⟨49, l02Is.R⟩])) (orc_ok (by simp only [List.mem_cons, List.not_mem_nil, or_false, forall_eq_or_imp, forall_eq]; exact l02Is.ok)) Try.func14 (by kernel_rfl) (by kernel_rfl) (n := 8) (ts := [.cell 2 26, .tmp 3]) (hd := hd0) (dr := Dr.std) (cut := (some 0)) (by kernel_rfl) (by kernel_rfl) (by kernel_rfl) run
end sTurnGame_f

namespace sTurnGame
def Rt := sTurnGame_t.R
def Rf := sTurnGame_f.R
theorem okt : EntOk Try.prog ⟨14, Rt⟩ := sTurnGame_t.ok
theorem okf : EntOk Try.prog ⟨14, Rf⟩ := sTurnGame_f.ok
end sTurnGame

namespace FnExactTurnGamet
def R : List AVal → Option (Bool × AVal × List Blk)
  | [.agg [.int .i64 u, .int .i64 r, .ro (.ints .i64 ws) mw 1, .ro (.ints .i64 cs) mc 1]] => some (decide (mw ≤ ws.length ∧ mc ≤ cs.length ∧ mw ≤ 9223372036854775807 ∧ mc ≤ 9223372036854775807) && (decide ((1048576 : Int) - (mw : Int) < 0 ∨ (1048576 : Int) - (mw : Int) - (mc : Int) < 0) || (gm.sp u r (ws.take mw) (cs.take mc))), .bool true, [])
  | _ => none
theorem go (u r : Int) (ws cs : List Int) (mw mc : Nat) :
  runFn Try.prog (orcW [⟨18, markGameN.R⟩] [⟨13, szGame.R⟩, ⟨15, toGame.R⟩, ⟨17, eqGameN.R⟩, ⟨14, sTurnGame.Rt⟩, ⟨16, iTurnGame.Rt⟩, ⟨19, heldGameN.R⟩]) hd0 Dr.std (some 0) 0 (bodyOf Try.f3) 96 [2] [.agg [.int .i64 u, .int .i64 r, .ro (.ints .i64 ws) mw 1, .ro (.ints .i64 cs) mc 1]] []
  = (bif true && true && (true && true && (true && true && (true && true && true))) then bif decide (mw ≤ (9223372036854775807 : Nat) ∧ mc ≤ (9223372036854775807 : Nat) ∧ (0 : Int) ≤ (1048576 : Int) ∧ (1048576 : Int) ≤ (9223372036854775807 : Int)) && (true && (true && (true && (true && true))) && true || true && true) then bif decide ((bif decide ((1048576 : Int) - (↑mw : Int) < (0 : Int)) then (-1 : Int) else bif decide ((1048576 : Int) - (↑mw : Int) - (↑mc : Int) < (0 : Int)) then (-1 : Int) else (1048576 : Int) - (↑mw : Int) - (↑mc : Int)) < (0 : Int)) then some (AVal.bool true, []) else bif true && true && (true && true && (true && true && (true && true && true))) then bif decide (mw ≤ ws.length ∧ mw ≤ (1048576 : Nat) ∧ mc ≤ cs.length ∧ mc ≤ (1048576 : Nat)) && (true && (true && (true && (true && true))) && true || true && (true && (true && (true && true))) && (true && (true && true))) then bif decide (mw = (List.take mw ws).length ∧ mc = (List.take mc cs).length ∧ mw ≤ (4611686018427387904 : Nat) ∧ mc ≤ (4611686018427387904 : Nat)) && gm.sp u r (List.take mw ws) (List.take mc cs) && (true && (true && (false && (false && true))) && true || true && (true && (true && (true && true))) && true && (true && (true && true))) then bif true && (true && (true && (true && (true && (true && true))))) then bif true && true && (true && true && (true && true && (true && true && true))) then bif decide (mw ≤ ws.length ∧ mw ≤ (1048576 : Nat) ∧ mc ≤ cs.length ∧ mc ≤ (1048576 : Nat)) && (true && (true && (true && (true && true))) && true || true && (true && (true && (true && true))) && (true && (true && true))) then bif true && (true && (true && (true && (true && (true && true))))) then bif true && true && (true && true && (true && true && (true && true && true))) then bif decide (mw = (List.take mw ws).length ∧ mc = (List.take mc cs).length ∧ mw ≤ (4611686018427387904 : Nat) ∧ mc ≤ (4611686018427387904 : Nat)) && gm.sp u r (List.take mw ws) (List.take mc cs) && (true && (true && (false && (false && true))) && true || true && (true && (true && (true && true))) && true && (true && (true && true))) then bif true && (true && (true && (true && (true && (true && true))))) then bif true && true && (true && true && (true && true && (true && true && true))) then bif true && true && (true && true && (true && true && (true && true && true))) then bif decide ((tn.sv u.toNat r.toNat (List.take mc cs)).length ≤ (tn.sv u.toNat r.toNat (List.take mc cs)).length ∧ (tn.sv u.toNat r.toNat (List.take mc cs)).length ≤ (tn.sv u.toNat r.toNat (List.take mc cs)).length ∧ (tn.sv u.toNat r.toNat (List.take mc cs)).length ≤ (4611686018427387904 : Nat) ∧ (tn.sv u.toNat r.toNat (List.take mw ws)).length ≤ (tn.sv u.toNat r.toNat (List.take mw ws)).length ∧ (tn.sv u.toNat r.toNat (List.take mw ws)).length ≤ (tn.sv u.toNat r.toNat (List.take mw ws)).length ∧ (tn.sv u.toNat r.toNat (List.take mw ws)).length ≤ (4611686018427387904 : Nat)) && (true && (true && (false && (false && true))) && (true && (true && (false && (false && true))) && true) || true && true) then bif !(decide (r = r) && (decide (u = u) && (decide (List.take (tn.sv u.toNat r.toNat (List.take mc cs)).length (tn.sv u.toNat r.toNat (List.take mc cs)) = List.take (tn.sv u.toNat r.toNat (List.take mc cs)).length (tn.sv u.toNat r.toNat (List.take mc cs))) && decide (List.take (tn.sv u.toNat r.toNat (List.take mw ws)).length (tn.sv u.toNat r.toNat (List.take mw ws)) = List.take (tn.sv u.toNat r.toNat (List.take mw ws)).length (tn.sv u.toNat r.toNat (List.take mw ws)))))) then some (AVal.bool false, []) else bif true && true && (true && true && (true && true && (true && true && true))) then bif true && true && (true && true && (true && true && (true && true && true))) then bif decide (mw ≤ ws.length ∧ mw ≤ (1048576 : Nat) ∧ mc ≤ cs.length ∧ mc ≤ (1048576 : Nat)) && (true && (true && (true && (true && true))) && true || true && (true && (true && (true && true))) && (true && (true && true))) then bif decide (mw ≤ (List.take mw ws).length ∧ mw ≤ (List.take mw ws).length ∧ mw ≤ (4611686018427387904 : Nat) ∧ mc ≤ (List.take mc cs).length ∧ mc ≤ (List.take mc cs).length ∧ mc ≤ (4611686018427387904 : Nat)) && (true && (true && (false && (false && true))) && (true && (true && (false && (false && true))) && true) || true && true) then bif !(decide (u = u) && (decide (r = r) && (decide (List.take mw (List.take mw ws) = List.take mw (List.take mw ws)) && decide (List.take mc (List.take mc cs) = List.take mc (List.take mc cs))))) then some (AVal.bool false, []) else bif true && true && (true && true && (true && true && (true && true && true))) then bif decide (mw = (List.take mw ws).length ∧ mw ≤ (1048576 : Nat) ∧ mc = (List.take mc cs).length ∧ mc ≤ (1048576 : Nat) ∧ (0 : Int) ≤ (1 : Int) ∧ (1 : Int) ≤ (100000000 : Int)) && (true && (true && true) && (true && (true && true))) then bif decide ((1 : Int) + (↑mw : Int) + (↑mc : Int) < (0 : Int)) then some (AVal.bool false, []) else bif true && true && (true && true && (true && true && (true && true && true))) then bif true && true && (true && true && (true && true && (true && true && true))) then bif decide ((tn.sv u.toNat r.toNat (List.take mc cs)).length ≤ (tn.sv u.toNat r.toNat (List.take mc cs)).length ∧ (tn.sv u.toNat r.toNat (List.take mc cs)).length ≤ (tn.sv u.toNat r.toNat (List.take mc cs)).length ∧ (tn.sv u.toNat r.toNat (List.take mc cs)).length ≤ (4611686018427387904 : Nat) ∧ (tn.sv u.toNat r.toNat (List.take mw ws)).length ≤ (tn.sv u.toNat r.toNat (List.take mw ws)).length ∧ (tn.sv u.toNat r.toNat (List.take mw ws)).length ≤ (tn.sv u.toNat r.toNat (List.take mw ws)).length ∧ (tn.sv u.toNat r.toNat (List.take mw ws)).length ≤ (4611686018427387904 : Nat)) && (true && (true && (false && (false && true))) && (true && (true && (false && (false && true))) && true) || true && true) then bif !(decide (r = r) && (decide (u = u) && (decide (List.take (tn.sv u.toNat r.toNat (List.take mc cs)).length (tn.sv u.toNat r.toNat (List.take mc cs)) = List.take (tn.sv u.toNat r.toNat (List.take mc cs)).length (tn.sv u.toNat r.toNat (List.take mc cs))) && decide (List.take (tn.sv u.toNat r.toNat (List.take mw ws)).length (tn.sv u.toNat r.toNat (List.take mw ws)) = List.take (tn.sv u.toNat r.toNat (List.take mw ws)).length (tn.sv u.toNat r.toNat (List.take mw ws)))))) then some (AVal.bool false, []) else bif true && true && (true && true && (true && true && (true && true && true))) then bif decide ((tn.sv u.toNat r.toNat (List.take mc cs)).length = (tn.sv u.toNat r.toNat (List.take mc cs)).length ∧ (tn.sv u.toNat r.toNat (List.take mc cs)).length ≤ (1048576 : Nat) ∧ (tn.sv u.toNat r.toNat (List.take mw ws)).length = (tn.sv u.toNat r.toNat (List.take mw ws)).length ∧ (tn.sv u.toNat r.toNat (List.take mw ws)).length ≤ (1048576 : Nat) ∧ (0 : Int) ≤ (1 : Int) ∧ (1 : Int) ≤ (100000000 : Int)) && (true && (true && true) && (true && (true && true))) then bif true && true && (true && true && (true && true && (true && true && true))) then bif decide ((tn.sv u.toNat r.toNat (List.take mc cs)).length ≤ (marks.sv (1 : Int) (tn.sv u.toNat r.toNat (List.take mc cs)).length).length ∧ (tn.sv u.toNat r.toNat (List.take mc cs)).length ≤ (1048576 : Nat) ∧ (tn.sv u.toNat r.toNat (List.take mw ws)).length ≤ (marks.sv ((1 : Int) + (↑(tn.sv u.toNat r.toNat (List.take mc cs)).length : Int)) (tn.sv u.toNat r.toNat (List.take mw ws)).length).length ∧ (tn.sv u.toNat r.toNat (List.take mw ws)).length ≤ (1048576 : Nat) ∧ (0 : Int) ≤ (1 : Int) ∧ (1 : Int) ≤ (100000000 : Int)) && (decide (List.take (tn.sv u.toNat r.toNat (List.take mc cs)).length (marks.sv (1 : Int) (tn.sv u.toNat r.toNat (List.take mc cs)).length) = marks.sv (1 : Int) (tn.sv u.toNat r.toNat (List.take mc cs)).length) && decide (List.take (tn.sv u.toNat r.toNat (List.take mw ws)).length (marks.sv ((1 : Int) + (↑(tn.sv u.toNat r.toNat (List.take mc cs)).length : Int)) (tn.sv u.toNat r.toNat (List.take mw ws)).length) = marks.sv ((1 : Int) + (↑(tn.sv u.toNat r.toNat (List.take mc cs)).length : Int)) (tn.sv u.toNat r.toNat (List.take mw ws)).length)) && (true && (true && (false && (false && true))) && true || true && true) then bif decide ((1 : Int) + (↑(tn.sv u.toNat r.toNat (List.take mc cs)).length : Int) + (↑(tn.sv u.toNat r.toNat (List.take mw ws)).length : Int) < (0 : Int)) then some (AVal.bool false, []) else bif (1 : Int) + (↑(tn.sv u.toNat r.toNat (List.take mc cs)).length : Int) + (↑(tn.sv u.toNat r.toNat (List.take mw ws)).length : Int) != (1 : Int) + (↑(tn.sv u.toNat r.toNat (List.take mc cs)).length : Int) + (↑(tn.sv u.toNat r.toNat (List.take mw ws)).length : Int) then some (AVal.bool false, []) else bif true && true && (true && true && (true && true && (true && true && true))) then bif decide (mw ≤ ws.length ∧ mw ≤ (1048576 : Nat) ∧ mc ≤ cs.length ∧ mc ≤ (1048576 : Nat)) && (true && (true && (true && (true && true))) && true || true && (true && (true && (true && true))) && (true && (true && true))) then bif decide (mw = (List.take mw ws).length ∧ mc = (List.take mc cs).length ∧ mw ≤ (4611686018427387904 : Nat) ∧ mc ≤ (4611686018427387904 : Nat)) && gm.sp u r (List.take mw ws) (List.take mc cs) && (true && (true && (false && (false && true))) && true || true && (true && (true && (true && true))) && true && (true && (true && true))) then bif true && (true && (true && (true && (true && (true && true))))) then bif true && true && (true && true && (true && true && (true && true && true))) then bif true && true && (true && true && (true && true && (true && true && true))) then bif decide ((tn.sv u.toNat r.toNat (List.take mc cs)).length ≤ (tn.sv u.toNat r.toNat (List.take mc cs)).length ∧ (tn.sv u.toNat r.toNat (List.take mc cs)).length ≤ (tn.sv u.toNat r.toNat (List.take mc cs)).length ∧ (tn.sv u.toNat r.toNat (List.take mc cs)).length ≤ (4611686018427387904 : Nat) ∧ (tn.sv u.toNat r.toNat (List.take mw ws)).length ≤ (tn.sv u.toNat r.toNat (List.take mw ws)).length ∧ (tn.sv u.toNat r.toNat (List.take mw ws)).length ≤ (tn.sv u.toNat r.toNat (List.take mw ws)).length ∧ (tn.sv u.toNat r.toNat (List.take mw ws)).length ≤ (4611686018427387904 : Nat)) && (true && (true && (false && (false && true))) && (true && (true && (false && (false && true))) && true) || true && true) then bif !(decide (r = r) && (decide (u = u) && (decide (List.take (tn.sv u.toNat r.toNat (List.take mc cs)).length (tn.sv u.toNat r.toNat (List.take mc cs)) = List.take (tn.sv u.toNat r.toNat (List.take mc cs)).length (tn.sv u.toNat r.toNat (List.take mc cs))) && decide (List.take (tn.sv u.toNat r.toNat (List.take mw ws)).length (tn.sv u.toNat r.toNat (List.take mw ws)) = List.take (tn.sv u.toNat r.toNat (List.take mw ws)).length (tn.sv u.toNat r.toNat (List.take mw ws)))))) then some (AVal.bool false, []) else bif true && true && (true && true && (true && true && (true && true && true))) then bif decide ((tn.sv u.toNat r.toNat (List.take mc cs)).length ≤ (marks.sv (1 : Int) (tn.sv u.toNat r.toNat (List.take mc cs)).length).length ∧ (tn.sv u.toNat r.toNat (List.take mc cs)).length ≤ (1048576 : Nat) ∧ (tn.sv u.toNat r.toNat (List.take mw ws)).length ≤ (marks.sv ((1 : Int) + (↑(tn.sv u.toNat r.toNat (List.take mc cs)).length : Int)) (tn.sv u.toNat r.toNat (List.take mw ws)).length).length ∧ (tn.sv u.toNat r.toNat (List.take mw ws)).length ≤ (1048576 : Nat) ∧ (0 : Int) ≤ (1 : Int) ∧ (1 : Int) ≤ (100000000 : Int)) && (decide (List.take (tn.sv u.toNat r.toNat (List.take mc cs)).length (marks.sv (1 : Int) (tn.sv u.toNat r.toNat (List.take mc cs)).length) = marks.sv (1 : Int) (tn.sv u.toNat r.toNat (List.take mc cs)).length) && decide (List.take (tn.sv u.toNat r.toNat (List.take mw ws)).length (marks.sv ((1 : Int) + (↑(tn.sv u.toNat r.toNat (List.take mc cs)).length : Int)) (tn.sv u.toNat r.toNat (List.take mw ws)).length) = marks.sv ((1 : Int) + (↑(tn.sv u.toNat r.toNat (List.take mc cs)).length : Int)) (tn.sv u.toNat r.toNat (List.take mw ws)).length)) && (true && (true && (false && (false && true))) && true || true && true) then bif decide ((1 : Int) + (↑(tn.sv u.toNat r.toNat (List.take mc cs)).length : Int) + (↑(tn.sv u.toNat r.toNat (List.take mw ws)).length : Int) < (0 : Int)) then some (AVal.bool false, []) else bif (1 : Int) + (↑(tn.sv u.toNat r.toNat (List.take mc cs)).length : Int) + (↑(tn.sv u.toNat r.toNat (List.take mw ws)).length : Int) != (1 : Int) + (↑(tn.sv u.toNat r.toNat (List.take mc cs)).length : Int) + (↑(tn.sv u.toNat r.toNat (List.take mw ws)).length : Int) then some (AVal.bool false, []) else some (AVal.bool true, []) else none else none else none else none else none else none else none else none else none else none else none else none else none else none else none else none else none else none else none else none else none else none else none else none else none else none else none else none else none else none else none else none else none else none else none else none else none) := by kernel_rfl
theorem run : ∀ args v new, R args = some (true, v, new) → ∃ fuel, runFn Try.prog (orcW [⟨18, markGameN.R⟩] [⟨13, szGame.R⟩, ⟨15, toGame.R⟩, ⟨17, eqGameN.R⟩, ⟨14, sTurnGame.Rt⟩, ⟨16, iTurnGame.Rt⟩, ⟨19, heldGameN.R⟩]) hd0 Dr.std (some 0) fuel (bodyOf Try.f3) 96 [2] args [] = some (v, new) := by
  intro args v new h
  unfold R at h
  split at h
  · rename_i u r ws mw cs mc
    simp only [Option.some.injEq, Prod.mk.injEq, Bool.or_eq_true, Bool.and_eq_true, decide_eq_true_eq, Bool.not_eq_true'] at h
    obtain ⟨⟨⟨h1, h2, h3, h4⟩, hc⟩, rfl, rfl⟩ := h
    refine ⟨0, ?_⟩
    rw [go]
    have z1 : (0 : Int) ≤ 1048576 := by decide
    have z2 : (1048576 : Int) ≤ 9223372036854775807 := by decide
    have z3 : (-1 : Int) < 0 := by decide
    by_cases a1 : (1048576 : Int) - (mw : Int) < 0
    · simp only [a1, h3, h4, z1, z2, z3, List.take_take, Nat.min_self, Nat.le_refl, List.take_length, marks_length, take_marks, one_neg, i0_1, i1_b, true_and, and_true, and_self, decide_true, decide_false, Bool.and_self, Bool.or_self, Bool.and_true, Bool.true_and, Bool.and_false, Bool.false_and, Bool.or_true, Bool.true_or, Bool.or_false, Bool.false_or, Bool.not_true, Bool.not_false, cond_true, cond_false, bne_self_eq_false, beq_self_eq_true]
    by_cases a2 : (1048576 : Int) - (mw : Int) - (mc : Int) < 0
    · simp only [a1, a2, h3, h4, z1, z2, z3, List.take_take, Nat.min_self, Nat.le_refl, List.take_length, marks_length, take_marks, one_neg, i0_1, i1_b, true_and, and_true, and_self, decide_true, decide_false, Bool.and_self, Bool.or_self, Bool.and_true, Bool.true_and, Bool.and_false, Bool.false_and, Bool.or_true, Bool.true_or, Bool.or_false, Bool.false_or, Bool.not_true, Bool.not_false, cond_true, cond_false, bne_self_eq_false, beq_self_eq_true]
    rcases hc with hc | hc
    · exact absurd hc (by omega)
    have b1 : mw ≤ 1048576 := by omega
    have b2 : mc ≤ 1048576 := by omega
    have b5 : mw ≤ 4611686018427387904 := by omega
    have b6 : mc ≤ 4611686018427387904 := by omega
    have e1 : (ws.take mw).length = mw := by simp; omega
    have e2 : (cs.take mc).length = mc := by simp; omega
    have k0 : (1 : Int) ≤ 100000000 := by decide
    have k0b : (1 : Int) ≤ 1000000000 := by decide
    have k0a : (0 : Int) ≤ 1 := by decide
    have k1 : (0 : Int) ≤ 1 + (mw : Int) + (mc : Int) := by omega
    have k2 : 1 + (mw : Int) + (mc : Int) ≤ 1000000000 := by omega
    have k3 : ¬ (1 + (mw : Int) + (mc : Int) < 0) := by omega
    have o0 : (tn.sv u.toNat r.toNat (cs.take mc)).length ≤ 1000000 := tn.sv_small hc _
    have oa0 : (tn.sv u.toNat r.toNat (cs.take mc)).length ≤ 1048576 := by omega
    have ob0 : (tn.sv u.toNat r.toNat (cs.take mc)).length ≤ 4611686018427387904 := by omega
    have oc0 : (0 : Int) ≤ 1 + ((tn.sv u.toNat r.toNat (cs.take mc)).length : Int) := by omega
    have od0 : 1 + ((tn.sv u.toNat r.toNat (cs.take mc)).length : Int) ≤ 1000000000 := by omega
    have oe0 : ¬ (1 + ((tn.sv u.toNat r.toNat (cs.take mc)).length : Int) < 0) := by omega
    have o1 : (tn.sv u.toNat r.toNat (ws.take mw)).length ≤ 1000000 := tn.sv_small hc _
    have oa1 : (tn.sv u.toNat r.toNat (ws.take mw)).length ≤ 1048576 := by omega
    have ob1 : (tn.sv u.toNat r.toNat (ws.take mw)).length ≤ 4611686018427387904 := by omega
    have oc1 : (0 : Int) ≤ 1 + ((tn.sv u.toNat r.toNat (cs.take mc)).length : Int) + ((tn.sv u.toNat r.toNat (ws.take mw)).length : Int) := by omega
    have od1 : 1 + ((tn.sv u.toNat r.toNat (cs.take mc)).length : Int) + ((tn.sv u.toNat r.toNat (ws.take mw)).length : Int) ≤ 1000000000 := by omega
    have oe1 : ¬ (1 + ((tn.sv u.toNat r.toNat (cs.take mc)).length : Int) + ((tn.sv u.toNat r.toNat (ws.take mw)).length : Int) < 0) := by omega
    simp only [h3, h4, z1, z2, z3, a1, a2, b1, b2, b5, b6, e1, e2, h1, h2, k0, k0a, k0b, k1, k2, k3, hc, oa0, ob0, oc0, od0, oe0, oa1, ob1, oc1, od1, oe1, List.take_take, Nat.min_self, Nat.le_refl, List.take_length, marks_length, take_marks, one_neg, i0_1, i1_b, true_and, and_true, and_self, decide_true, decide_false, Bool.and_self, Bool.or_self, Bool.and_true, Bool.true_and, Bool.and_false, Bool.false_and, Bool.or_true, Bool.true_or, Bool.or_false, Bool.false_or, Bool.not_true, Bool.not_false, cond_true, cond_false, bne_self_eq_false, beq_self_eq_true, eq_self, bne_self_eq_false]
  · cases h
theorem ok : EntOk Try.prog ⟨3, R⟩ :=
  ent_okA mixed (A := (orcW [⟨18, markGameN.R⟩] [⟨13, szGame.R⟩, ⟨15, toGame.R⟩, ⟨17, eqGameN.R⟩, ⟨14, sTurnGame.Rt⟩, ⟨16, iTurnGame.Rt⟩, ⟨19, heldGameN.R⟩])) (orcW_ok (by simp only [List.mem_cons, List.not_mem_nil, or_false, forall_eq_or_imp, forall_eq]; exact markGameN.ok) (by simp only [List.mem_cons, List.not_mem_nil, or_false, forall_eq_or_imp, forall_eq]; exact ⟨szGame.ok, toGame.ok, eqGameN.ok, sTurnGame.okt, iTurnGame.okt, heldGameN.ok⟩)) Try.func3 (by kernel_rfl) (by kernel_rfl) (n := 96) (ts := [2]) (hd := hd0) (dr := Dr.std) (cut := (some 0)) (by kernel_rfl) (by kernel_rfl) (by kernel_rfl) run
end FnExactTurnGamet

namespace FnExactTurnGamef
def R : List AVal → Option (Bool × AVal × List Blk)
  | [.agg [.int .i64 u, .int .i64 r, .ro (.ints .i64 ws) mw 1, .ro (.ints .i64 cs) mc 1]] => some (decide (mw ≤ ws.length ∧ mc ≤ cs.length ∧ mw ≤ 9223372036854775807 ∧ mc ≤ 9223372036854775807) && (decide ((1048576 : Int) - (mw : Int) < 0 ∨ (1048576 : Int) - (mw : Int) - (mc : Int) < 0) || !(gm.sp u r (ws.take mw) (cs.take mc))), .bool true, [])
  | _ => none
theorem go (u r : Int) (ws cs : List Int) (mw mc : Nat) :
  runFn Try.prog (orcW [⟨18, markGameN.R⟩] [⟨13, szGame.R⟩, ⟨15, toGame.R⟩, ⟨17, eqGameN.R⟩, ⟨14, sTurnGame.Rf⟩, ⟨16, iTurnGame.Rf⟩, ⟨19, heldGameN.R⟩]) hd0 Dr.std (some 0) 0 (bodyOf Try.f3) 96 [2] [.agg [.int .i64 u, .int .i64 r, .ro (.ints .i64 ws) mw 1, .ro (.ints .i64 cs) mc 1]] []
  = (bif true && true && (true && true && (true && true && (true && true && true))) then bif decide (mw ≤ (9223372036854775807 : Nat) ∧ mc ≤ (9223372036854775807 : Nat) ∧ (0 : Int) ≤ (1048576 : Int) ∧ (1048576 : Int) ≤ (9223372036854775807 : Int)) && (true && (true && (true && (true && true))) && true || true && true) then bif decide ((bif decide ((1048576 : Int) - (↑mw : Int) < (0 : Int)) then (-1 : Int) else bif decide ((1048576 : Int) - (↑mw : Int) - (↑mc : Int) < (0 : Int)) then (-1 : Int) else (1048576 : Int) - (↑mw : Int) - (↑mc : Int)) < (0 : Int)) then some (AVal.bool true, []) else bif true && true && (true && true && (true && true && (true && true && true))) then bif decide (mw ≤ ws.length ∧ mw ≤ (1048576 : Nat) ∧ mc ≤ cs.length ∧ mc ≤ (1048576 : Nat)) && (true && (true && (true && (true && true))) && true || true && (true && (true && (true && true))) && (true && (true && true))) then bif decide (mw = (List.take mw ws).length ∧ mc = (List.take mc cs).length ∧ mw ≤ (4611686018427387904 : Nat) ∧ mc ≤ (4611686018427387904 : Nat)) && !gm.sp u r (List.take mw ws) (List.take mc cs) && (true && (true && (false && (false && true))) && true || true && true) then bif true && true && (true && true && (true && true && (true && true && true))) then bif decide (mw ≤ ws.length ∧ mw ≤ (1048576 : Nat) ∧ mc ≤ cs.length ∧ mc ≤ (1048576 : Nat)) && (true && (true && (true && (true && true))) && true || true && (true && (true && (true && true))) && (true && (true && true))) then bif true && (true && (true && (true && (true && (true && true))))) then bif true && true && (true && true && (true && true && (true && true && true))) then bif decide (mw = (List.take mw ws).length ∧ mc = (List.take mc cs).length ∧ mw ≤ (4611686018427387904 : Nat) ∧ mc ≤ (4611686018427387904 : Nat)) && !gm.sp u r (List.take mw ws) (List.take mc cs) && (true && (true && (false && (false && true))) && true || true && true) then bif true && true && (true && true && (true && true && (true && true && true))) then bif true && true && (true && true && (true && true && (true && true && true))) then bif decide (mw ≤ ws.length ∧ mw ≤ (1048576 : Nat) ∧ mc ≤ cs.length ∧ mc ≤ (1048576 : Nat)) && (true && (true && (true && (true && true))) && true || true && (true && (true && (true && true))) && (true && (true && true))) then bif decide (mw ≤ (List.take mw ws).length ∧ mw ≤ (List.take mw ws).length ∧ mw ≤ (4611686018427387904 : Nat) ∧ mc ≤ (List.take mc cs).length ∧ mc ≤ (List.take mc cs).length ∧ mc ≤ (4611686018427387904 : Nat)) && (true && (true && (false && (false && true))) && (true && (true && (false && (false && true))) && true) || true && true) then bif !(decide (u = u) && (decide (r = r) && (decide (List.take mw (List.take mw ws) = List.take mw (List.take mw ws)) && decide (List.take mc (List.take mc cs) = List.take mc (List.take mc cs))))) then some (AVal.bool false, []) else bif true && true && (true && true && (true && true && (true && true && true))) then bif decide (mw = (List.take mw ws).length ∧ mw ≤ (1048576 : Nat) ∧ mc = (List.take mc cs).length ∧ mc ≤ (1048576 : Nat) ∧ (0 : Int) ≤ (1 : Int) ∧ (1 : Int) ≤ (100000000 : Int)) && (true && (true && true) && (true && (true && true))) then bif decide ((1 : Int) + (↑mw : Int) + (↑mc : Int) < (0 : Int)) then some (AVal.bool false, []) else bif true && (true && true) then bif true && true && (true && true && (true && true && (true && true && true))) then bif decide (mw ≤ ws.length ∧ mw ≤ (1048576 : Nat) ∧ mc ≤ cs.length ∧ mc ≤ (1048576 : Nat)) && (true && (true && (true && (true && true))) && true || true && (true && (true && (true && true))) && (true && (true && true))) then bif decide (mw = (List.take mw ws).length ∧ mc = (List.take mc cs).length ∧ mw ≤ (4611686018427387904 : Nat) ∧ mc ≤ (4611686018427387904 : Nat)) && !gm.sp u r (List.take mw ws) (List.take mc cs) && (true && (true && (false && (false && true))) && true || true && true) then some (AVal.bool true, []) else none else none else none else none else none else none else none else none else none else none else none else none else none else none else none else none else none else none else none else none) := by kernel_rfl
theorem run : ∀ args v new, R args = some (true, v, new) → ∃ fuel, runFn Try.prog (orcW [⟨18, markGameN.R⟩] [⟨13, szGame.R⟩, ⟨15, toGame.R⟩, ⟨17, eqGameN.R⟩, ⟨14, sTurnGame.Rf⟩, ⟨16, iTurnGame.Rf⟩, ⟨19, heldGameN.R⟩]) hd0 Dr.std (some 0) fuel (bodyOf Try.f3) 96 [2] args [] = some (v, new) := by
  intro args v new h
  unfold R at h
  split at h
  · rename_i u r ws mw cs mc
    simp only [Option.some.injEq, Prod.mk.injEq, Bool.or_eq_true, Bool.and_eq_true, decide_eq_true_eq, Bool.not_eq_true'] at h
    obtain ⟨⟨⟨h1, h2, h3, h4⟩, hc⟩, rfl, rfl⟩ := h
    refine ⟨0, ?_⟩
    rw [go]
    have z1 : (0 : Int) ≤ 1048576 := by decide
    have z2 : (1048576 : Int) ≤ 9223372036854775807 := by decide
    have z3 : (-1 : Int) < 0 := by decide
    by_cases a1 : (1048576 : Int) - (mw : Int) < 0
    · simp only [a1, h3, h4, z1, z2, z3, List.take_take, Nat.min_self, Nat.le_refl, List.take_length, marks_length, take_marks, one_neg, i0_1, i1_b, true_and, and_true, and_self, decide_true, decide_false, Bool.and_self, Bool.or_self, Bool.and_true, Bool.true_and, Bool.and_false, Bool.false_and, Bool.or_true, Bool.true_or, Bool.or_false, Bool.false_or, Bool.not_true, Bool.not_false, cond_true, cond_false, bne_self_eq_false, beq_self_eq_true]
    by_cases a2 : (1048576 : Int) - (mw : Int) - (mc : Int) < 0
    · simp only [a1, a2, h3, h4, z1, z2, z3, List.take_take, Nat.min_self, Nat.le_refl, List.take_length, marks_length, take_marks, one_neg, i0_1, i1_b, true_and, and_true, and_self, decide_true, decide_false, Bool.and_self, Bool.or_self, Bool.and_true, Bool.true_and, Bool.and_false, Bool.false_and, Bool.or_true, Bool.true_or, Bool.or_false, Bool.false_or, Bool.not_true, Bool.not_false, cond_true, cond_false, bne_self_eq_false, beq_self_eq_true]
    rcases hc with hc | hc
    · exact absurd hc (by omega)
    have b1 : mw ≤ 1048576 := by omega
    have b2 : mc ≤ 1048576 := by omega
    have b5 : mw ≤ 4611686018427387904 := by omega
    have b6 : mc ≤ 4611686018427387904 := by omega
    have e1 : (ws.take mw).length = mw := by simp; omega
    have e2 : (cs.take mc).length = mc := by simp; omega
    have k0 : (1 : Int) ≤ 100000000 := by decide
    have k0b : (1 : Int) ≤ 1000000000 := by decide
    have k0a : (0 : Int) ≤ 1 := by decide
    have k1 : (0 : Int) ≤ 1 + (mw : Int) + (mc : Int) := by omega
    have k2 : 1 + (mw : Int) + (mc : Int) ≤ 1000000000 := by omega
    have k3 : ¬ (1 + (mw : Int) + (mc : Int) < 0) := by omega
    simp only [h3, h4, z1, z2, z3, a1, a2, b1, b2, b5, b6, e1, e2, h1, h2, k0, k0a, k0b, k1, k2, k3, hc, List.take_take, Nat.min_self, Nat.le_refl, List.take_length, marks_length, take_marks, one_neg, i0_1, i1_b, true_and, and_true, and_self, decide_true, decide_false, Bool.and_self, Bool.or_self, Bool.and_true, Bool.true_and, Bool.and_false, Bool.false_and, Bool.or_true, Bool.true_or, Bool.or_false, Bool.false_or, Bool.not_true, Bool.not_false, cond_true, cond_false, bne_self_eq_false, beq_self_eq_true, eq_self, bne_self_eq_false]
  · cases h
theorem ok : EntOk Try.prog ⟨3, R⟩ :=
  ent_okA mixed (A := (orcW [⟨18, markGameN.R⟩] [⟨13, szGame.R⟩, ⟨15, toGame.R⟩, ⟨17, eqGameN.R⟩, ⟨14, sTurnGame.Rf⟩, ⟨16, iTurnGame.Rf⟩, ⟨19, heldGameN.R⟩])) (orcW_ok (by simp only [List.mem_cons, List.not_mem_nil, or_false, forall_eq_or_imp, forall_eq]; exact markGameN.ok) (by simp only [List.mem_cons, List.not_mem_nil, or_false, forall_eq_or_imp, forall_eq]; exact ⟨szGame.ok, toGame.ok, eqGameN.ok, sTurnGame.okf, iTurnGame.okf, heldGameN.ok⟩)) Try.func3 (by kernel_rfl) (by kernel_rfl) (n := 96) (ts := [2]) (hd := hd0) (dr := Dr.std) (cut := (some 0)) (by kernel_rfl) (by kernel_rfl) (by kernel_rfl) run
end FnExactTurnGamef

namespace FnExactTurnGame
def R : List AVal → Option (Bool × AVal × List Blk)
  | [.agg [.int .i64 u, .int .i64 r, .ro (.ints .i64 ws) mw 1, .ro (.ints .i64 cs) mc 1]] => some (decide (mw ≤ ws.length ∧ mc ≤ cs.length ∧ mw ≤ 9223372036854775807 ∧ mc ≤ 9223372036854775807), .bool true, [])
  | _ => none
theorem ok : EntOk Try.prog ⟨3, R⟩ := by
  refine EntOk.cases FnExactTurnGamet.ok FnExactTurnGamef.ok fun args v new h => ?_
  unfold R at h
  split at h
  · rename_i u r ws mw cs mc
    simp only [Option.some.injEq, Prod.mk.injEq, decide_eq_true_eq] at h
    obtain ⟨h, rfl, rfl⟩ := h
    simp only [FnExactTurnGamet.R, FnExactTurnGamef.R, Option.some.injEq, Prod.mk.injEq, Bool.or_eq_true, Bool.and_eq_true, decide_eq_true_eq, Bool.not_eq_true', and_true]
    cases hc : (gm.sp u r (ws.take mw) (cs.take mc) : Bool)
    · exact .inr ⟨h, .inr rfl⟩
    · exact .inl ⟨h, .inr rfl⟩
  · cases h
end FnExactTurnGame

end Go.Proofs.Ytnakiceojcomlaa.Ab
