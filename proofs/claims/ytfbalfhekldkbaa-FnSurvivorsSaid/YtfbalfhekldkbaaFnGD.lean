/-
  Functions: the law of games with both players exchanged.
-/
import Derived.Test.YtfbalfhekldkbaaFnGC
namespace Go.Proofs.Ytfbalfhekldkbaa.Ab
open Go
set_option linter.unusedVariables false
set_option linter.unusedSimpArgs false
set_option maxRecDepth 100000

namespace iTurnGame_t
def R : List AVal → Option (Bool × AVal × List Blk)
  | [.agg [.int .i64 r, .int .i64 c, .ro (.ints .i64 xs) ma 1, .ro (.ints .i64 ys) mb 1]] => some (decide (ma = xs.length ∧ mb = ys.length ∧ ma ≤ 4611686018427387904 ∧ mb ≤ 4611686018427387904) && gm.sp r c xs ys, .tup [.agg [.int .i64 c, .int .i64 r, .own 0 0 (tn.sv r.toNat c.toNat ys).length 0 1, .own 1 0 (tn.sv r.toNat c.toNat xs).length 0 1], .bool true], [⟨.typ (.ints .i64 (tn.sv r.toNat c.toNat ys)), 0⟩, ⟨.typ (.ints .i64 (tn.sv r.toNat c.toNat xs)), 0⟩])
  | _ => none
theorem go (r c : Int) (xs ys : List Int) :
  regc [2, 3] (runFn Try.prog (orc [⟨13, iValidGame.R⟩, ⟨29, gTurned.R⟩]) hd0 Dr.std none 0 (bodyOf Try.f8) 10 [.cell 2 26, .tmp 3] [.agg [.int .i64 r, .int .i64 c, .ro (.ints .i64 xs) xs.length 1, .ro (.ints .i64 ys) ys.length 1]] [])
  = (match bif true && true && (true && true && (true && true && (true && true && true))) then bif decide (xs.length = xs.length ∧ ys.length = ys.length ∧ xs.length ≤ (4611686018427387904 : Nat) ∧ ys.length ≤ (4611686018427387904 : Nat)) && (true && (true && (true && (true && true))) && true || true && true) then bif !gm.sp r c xs ys then some (AVal.tup [AVal.agg [AVal.int IntKind.i64 (0 : Int), AVal.int IntKind.i64 (0 : Int), AVal.nils, AVal.nils], AVal.bool false], [{ c := BC.cells [AVal.int IntKind.i64 r, AVal.int IntKind.i64 c, AVal.ro (Cont.ints IntKind.i64 xs) xs.length (1 : Nat), AVal.ro (Cont.ints IntKind.i64 ys) ys.length (1 : Nat)], ver := (0 : Nat) }, { c := BC.cells [AVal.int IntKind.i64 (0 : Int), AVal.int IntKind.i64 (0 : Int), AVal.nils, AVal.nils], ver := (0 : Nat) }]) else bif true && true && (true && true && (true && true && (true && true && true))) then bif decide (xs.length = xs.length ∧ ys.length = ys.length) && gm.sp r c xs ys && (true && (true && (true && (true && true))) && true || true && (true && (true && (true && true))) && (true && (true && true))) then bif true && (true && (true && decide ((0 : Nat) < (4 : Nat)) && (true && decide ((1 : Nat) < (4 : Nat)) && (true && decide ((2 : Nat) < (3 : Nat) + (1 : Nat)) && (true && decide ((3 : Nat) < (2 : Nat) + (1 : Nat) + (1 : Nat)) && true))))) then bif true && true && (true && true && (true && true && (true && true && true))) && true then some (AVal.tup [AVal.agg [AVal.int IntKind.i64 c, AVal.int IntKind.i64 r, AVal.own (2 : Nat) (0 : Nat) (c * r).toNat (0 : Nat) (1 : Nat), AVal.own (3 : Nat) (0 : Nat) (c * r).toNat (0 : Nat) (1 : Nat)], AVal.bool true], [{ c := BC.cells [AVal.int IntKind.i64 r, AVal.int IntKind.i64 c, AVal.ro (Cont.ints IntKind.i64 xs) xs.length (1 : Nat), AVal.ro (Cont.ints IntKind.i64 ys) ys.length (1 : Nat)], ver := (0 : Nat) }, { c := BC.cells [AVal.int IntKind.i64 c, AVal.int IntKind.i64 r, AVal.own (2 : Nat) (0 : Nat) (c * r).toNat (0 : Nat) (1 : Nat), AVal.own (3 : Nat) (0 : Nat) (c * r).toNat (0 : Nat) (1 : Nat)], ver := (0 : Nat) }, { c := BC.typ (Cont.ints IntKind.i64 (tn.sv r.toNat c.toNat ys)), ver := (0 : Nat) }, { c := BC.typ (Cont.ints IntKind.i64 (tn.sv r.toNat c.toNat xs)), ver := (0 : Nat) }]) else none else none else none else none else none else none with
| some (v, h) =>
  bif true && (ltN (2 : Nat) (hlen h) && (ltN (3 : Nat) (hlen h) && true)) then
    some
      (AVal.re [(2 : Nat), (3 : Nat)] h v,
        match nth h (2 : Nat) with
        | some b => { c := BC.re [(2 : Nat), (3 : Nat)] h b.c, ver := b.ver } :: reB [(2 : Nat), (3 : Nat)] h [(3 : Nat)]
        | none => { c := BC.cells [], ver := (0 : Nat) } :: reB [(2 : Nat), (3 : Nat)] h [(3 : Nat)])
  else none
| none => none) := by kernel_rfl
theorem run : ∀ args v new, R args = some (true, v, new) → ∃ fuel, regc [2, 3] (runFn Try.prog (orc [⟨13, iValidGame.R⟩, ⟨29, gTurned.R⟩]) hd0 Dr.std none fuel (bodyOf Try.f8) 10 [.cell 2 26, .tmp 3] args []) = some (v, new) := by
  intro args v new h
  unfold R at h
  split at h
  · rename_i r c xs ma ys mb
    simp only [Option.some.injEq, Prod.mk.injEq, Bool.and_eq_true, decide_eq_true_eq, Bool.not_eq_true'] at h
    obtain ⟨⟨⟨rfl, rfl, h3, h4⟩, hv⟩, rfl, rfl⟩ := h
    refine ⟨0, ?_⟩
    rw [go]
    have el : ∀ zs, (tn.sv r.toNat c.toNat zs).length = (c * r).toNat := fun zs => by
      obtain ⟨r', c', rfl, rfl, _⟩ := gm.valid hv
      rw [tn.sv_length]
      have : (c' : Int) * (r' : Int) = ((c' * r' : Nat) : Int) := by simp
      rw [this]; rfl
    rw [el, el]
    simp only [h3, h4, hv, and_self, decide_true, decide_false, Bool.and_self, Bool.or_self, Bool.and_true, Bool.true_and, Bool.and_false, Bool.false_and, Bool.or_true, Bool.true_or, Bool.or_false, Bool.false_or, Bool.not_true, Bool.not_false, cond_true, cond_false]
    try rfl
  · cases h
theorem ok : EntOk Try.prog ⟨8, R⟩ :=
  ent_okAG (ks := [2, 3]) mixed (A := (orc [⟨13, iValidGame.R⟩, ⟨29, gTurned.R⟩])) (orc_ok (by simp only [List.mem_cons, List.not_mem_nil, or_false, forall_eq_or_imp, forall_eq]; exact ⟨iValidGame.ok, gTurned.ok⟩)) Try.func8 (by kernel_rfl) (by kernel_rfl) (n := 10) (ts := [.cell 2 26, .tmp 3]) (hd := hd0) (dr := Dr.std) (cut := none) (by kernel_rfl) (by kernel_rfl) (by kernel_rfl) run
end iTurnGame_t

namespace iTurnGame_f
def R : List AVal → Option (Bool × AVal × List Blk)
  | [.agg [.int .i64 r, .int .i64 c, .ro (.ints .i64 xs) ma 1, .ro (.ints .i64 ys) mb 1]] => some (decide (ma = xs.length ∧ mb = ys.length ∧ ma ≤ 4611686018427387904 ∧ mb ≤ 4611686018427387904) && !gm.sp r c xs ys, .tup [.agg [.int .i64 0, .int .i64 0, .nils, .nils], .bool false], [])
  | _ => none
theorem go (r c : Int) (xs ys : List Int) :
  runFn Try.prog (orc [⟨13, iValidGame.R⟩]) hd0 Dr.std (some 0) 0 (bodyOf Try.f8) 10 [.cell 2 26, .tmp 3] [.agg [.int .i64 r, .int .i64 c, .ro (.ints .i64 xs) xs.length 1, .ro (.ints .i64 ys) ys.length 1]] []
  = (bif true && true && (true && true && (true && true && (true && true && true))) then bif decide (xs.length = xs.length ∧ ys.length = ys.length ∧ xs.length ≤ (4611686018427387904 : Nat) ∧ ys.length ≤ (4611686018427387904 : Nat)) && (true && (true && (true && (true && true))) && true || true && true) then bif !gm.sp r c xs ys then some (AVal.tup [AVal.agg [AVal.int IntKind.i64 (0 : Int), AVal.int IntKind.i64 (0 : Int), AVal.nils, AVal.nils], AVal.bool false], []) else bif true && true && (true && true && (true && true && (true && true && true))) then none else none else none else none) := by kernel_rfl
theorem run : ∀ args v new, R args = some (true, v, new) → ∃ fuel, runFn Try.prog (orc [⟨13, iValidGame.R⟩]) hd0 Dr.std (some 0) fuel (bodyOf Try.f8) 10 [.cell 2 26, .tmp 3] args [] = some (v, new) := by
  intro args v new h
  unfold R at h
  split at h
  · rename_i r c xs ma ys mb
    simp only [Option.some.injEq, Prod.mk.injEq, Bool.and_eq_true, decide_eq_true_eq, Bool.not_eq_true'] at h
    obtain ⟨⟨⟨rfl, rfl, h3, h4⟩, hv⟩, rfl, rfl⟩ := h
    refine ⟨0, ?_⟩
    rw [go]
    simp only [h3, h4, hv, and_self, decide_true, decide_false, Bool.and_self, Bool.or_self, Bool.and_true, Bool.true_and, Bool.and_false, Bool.false_and, Bool.or_true, Bool.true_or, Bool.or_false, Bool.false_or, Bool.not_true, Bool.not_false, cond_true, cond_false]
    try rfl
  · cases h
theorem ok : EntOk Try.prog ⟨8, R⟩ :=
  ent_okA mixed (A := (orc [⟨13, iValidGame.R⟩])) (orc_ok (by simp only [List.mem_cons, List.not_mem_nil, or_false, forall_eq_or_imp, forall_eq]; exact iValidGame.ok)) Try.func8 (by kernel_rfl) (by kernel_rfl) (n := 10) (ts := [.cell 2 26, .tmp 3]) (hd := hd0) (dr := Dr.std) (cut := (some 0)) (by kernel_rfl) (by kernel_rfl) (by kernel_rfl) run
end iTurnGame_f

namespace iTurnGame
def Rt := iTurnGame_t.R
def Rf := iTurnGame_f.R
theorem okt : EntOk Try.prog ⟨8, Rt⟩ := iTurnGame_t.ok
theorem okf : EntOk Try.prog ⟨8, Rf⟩ := iTurnGame_f.ok
end iTurnGame







end Go.Proofs.Ytfbalfhekldkbaa.Ab
