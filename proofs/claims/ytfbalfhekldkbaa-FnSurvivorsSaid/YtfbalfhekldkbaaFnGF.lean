/-
  Functions: best columns.
-/
import Derived.Test.YtfbalfhekldkbaaFnGE
namespace Go.Proofs.Ytfbalfhekldkbaa.Ab
open Go
set_option linter.unusedVariables false
set_option linter.unusedSimpArgs false
set_option maxRecDepth 100000

theorem gm.side_small {r c : Int} {xs ys : List Int} (h : gm.sp r c xs ys = true) {n : Nat} (hn : n ≤ c.toNat) : n ≤ 1000000 := by
  obtain ⟨r, c, rfl, rfl, hr, hc, _⟩ := gm.valid h
  rw [Int.toNat_natCast] at hn
  omega

namespace gHasRow
def R : List AVal → Option (Bool × AVal × List Blk)
  | [.agg [.int .i64 r, .int .i64 c, .ro (.ints .i64 xs) ma 1, .ro (.ints .i64 ys) mb 1], .int .i64 i] => some (decide (1 ≤ r ∧ r ≤ 6), .bool (decide (0 ≤ i) && decide (i ≤ r - 1)), [])
  | _ => none
theorem go (r c : Int) (xs ys : List Int) (ma mb : Nat) (i : Int) :
  runFn Try.prog (orc [⟨54, within.R⟩]) hd0 Dr.std (some 0) 0 (bodyOf Try.f40) 10 [4] [.agg [.int .i64 r, .int .i64 c, .ro (.ints .i64 xs) ma 1, .ro (.ints .i64 ys) mb 1], .int .i64 i] []
  = (bif true && true then bif true && (true && (true && (true && true)) || true && true) then some (AVal.bool (decide ((0 : Int) ≤ i) && decide (i ≤ IntKind.i64.wrap (r - (1 : Int)))), []) else none else none) := by kernel_rfl
theorem run : ∀ args v new, R args = some (true, v, new) → ∃ fuel, runFn Try.prog (orc [⟨54, within.R⟩]) hd0 Dr.std (some 0) fuel (bodyOf Try.f40) 10 [4] args [] = some (v, new) := by
  intro args v new h
  unfold R at h
  split at h
  · rename_i r c xs ma ys mb i
    simp only [Option.some.injEq, Prod.mk.injEq, decide_eq_true_eq] at h
    obtain ⟨⟨h1, h2⟩, rfl, rfl⟩ := h
    have w : IntKind.i64.wrap (r - 1) = r - 1 := IntWalk.i64_in _ (by omega)
    refine ⟨0, ?_⟩
    rw [go, w]
    simp only [decide_true, decide_false, Bool.and_self, Bool.or_self, Bool.and_true, Bool.true_and, Bool.and_false, Bool.false_and, Bool.or_true, Bool.true_or, Bool.or_false, Bool.false_or, Bool.not_true, Bool.not_false, cond_true, cond_false]
  · cases h
theorem ok : EntOk Try.prog ⟨40, R⟩ :=
  ent_okA mixed (A := (orc [⟨54, within.R⟩])) (orc_ok (by simp only [List.mem_cons, List.not_mem_nil, or_false, forall_eq_or_imp, forall_eq]; exact within.ok)) Try.func40 (by kernel_rfl) (by kernel_rfl) (n := 10) (ts := [4]) (hd := hd0) (dr := Dr.std) (cut := (some 0)) (by kernel_rfl) (by kernel_rfl) (by kernel_rfl) run
end gHasRow

namespace gHasColumn
def R : List AVal → Option (Bool × AVal × List Blk)
  | [.agg [.int .i64 r, .int .i64 c, .ro (.ints .i64 xs) ma 1, .ro (.ints .i64 ys) mb 1], .int .i64 i] => some (decide (1 ≤ c ∧ c ≤ 6), .bool (decide (0 ≤ i) && decide (i ≤ c - 1)), [])
  | _ => none
theorem go (r c : Int) (xs ys : List Int) (ma mb : Nat) (i : Int) :
  runFn Try.prog (orc [⟨54, within.R⟩]) hd0 Dr.std (some 0) 0 (bodyOf Try.f38) 10 [4] [.agg [.int .i64 r, .int .i64 c, .ro (.ints .i64 xs) ma 1, .ro (.ints .i64 ys) mb 1], .int .i64 i] []
  = (bif true && true then bif true && (true && (true && (true && true)) || true && true) then some (AVal.bool (decide ((0 : Int) ≤ i) && decide (i ≤ IntKind.i64.wrap (c - (1 : Int)))), []) else none else none) := by kernel_rfl
theorem run : ∀ args v new, R args = some (true, v, new) → ∃ fuel, runFn Try.prog (orc [⟨54, within.R⟩]) hd0 Dr.std (some 0) fuel (bodyOf Try.f38) 10 [4] args [] = some (v, new) := by
  intro args v new h
  unfold R at h
  split at h
  · rename_i r c xs ma ys mb i
    simp only [Option.some.injEq, Prod.mk.injEq, decide_eq_true_eq] at h
    obtain ⟨⟨h1, h2⟩, rfl, rfl⟩ := h
    have w : IntKind.i64.wrap (c - 1) = c - 1 := IntWalk.i64_in _ (by omega)
    refine ⟨0, ?_⟩
    rw [go, w]
    simp only [decide_true, decide_false, Bool.and_self, Bool.or_self, Bool.and_true, Bool.true_and, Bool.and_false, Bool.false_and, Bool.or_true, Bool.true_or, Bool.or_false, Bool.false_or, Bool.not_true, Bool.not_false, cond_true, cond_false]
  · cases h
theorem ok : EntOk Try.prog ⟨38, R⟩ :=
  ent_okA mixed (A := (orc [⟨54, within.R⟩])) (orc_ok (by simp only [List.mem_cons, List.not_mem_nil, or_false, forall_eq_or_imp, forall_eq]; exact within.ok)) Try.func38 (by kernel_rfl) (by kernel_rfl) (n := 10) (ts := [4]) (hd := hd0) (dr := Dr.std) (cut := (some 0)) (by kernel_rfl) (by kernel_rfl) (by kernel_rfl) run
end gHasColumn


namespace iBestColumns_t
def R : List AVal → Option (Bool × AVal × List Blk)
  | [.agg [.int .i64 r, .int .i64 c, .ro (.ints .i64 xs) ma 1, .ro (.ints .i64 ys) mb 1], .int .i64 i] => some (decide (ma = xs.length ∧ mb = ys.length ∧ ma ≤ 4611686018427387904 ∧ mb ≤ 4611686018427387904) && (gm.sp r c xs ys && (decide (0 ≤ i) && decide (i ≤ r - 1))), .tup [.own 0 0 (br.sv c.toNat r.toNat (tn.sv r.toNat c.toNat ys) i.toNat).length 0 1, .bool true], [⟨.typ (.ints .i64 (br.sv c.toNat r.toNat (tn.sv r.toNat c.toNat ys) i.toNat)), 0⟩])
  | _ => none
theorem go (r c : Int) (xs ys : List Int) (i : Int) :
  regc [3] (runFn Try.prog (orc [⟨13, iValidGame.R⟩, ⟨40, gHasRow.R⟩, ⟨29, gTurned.R⟩, ⟨39, gBestRows.R⟩]) hd0 Dr.std none 0 (bodyOf Try.f18) 19 [4, 5] [.agg [.int .i64 r, .int .i64 c, .ro (.ints .i64 xs) xs.length 1, .ro (.ints .i64 ys) ys.length 1], .int .i64 i] [])
  = (match bif true && true && (true && true && (true && true && (true && true && true))) then bif decide (xs.length = xs.length ∧ ys.length = ys.length ∧ xs.length ≤ (4611686018427387904 : Nat) ∧ ys.length ≤ (4611686018427387904 : Nat)) && (true && (true && (true && (true && true))) && true || true && true) then bif !gm.sp r c xs ys then some (AVal.tup [AVal.nils, AVal.bool false], [{ c := BC.cells [AVal.int IntKind.i64 r, AVal.int IntKind.i64 c, AVal.ro (Cont.ints IntKind.i64 xs) xs.length (1 : Nat), AVal.ro (Cont.ints IntKind.i64 ys) ys.length (1 : Nat)], ver := (0 : Nat) }]) else bif true && true && (true && true && (true && true && (true && true && true))) then bif decide ((1 : Int) ≤ r ∧ r ≤ (6 : Int)) && (true && (true && (true && (true && true))) && (true && true) || true && true) then bif !(decide ((0 : Int) ≤ i) && decide (i ≤ r - (1 : Int))) then some (AVal.tup [AVal.nils, AVal.bool false], [{ c := BC.cells [AVal.int IntKind.i64 r, AVal.int IntKind.i64 c, AVal.ro (Cont.ints IntKind.i64 xs) xs.length (1 : Nat), AVal.ro (Cont.ints IntKind.i64 ys) ys.length (1 : Nat)], ver := (0 : Nat) }]) else bif true && true && (true && true && (true && true && (true && true && true))) then bif decide (xs.length = xs.length ∧ ys.length = ys.length) && gm.sp r c xs ys && (true && (true && (true && (true && true))) && true || true && (true && (true && (true && true))) && (true && (true && true))) then bif decide ((c * r).toNat = (tn.sv r.toNat c.toNat ys).length ∧ (c * r).toNat = (tn.sv r.toNat c.toNat xs).length ∧ (0 : Int) ≤ i ∧ i < r) && gm.sp c r (tn.sv r.toNat c.toNat ys) (tn.sv r.toNat c.toNat xs) && (true && (true && (false && (false && true))) && (true && true) || true && (true && true)) then some (AVal.tup [AVal.own ((1 : Nat) + (1 : Nat) + (1 : Nat) + (0 : Nat)) (0 : Nat) (br.sv c.toNat r.toNat (tn.sv r.toNat c.toNat ys) i.toNat).length (0 : Nat) (1 : Nat), AVal.bool true], [{ c := BC.cells [AVal.int IntKind.i64 r, AVal.int IntKind.i64 c, AVal.ro (Cont.ints IntKind.i64 xs) xs.length (1 : Nat), AVal.ro (Cont.ints IntKind.i64 ys) ys.length (1 : Nat)], ver := (0 : Nat) }, { c := BC.typ (Cont.ints IntKind.i64 (tn.sv r.toNat c.toNat ys)), ver := (0 : Nat) }, { c := BC.typ (Cont.ints IntKind.i64 (tn.sv r.toNat c.toNat xs)), ver := (0 : Nat) }, { c := BC.typ (Cont.ints IntKind.i64 (br.sv c.toNat r.toNat (tn.sv r.toNat c.toNat ys) i.toNat)), ver := (0 : Nat) }]) else none else none else none else none else none else none else none with
| some (v, h) =>
  bif true && (ltN (3 : Nat) (hlen h) && true) then
    some
      (AVal.re [(3 : Nat)] h v,
        match nth h (3 : Nat) with
        | some b => { c := BC.re [(3 : Nat)] h b.c, ver := b.ver } :: reB [(3 : Nat)] h []
        | none => { c := BC.cells [], ver := (0 : Nat) } :: reB [(3 : Nat)] h [])
  else none
| none => none) := by kernel_rfl
theorem run : ∀ args v new, R args = some (true, v, new) → ∃ fuel, regc [3] (runFn Try.prog (orc [⟨13, iValidGame.R⟩, ⟨40, gHasRow.R⟩, ⟨29, gTurned.R⟩, ⟨39, gBestRows.R⟩]) hd0 Dr.std none fuel (bodyOf Try.f18) 19 [4, 5] args []) = some (v, new) := by
  intro args v new h
  unfold R at h
  split at h
  · rename_i r c xs ma ys mb i
    simp only [Option.some.injEq, Prod.mk.injEq, Bool.and_eq_true, decide_eq_true_eq, Bool.not_eq_true'] at h
    obtain ⟨⟨⟨rfl, rfl, h3, h4⟩, hv, hi0, hi1⟩, rfl, rfl⟩ := h
    obtain ⟨r, c, rfl, rfl, hr, hc, hx, hy, vx, vy⟩ := gm.valid hv
    have hr1 : (1 : Int) ≤ (r : Int) := by omega
    have hr6 : (r : Int) ≤ 6 := by omega
    have hi2 : i < (r : Int) := by omega
    have w : IntKind.i64.wrap ((r : Int) - 1) = (r : Int) - 1 := IntWalk.i64_in _ (by omega)
    have t1 : (tn.sv r c ys).length = c * r := tn.sv_length _ _ _
    have t2 : (tn.sv r c xs).length = c * r := tn.sv_length _ _ _
    have t3 : gm.sp (c : Int) (r : Int) (tn.sv r c ys) (tn.sv r c xs) = true := tn.valid hr hc hx hy vx vy
    have e : ((c : Int) * (r : Int)).toNat = c * r := by
      have : (c : Int) * (r : Int) = ((c * r : Nat) : Int) := by simp
      rw [this]; rfl
    have h36 := gm.le_36 hc.2 hr.2
    have t4 : c * r ≤ 4611686018427387904 := by omega
    have t5 : (tn.sv r c ys).take (c * r) = tn.sv r c ys := List.take_of_length_le (by omega)
    have t6 : (tn.sv r c xs).take (c * r) = tn.sv r c xs := List.take_of_length_le (by omega)
    refine ⟨0, ?_⟩
    rw [go]
    simp only [w, Int.toNat_natCast, e, t1, t2, t3, t4, t5, t6, hr1, hr6, hi0, hi1, hi2, h3, h4, hv, Nat.le_refl, and_self, eq_self, decide_true, decide_false, Bool.and_self, Bool.or_self, Bool.and_true, Bool.true_and, Bool.and_false, Bool.false_and, Bool.or_true, Bool.true_or, Bool.or_false, Bool.false_or, Bool.not_true, Bool.not_false, cond_true, cond_false]
    try rfl
  · cases h
theorem ok : EntOk Try.prog ⟨18, R⟩ :=
  ent_okAG (ks := [3]) mixed (A := (orc [⟨13, iValidGame.R⟩, ⟨40, gHasRow.R⟩, ⟨29, gTurned.R⟩, ⟨39, gBestRows.R⟩])) (orc_ok (by simp only [List.mem_cons, List.not_mem_nil, or_false, forall_eq_or_imp, forall_eq]; exact ⟨iValidGame.ok, gHasRow.ok, gTurned.ok, gBestRows.ok⟩)) Try.func18 (by kernel_rfl) (by kernel_rfl) (n := 19) (ts := [4, 5]) (hd := hd0) (dr := Dr.std) (cut := none) (by kernel_rfl) (by kernel_rfl) (by kernel_rfl) run
end iBestColumns_t

namespace iBestColumns_f
def R : List AVal → Option (Bool × AVal × List Blk)
  | [.agg [.int .i64 r, .int .i64 c, .ro (.ints .i64 xs) ma 1, .ro (.ints .i64 ys) mb 1], .int .i64 i] => some (decide (ma = xs.length ∧ mb = ys.length ∧ ma ≤ 4611686018427387904 ∧ mb ≤ 4611686018427387904) && !(gm.sp r c xs ys && (decide (0 ≤ i) && decide (i ≤ r - 1))), .tup [.nils, .bool false], [])
  | _ => none
theorem go (r c : Int) (xs ys : List Int) (i : Int) :
  runFn Try.prog (orc [⟨13, iValidGame.R⟩, ⟨40, gHasRow.R⟩]) hd0 Dr.std (some 0) 0 (bodyOf Try.f18) 19 [4, 5] [.agg [.int .i64 r, .int .i64 c, .ro (.ints .i64 xs) xs.length 1, .ro (.ints .i64 ys) ys.length 1], .int .i64 i] []
  = (bif true && true && (true && true && (true && true && (true && true && true))) then bif decide (xs.length = xs.length ∧ ys.length = ys.length ∧ xs.length ≤ (4611686018427387904 : Nat) ∧ ys.length ≤ (4611686018427387904 : Nat)) && (true && (true && (true && (true && true))) && true || true && true) then bif !gm.sp r c xs ys then some (AVal.tup [AVal.nils, AVal.bool false], []) else bif true && true && (true && true && (true && true && (true && true && true))) then bif decide ((1 : Int) ≤ r ∧ r ≤ (6 : Int)) && (true && (true && (true && (true && true))) && (true && true) || true && true) then bif !(decide ((0 : Int) ≤ i) && decide (i ≤ r - (1 : Int))) then some (AVal.tup [AVal.nils, AVal.bool false], []) else bif true && true && (true && true && (true && true && (true && true && true))) then none else none else none else none else none else none) := by kernel_rfl
theorem run : ∀ args v new, R args = some (true, v, new) → ∃ fuel, runFn Try.prog (orc [⟨13, iValidGame.R⟩, ⟨40, gHasRow.R⟩]) hd0 Dr.std (some 0) fuel (bodyOf Try.f18) 19 [4, 5] args [] = some (v, new) := by
  intro args v new h
  unfold R at h
  split at h
  · rename_i r c xs ma ys mb i
    simp only [Option.some.injEq, Prod.mk.injEq, Bool.and_eq_true, decide_eq_true_eq, Bool.not_eq_true'] at h
    obtain ⟨⟨⟨rfl, rfl, h3, h4⟩, hv⟩, rfl, rfl⟩ := h
    refine ⟨0, ?_⟩
    rw [go]
    cases hg : gm.sp r c xs ys
    · simp only [hg, h3, h4, and_self, eq_self, decide_true, decide_false, Bool.and_self, Bool.or_self, Bool.and_true, Bool.true_and, Bool.and_false, Bool.false_and, Bool.or_true, Bool.true_or, Bool.or_false, Bool.false_or, Bool.not_true, Bool.not_false, cond_true, cond_false]
    · rw [hg, Bool.true_and] at hv
      obtain ⟨r, c, rfl, rfl, hr, hc, hx, hy, vx, vy⟩ := gm.valid hg
      have hr1 : (1 : Int) ≤ (r : Int) := by omega
      have hr6 : (r : Int) ≤ 6 := by omega
      have w : IntKind.i64.wrap ((r : Int) - 1) = (r : Int) - 1 := IntWalk.i64_in _ (by omega)
      simp only [w, hg, hr1, hr6, hv, h3, h4, and_self, eq_self, decide_true, decide_false, Bool.and_self, Bool.or_self, Bool.and_true, Bool.true_and, Bool.and_false, Bool.false_and, Bool.or_true, Bool.true_or, Bool.or_false, Bool.false_or, Bool.not_true, Bool.not_false, cond_true, cond_false]
  · cases h
theorem ok : EntOk Try.prog ⟨18, R⟩ :=
  ent_okA mixed (A := (orc [⟨13, iValidGame.R⟩, ⟨40, gHasRow.R⟩])) (orc_ok (by simp only [List.mem_cons, List.not_mem_nil, or_false, forall_eq_or_imp, forall_eq]; exact ⟨iValidGame.ok, gHasRow.ok⟩)) Try.func18 (by kernel_rfl) (by kernel_rfl) (n := 19) (ts := [4, 5]) (hd := hd0) (dr := Dr.std) (cut := (some 0)) (by kernel_rfl) (by kernel_rfl) (by kernel_rfl) run
end iBestColumns_f

namespace iBestColumns
def Rt := iBestColumns_t.R
def Rf := iBestColumns_f.R
theorem okt : EntOk Try.prog ⟨18, Rt⟩ := iBestColumns_t.ok
theorem okf : EntOk Try.prog ⟨18, Rf⟩ := iBestColumns_f.ok
end iBestColumns







end Go.Proofs.Ytfbalfhekldkbaa.Ab
