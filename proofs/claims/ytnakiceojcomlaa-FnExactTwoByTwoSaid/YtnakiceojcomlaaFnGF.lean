/-
  Functions: best columns.
-/
import Derived.Test.YtnakiceojcomlaaFnGE
namespace Go.Proofs.Ytnakiceojcomlaa.Ab
open Go
set_option linter.unusedVariables false
set_option linter.unusedSimpArgs false
set_option maxRecDepth 100000

theorem gm.side_small {r c : Int} {xs ys : List Int} (h : gm.sp r c xs ys = true) {n : Nat} (hn : n ≤ c.toNat) : n ≤ 1000000 := by
  obtain ⟨r, c, rfl, rfl, hr, hc, _⟩ := gm.valid h
  rw [Int.toNat_natCast] at hn
  omega

namespace gHasRow
def R : List AVal → Option (Bool × AVal × List Blk)
  | [.agg [.int .i64 r, .int .i64 c, .ro (.ints .i64 xs) ma 1, .ro (.ints .i64 ys) mb 1], .int .i64 i] => some (decide (1 ≤ r ∧ r ≤ 6), .bool (decide (0 ≤ i) && decide (i ≤ r - 1)), [])
  | _ => none
theorem go (r c : Int) (xs ys : List Int) (ma mb : Nat) (i : Int) :
  runFn Try.prog (orc [⟨69, within.R⟩]) hd0 Dr.std (some 0) 0 (bodyOf Try.f56) 10 [4] [.agg [.int .i64 r, .int .i64 c, .ro (.ints .i64 xs) ma 1, .ro (.ints .i64 ys) mb 1], .int .i64 i] []
  = (bif true && true then bif true && (true && (true && (true && true)) || true && true) then some (AVal.bool (decide ((0 : Int) ≤ i) && decide (i ≤ IntKind.i64.wrap (r - (1 : Int)))), []) else none else none) := by kernel_rfl
theorem run : ∀ args v new, R args = some (true, v, new) → ∃ fuel, runFn Try.prog (orc [⟨69, within.R⟩]) hd0 Dr.std (some 0) fuel (bodyOf Try.f56) 10 [4] args [] = some (v, new) := by
  intro args v new h
  unfold R at h
  split at h
  · rename_i r c xs ma ys mb i
    simp only [Option.some.injEq, Prod.mk.injEq, decide_eq_true_eq] at h
    obtain ⟨⟨h1, h2⟩, rfl, rfl⟩ := h
    have w : IntKind.i64.wrap (r - 1) = r - 1 := IntWalk.i64_in _ (by omega)
    refine ⟨0, ?_⟩
    rw [go, w]
    simp only [decide_true, decide_false, Bool.and_self, Bool.or_self, Bool.and_true, Bool.true_and, Bool.and_false, Bool.false_and, Bool.or_true, Bool.true_or, Bool.or_false, Bool.false_or, Bool.not_true, Bool.not_false, cond_true, cond_false]
  · cases h
theorem ok : EntOk Try.prog ⟨56, R⟩ :=
  ent_okA mixed (A := (orc [⟨69, within.R⟩])) (orc_ok (by simp only [List.mem_cons, List.not_mem_nil, or_false, forall_eq_or_imp, forall_eq]; exact within.ok)) Try.func56 (by kernel_rfl) (by kernel_rfl) (n := 10) (ts := [4]) (hd := hd0) (dr := Dr.std) (cut := (some 0)) (by kernel_rfl) (by kernel_rfl) (by kernel_rfl) run
end gHasRow

namespace gHasColumn
def R : List AVal → Option (Bool × AVal × List Blk)
  | [.agg [.int .i64 r, .int .i64 c, .ro (.ints .i64 xs) ma 1, .ro (.ints .i64 ys) mb 1], .int .i64 i] => some (decide (1 ≤ c ∧ c ≤ 6), .bool (decide (0 ≤ i) && decide (i ≤ c - 1)), [])
  | _ => none
theorem go (r c : Int) (xs ys : List Int) (ma mb : Nat) (i : Int) :
  runFn Try.prog (orc [⟨69, within.R⟩]) hd0 Dr.std (some 0) 0 (bodyOf Try.f64) 10 [4] [.agg [.int .i64 r, .int .i64 c, .ro (.ints .i64 xs) ma 1, .ro (.ints .i64 ys) mb 1], .int .i64 i] []
  = (bif true && true then bif true && (true && (true && (true && true)) || true && true) then some (AVal.bool (decide ((0 : Int) ≤ i) && decide (i ≤ IntKind.i64.wrap (c - (1 : Int)))), []) else none else none) := by kernel_rfl
theorem run : ∀ args v new, R args = some (true, v, new) → ∃ fuel, runFn Try.prog (orc [⟨69, within.R⟩]) hd0 Dr.std (some 0) fuel (bodyOf Try.f64) 10 [4] args [] = some (v, new) := by
  intro args v new h
  unfold R at h
  split at h
  · rename_i r c xs ma ys mb i
    simp only [Option.some.injEq, Prod.mk.injEq, decide_eq_true_eq] at h
    obtain ⟨⟨h1, h2⟩, rfl, rfl⟩ := h
    have w : IntKind.i64.wrap (c - 1) = c - 1 := IntWalk.i64_in _ (by omega)
    refine ⟨0, ?_⟩
    rw [go, w]
    simp only [decide_true, decide_false, Bool.and_self, Bool.or_self, Bool.and_true, Bool.true_and, Bool.and_false, Bool.false_and, Bool.or_true, Bool.true_or, Bool.or_false, Bool.false_or, Bool.not_true, Bool.not_false, cond_true, cond_false]
  · cases h
theorem ok : EntOk Try.prog ⟨64, R⟩ :=
  ent_okA mixed (A := (orc [⟨69, within.R⟩])) (orc_ok (by simp only [List.mem_cons, List.not_mem_nil, or_false, forall_eq_or_imp, forall_eq]; exact within.ok)) Try.func64 (by kernel_rfl) (by kernel_rfl) (n := 10) (ts := [4]) (hd := hd0) (dr := Dr.std) (cut := (some 0)) (by kernel_rfl) (by kernel_rfl) (by kernel_rfl) run
end gHasColumn

namespace l02BestColumns
def R : List AVal → Option (Bool × AVal × List Blk)
  | [.rom [.int .i64 r, .int .i64 c, .ro (.ints .i64 xs) ma 1, .ro (.ints .i64 ys) mb 1] 0, .int .i64 i] => some (decide (ma = xs.length ∧ mb = ys.length ∧ 0 ≤ i ∧ i < r) && gm.sp r c xs ys, .own 0 0 (br.sv c.toNat r.toNat (tn.sv r.toNat c.toNat ys) i.toNat).length 0 1, [⟨.typ (.ints .i64 (br.sv c.toNat r.toNat (tn.sv r.toNat c.toNat ys) i.toNat)), 0⟩])
  | _ => none
theorem go (r c : Int) (xs ys : List Int) (i : Int) :
  regc [3] (runFn Try.prog (orc [⟨50, l02Turn.R⟩, ⟨62, l02BestRows.R⟩]) hd0 Dr.std none 0 (bodyOf Try.f55) 10 [4] [.rom [.int .i64 r, .int .i64 c, .ro (.ints .i64 xs) xs.length 1, .ro (.ints .i64 ys) ys.length 1] 0, .int .i64 i] [])
  = (match bif decide (xs.length = xs.length ∧ ys.length = ys.length) && gm.sp r c xs ys && (true && (true && (true && (true && true))) && true || true && (true && (true && (true && true))) && (true && (true && true))) then bif true && (true && (true && (true && (true && (true && true))))) then bif decide ((c * r).toNat = (tn.sv r.toNat c.toNat ys).length ∧ (c * r).toNat = (tn.sv r.toNat c.toNat xs).length ∧ (0 : Int) ≤ i ∧ i < r) && gm.sp c r (tn.sv r.toNat c.toNat ys) (tn.sv r.toNat c.toNat xs) && (false && (true && true) || true && (true && true)) then some (AVal.own ((1 : Nat) + (1 : Nat) + (1 : Nat) + (0 : Nat)) (0 : Nat) (br.sv c.toNat r.toNat (tn.sv r.toNat c.toNat ys) i.toNat).length (0 : Nat) (1 : Nat), [{ c := BC.typ (Cont.ints IntKind.i64 (tn.sv r.toNat c.toNat ys)), ver := (0 : Nat) }, { c := BC.typ (Cont.ints IntKind.i64 (tn.sv r.toNat c.toNat xs)), ver := (0 : Nat) }, { c := BC.cells [AVal.int IntKind.i64 c, AVal.int IntKind.i64 r, AVal.own (0 : Nat) (0 : Nat) (c * r).toNat (0 : Nat) (1 : Nat), AVal.own (1 : Nat) (0 : Nat) (c * r).toNat (0 : Nat) (1 : Nat)], ver := (0 : Nat) }, { c := BC.typ (Cont.ints IntKind.i64 (br.sv c.toNat r.toNat (tn.sv r.toNat c.toNat ys) i.toNat)), ver := (0 : Nat) }]) else none else none else none with
| some (v, h) =>
  bif true && (ltN (3 : Nat) (hlen h) && true) then
    some
      (AVal.re [(3 : Nat)] h v,
        match nth h (3 : Nat) with
        | some b => { c := BC.re [(3 : Nat)] h b.c, ver := b.ver } :: reB [(3 : Nat)] h []
        | none => { c := BC.cells [], ver := (0 : Nat) } :: reB [(3 : Nat)] h [])
  else none
| none => none) := by kernel_rfl
theorem run : ∀ args v new, R args = some (true, v, new) → ∃ fuel, regc [3] (runFn Try.prog (orc [⟨50, l02Turn.R⟩, ⟨62, l02BestRows.R⟩]) hd0 Dr.std none fuel (bodyOf Try.f55) 10 [4] args []) = some (v, new) := by
  intro args v new h
  unfold R at h
  split at h
  · rename_i r c xs ma ys mb i
    simp only [Option.some.injEq, Prod.mk.injEq, Bool.and_eq_true, decide_eq_true_eq, Bool.not_eq_true'] at h
    obtain ⟨⟨⟨rfl, rfl, hi0, hi1⟩, hv⟩, rfl, rfl⟩ := h
    obtain ⟨r, c, rfl, rfl, hr, hc, hx, hy, vx, vy⟩ := gm.valid hv
    have t1 : (tn.sv r c ys).length = c * r := tn.sv_length _ _ _
    have t2 : (tn.sv r c xs).length = c * r := tn.sv_length _ _ _
    have t3 : gm.sp (c : Int) (r : Int) (tn.sv r c ys) (tn.sv r c xs) = true := tn.valid hr hc hx hy vx vy
    have e : ((c : Int) * (r : Int)).toNat = c * r := by
      have : (c : Int) * (r : Int) = ((c * r : Nat) : Int) := by simp
      rw [this]; rfl
    have h36 := gm.le_36 hc.2 hr.2
    have t4 : c * r ≤ 4611686018427387904 := by omega
    have t5 : (tn.sv r c ys).take (c * r) = tn.sv r c ys := List.take_of_length_le (by omega)
    have t6 : (tn.sv r c xs).take (c * r) = tn.sv r c xs := List.take_of_length_le (by omega)
    refine ⟨0, ?_⟩
    rw [go]
    simp only [Int.toNat_natCast, e, t1, t2, t3, t5, t6, hi0, hi1, hv, Nat.le_refl, and_self, eq_self, decide_true, decide_false, Bool.and_self, Bool.or_self, Bool.and_true, Bool.true_and, Bool.and_false, Bool.false_and, Bool.or_true, Bool.true_or, Bool.or_false, Bool.false_or, Bool.not_true, Bool.not_false, cond_true, cond_false]
    try rfl
  · cases h
theorem ok : EntOk Try.prog ⟨55, R⟩ :=
  ent_okAG (ks := [3]) mixed (A := (orc [⟨50, l02Turn.R⟩, ⟨62, l02BestRows.R⟩])) (orc_ok (by simp only [List.mem_cons, List.not_mem_nil, or_false, forall_eq_or_imp, forall_eq]; exact ⟨l02Turn.ok, l02BestRows.ok⟩)) Try.func55 (by kernel_rfl) (by kernel_rfl) (n := 10) (ts := [4]) (hd := hd0) (dr := Dr.std) (cut := none) (by kernel_rfl) (by kernel_rfl) (by kernel_rfl) run
end l02BestColumns

namespace iBestColumns_t
def R : List AVal → Option (Bool × AVal × List Blk)
  | [.agg [.int .i64 r, .int .i64 c, .ro (.ints .i64 xs) ma 1, .ro (.ints .i64 ys) mb 1], .int .i64 i] => some (decide (ma = xs.length ∧ mb = ys.length ∧ ma ≤ 4611686018427387904 ∧ mb ≤ 4611686018427387904) && (gm.sp r c xs ys && (decide (0 ≤ i) && decide (i ≤ r - 1))), .tup [.own 0 0 (br.sv c.toNat r.toNat (tn.sv r.toNat c.toNat ys) i.toNat).length 0 1, .bool true], [⟨.typ (.ints .i64 (br.sv c.toNat r.toNat (tn.sv r.toNat c.toNat ys) i.toNat)), 0⟩])
  | _ => none
theorem go (r c : Int) (xs ys : List Int) (i : Int) :
  regc [3] (runFn Try.prog (orc [⟨52, iValidGame.R⟩, ⟨56, gHasRow.R⟩, ⟨53, gTurned.R⟩, ⟨57, gBestRows.R⟩]) hd0 Dr.std none 0 (bodyOf Try.f21) 19 [4, 5] [.agg [.int .i64 r, .int .i64 c, .ro (.ints .i64 xs) xs.length 1, .ro (.ints .i64 ys) ys.length 1], .int .i64 i] [])
  = (match bif true && true && (true && true && (true && true && (true && true && true))) then bif decide (xs.length = xs.length ∧ ys.length = ys.length ∧ xs.length ≤ (4611686018427387904 : Nat) ∧ ys.length ≤ (4611686018427387904 : Nat)) && (true && (true && (true && (true && true))) && true || true && true) then bif !gm.sp r c xs ys then some (AVal.tup [AVal.nils, AVal.bool false], [{ c := BC.cells [AVal.int IntKind.i64 r, AVal.int IntKind.i64 c, AVal.ro (Cont.ints IntKind.i64 xs) xs.length (1 : Nat), AVal.ro (Cont.ints IntKind.i64 ys) ys.length (1 : Nat)], ver := (0 : Nat) }]) else bif true && true && (true && true && (true && true && (true && true && true))) then bif decide ((1 : Int) ≤ r ∧ r ≤ (6 : Int)) && (true && (true && (true && (true && true))) && (true && true) || true && true) then bif !(decide ((0 : Int) ≤ i) && decide (i ≤ r - (1 : Int))) then some (AVal.tup [AVal.nils, AVal.bool false], [{ c := BC.cells [AVal.int IntKind.i64 r, AVal.int IntKind.i64 c, AVal.ro (Cont.ints IntKind.i64 xs) xs.length (1 : Nat), AVal.ro (Cont.ints IntKind.i64 ys) ys.length (1 : Nat)], ver := (0 : Nat) }]) else bif true && true && (true && true && (true && true && (true && true && true))) then bif decide (xs.length = xs.length ∧ ys.length = ys.length) && gm.sp r c xs ys && (true && (true && (true && (true && true))) && true || true && (true && (true && (true && true))) && (true && (true && true))) then bif decide ((c * r).toNat = (tn.sv r.toNat c.toNat ys).length ∧ (c * r).toNat = (tn.sv r.toNat c.toNat xs).length ∧ (0 : Int) ≤ i ∧ i < r) && gm.sp c r (tn.sv r.toNat c.toNat ys) (tn.sv r.toNat c.toNat xs) && (true && (true && (false && (false && true))) && (true && true) || true && (true && true)) then some (AVal.tup [AVal.own ((1 : Nat) + (1 : Nat) + (1 : Nat) + (0 : Nat)) (0 : Nat) (br.sv c.toNat r.toNat (tn.sv r.toNat c.toNat ys) i.toNat).length (0 : Nat) (1 : Nat), AVal.bool true], [{ c := BC.cells [AVal.int IntKind.i64 r, AVal.int IntKind.i64 c, AVal.ro (Cont.ints IntKind.i64 xs) xs.length (1 : Nat), AVal.ro (Cont.ints IntKind.i64 ys) ys.length (1 : Nat)], ver := (0 : Nat) }, { c := BC.typ (Cont.ints IntKind.i64 (tn.sv r.toNat c.toNat ys)), ver := (0 : Nat) }, { c := BC.typ (Cont.ints IntKind.i64 (tn.sv r.toNat c.toNat xs)), ver := (0 : Nat) }, { c := BC.typ (Cont.ints IntKind.i64 (br.sv c.toNat r.toNat (tn.sv r.toNat c.toNat ys) i.toNat)), ver := (0 : Nat) }]) else none else none else none else none else none else none else none with
| some (v, h) =>
  bif true && (ltN (3 : Nat) (hlen h) && true) then
    some
      (AVal.re [(3 : Nat)] h v,
        match nth h (3 : Nat) with
        | some b => { c := BC.re [(3 : Nat)] h b.c, ver := b.ver } :: reB [(3 : Nat)] h []
        | none => { c := BC.cells [], ver := (0 : Nat) } :: reB [(3 : Nat)] h [])
  else none
| none => none) := by kernel_rfl
theorem run : ∀ args v new, R args = some (true, v, new) → ∃ fuel, regc [3] (runFn Try.prog (orc [⟨52, iValidGame.R⟩, ⟨56, gHasRow.R⟩, ⟨53, gTurned.R⟩, ⟨57, gBestRows.R⟩]) hd0 Dr.std none fuel (bodyOf Try.f21) 19 [4, 5] args []) = some (v, new) := by
  intro args v new h
  unfold R at h
  split at h
  · rename_i r c xs ma ys mb i
    simp only [Option.some.injEq, Prod.mk.injEq, Bool.and_eq_true, decide_eq_true_eq, Bool.not_eq_true'] at h
    obtain ⟨⟨⟨rfl, rfl, h3, h4⟩, hv, hi0, hi1⟩, rfl, rfl⟩ := h
    obtain ⟨r, c, rfl, rfl, hr, hc, hx, hy, vx, vy⟩ := gm.valid hv
    have hr1 : (1 : Int) ≤ (r : Int) := by omega
    have hr6 : (r : Int) ≤ 6 := by omega
    have hi2 : i < (r : Int) := by omega
    have w : IntKind.i64.wrap ((r : Int) - 1) = (r : Int) - 1 := IntWalk.i64_in _ (by omega)
    have t1 : (tn.sv r c ys).length = c * r := tn.sv_length _ _ _
    have t2 : (tn.sv r c xs).length = c * r := tn.sv_length _ _ _
    have t3 : gm.sp (c : Int) (r : Int) (tn.sv r c ys) (tn.sv r c xs) = true := tn.valid hr hc hx hy vx vy
    have e : ((c : Int) * (r : Int)).toNat = c * r := by
      have : (c : Int) * (r : Int) = ((c * r : Nat) : Int) := by simp
      rw [this]; rfl
    have h36 := gm.le_36 hc.2 hr.2
    have t4 : c * r ≤ 4611686018427387904 := by omega
    have t5 : (tn.sv r c ys).take (c * r) = tn.sv r c ys := List.take_of_length_le (by omega)
    have t6 : (tn.sv r c xs).take (c * r) = tn.sv r c xs := List.take_of_length_le (by omega)
    refine ⟨0, ?_⟩
    rw [go]
    simp only [w, Int.toNat_natCast, e, t1, t2, t3, t4, t5, t6, hr1, hr6, hi0, hi1, hi2, h3, h4, hv, Nat.le_refl, and_self, eq_self, decide_true, decide_false, Bool.and_self, Bool.or_self, Bool.and_true, Bool.true_and, Bool.and_false, Bool.false_and, Bool.or_true, Bool.true_or, Bool.or_false, Bool.false_or, Bool.not_true, Bool.not_false, cond_true, cond_false]
    try rfl
  · cases h
theorem ok : EntOk Try.prog ⟨21, R⟩ :=
  ent_okAG (ks := [3]) mixed (A := (orc [⟨52, iValidGame.R⟩, ⟨56, gHasRow.R⟩, ⟨53, gTurned.R⟩, ⟨57, gBestRows.R⟩])) (orc_ok (by simp only [List.mem_cons, List.not_mem_nil, or_false, forall_eq_or_imp, forall_eq]; exact ⟨iValidGame.ok, gHasRow.ok, gTurned.ok, gBestRows.ok⟩)) Try.func21 (by kernel_rfl) (by kernel_rfl) (n := 19) (ts := [4, 5]) (hd := hd0) (dr := Dr.std) (cut := none) (by kernel_rfl) (by kernel_rfl) (by kernel_rfl) run
end iBestColumns_t

namespace iBestColumns_f
def R : List AVal → Option (Bool × AVal × List Blk)
  | [.agg [.int .i64 r, .int .i64 c, .ro (.ints .i64 xs) ma 1, .ro (.ints .i64 ys) mb 1], .int .i64 i] => some (decide (ma = xs.length ∧ mb = ys.length ∧ ma ≤ 4611686018427387904 ∧ mb ≤ 4611686018427387904) && !(gm.sp r c xs ys && (decide (0 ≤ i) && decide (i ≤ r - 1))), .tup [.nils, .bool false], [])
  | _ => none
theorem go (r c : Int) (xs ys : List Int) (i : Int) :
  runFn Try.prog (orc [⟨52, iValidGame.R⟩, ⟨56, gHasRow.R⟩]) hd0 Dr.std (some 0) 0 (bodyOf Try.f21) 19 [4, 5] [.agg [.int .i64 r, .int .i64 c, .ro (.ints .i64 xs) xs.length 1, .ro (.ints .i64 ys) ys.length 1], .int .i64 i] []
  = (bif true && true && (true && true && (true && true && (true && true && true))) then bif decide (xs.length = xs.length ∧ ys.length = ys.length ∧ xs.length ≤ (4611686018427387904 : Nat) ∧ ys.length ≤ (4611686018427387904 : Nat)) && (true && (true && (true && (true && true))) && true || true && true) then bif !gm.sp r c xs ys then some (AVal.tup [AVal.nils, AVal.bool false], []) else bif true && true && (true && true && (true && true && (true && true && true))) then bif decide ((1 : Int) ≤ r ∧ r ≤ (6 : Int)) && (true && (true && (true && (true && true))) && (true && true) || true && true) then bif !(decide ((0 : Int) ≤ i) && decide (i ≤ r - (1 : Int))) then some (AVal.tup [AVal.nils, AVal.bool false], []) else bif true && true && (true && true && (true && true && (true && true && true))) then none else none else none else none else none else none) := by kernel_rfl
theorem run : ∀ args v new, R args = some (true, v, new) → ∃ fuel, runFn Try.prog (orc [⟨52, iValidGame.R⟩, ⟨56, gHasRow.R⟩]) hd0 Dr.std (some 0) fuel (bodyOf Try.f21) 19 [4, 5] args [] = some (v, new) := by
  intro args v new h
  unfold R at h
  split at h
  · rename_i r c xs ma ys mb i
    simp only [Option.some.injEq, Prod.mk.injEq, Bool.and_eq_true, decide_eq_true_eq, Bool.not_eq_true'] at h
    obtain ⟨⟨⟨rfl, rfl, h3, h4⟩, hv⟩, rfl, rfl⟩ := h
    refine ⟨0, ?_⟩
    rw [go]
    cases hg : gm.sp r c xs ys
    · simp only [hg, h3, h4, and_self, eq_self, decide_true, decide_false, Bool.and_self, Bool.or_self, Bool.and_true, Bool.true_and, Bool.and_false, Bool.false_and, Bool.or_true, Bool.true_or, Bool.or_false, Bool.false_or, Bool.not_true, Bool.not_false, cond_true, cond_false]
    · rw [hg, Bool.true_and] at hv
      obtain ⟨r, c, rfl, rfl, hr, hc, hx, hy, vx, vy⟩ := gm.valid hg
      have hr1 : (1 : Int) ≤ (r : Int) := by omega
      have hr6 : (r : Int) ≤ 6 := by omega
      have w : IntKind.i64.wrap ((r : Int) - 1) = (r : Int) - 1 := IntWalk.i64_in _ (by omega)
      simp only [w, hg, hr1, hr6, hv, h3, h4, and_self, eq_self, decide_true, decide_false, Bool.and_self, Bool.or_self, Bool.and_true, Bool.true_and, Bool.and_false, Bool.false_and, Bool.or_true, Bool.true_or, Bool.or_false, Bool.false_or, Bool.not_true, Bool.not_false, cond_true, cond_false]
  · cases h
theorem ok : EntOk Try.prog ⟨21, R⟩ :=
  ent_okA mixed (A := (orc [⟨52, iValidGame.R⟩, ⟨56, gHasRow.R⟩])) (orc_ok (by simp only [List.mem_cons, List.not_mem_nil, or_false, forall_eq_or_imp, forall_eq]; exact ⟨iValidGame.ok, gHasRow.ok⟩)) Try.func21 (by kernel_rfl) (by kernel_rfl) (n := 19) (ts := [4, 5]) (hd := hd0) (dr := Dr.std) (cut := (some 0)) (by kernel_rfl) (by kernel_rfl) (by kernel_rfl) run
end iBestColumns_f

namespace iBestColumns
def Rt := iBestColumns_t.R
def Rf := iBestColumns_f.R
theorem okt : EntOk Try.prog ⟨21, Rt⟩ := iBestColumns_t.ok
theorem okf : EntOk Try.prog ⟨21, Rf⟩ := iBestColumns_f.ok
end iBestColumns

namespace sBestColumns_t
def R : List AVal → Option (Bool × AVal × List Blk)
  | [.agg [.int .i64 r, .int .i64 c, .ro (.ints .i64 xs) ma 1, .ro (.ints .i64 ys) mb 1], .int .i64 i] => some (decide (ma = xs.length ∧ mb = ys.length ∧ ma ≤ 4611686018427387904 ∧ mb ≤ 4611686018427387904) && (gm.sp r c xs ys && (decide (0 ≤ i) && decide (i ≤ r - 1))), .tup [.own 0 0 (br.sv c.toNat r.toNat (tn.sv r.toNat c.toNat ys) i.toNat).length 0 1, .bool true], [⟨.typ (.ints .i64 (br.sv c.toNat r.toNat (tn.sv r.toNat c.toNat ys) i.toNat)), 0⟩])
  | _ => none
theorem go (r c : Int) (xs ys : List Int) (i : Int) :
  regc [1] (runFn Try.prog (orc [⟨49, l02Is.R⟩, ⟨54, l00In.R⟩, ⟨55, l02BestColumns.R⟩]) hd0 Dr.std none 0 (bodyOf Try.f20) 18 [4, 5] [.agg [.int .i64 r, .int .i64 c, .ro (.ints .i64 xs) xs.length 1, .ro (.ints .i64 ys) ys.length 1], .int .i64 i] [])
  = (match bif decide (xs.length = xs.length ∧ ys.length = ys.length ∧ xs.length ≤ (4611686018427387904 : Nat) ∧ ys.length ≤ (4611686018427387904 : Nat)) && (false && true || true && true) then bif !gm.sp r c xs ys then some (AVal.tup [AVal.nils, AVal.bool false], [{ c := BC.cells [AVal.int IntKind.i64 r, AVal.int IntKind.i64 c, AVal.ro (Cont.ints IntKind.i64 xs) xs.length (1 : Nat), AVal.ro (Cont.ints IntKind.i64 ys) ys.length (1 : Nat)], ver := (0 : Nat) }]) else bif true && true then bif true && (true && (true && (true && true)) || true && true) then bif !(decide ((0 : Int) ≤ i) && decide (i ≤ IntKind.i64.wrap (r - (1 : Int)))) then some (AVal.tup [AVal.nils, AVal.bool false], [{ c := BC.cells [AVal.int IntKind.i64 r, AVal.int IntKind.i64 c, AVal.ro (Cont.ints IntKind.i64 xs) xs.length (1 : Nat), AVal.ro (Cont.ints IntKind.i64 ys) ys.length (1 : Nat)], ver := (0 : Nat) }]) else bif decide (xs.length = xs.length ∧ ys.length = ys.length ∧ (0 : Int) ≤ i ∧ i < r) && gm.sp r c xs ys && (false && (true && true) || true && (true && true)) then some (AVal.tup [AVal.own (1 : Nat) (0 : Nat) (br.sv c.toNat r.toNat (tn.sv r.toNat c.toNat ys) i.toNat).length (0 : Nat) (1 : Nat), AVal.bool true], [{ c := BC.cells [AVal.int IntKind.i64 r, AVal.int IntKind.i64 c, AVal.ro (Cont.ints IntKind.i64 xs) xs.length (1 : Nat), AVal.ro (Cont.ints IntKind.i64 ys) ys.length (1 : Nat)], ver := (0 : Nat) }, { c := BC.typ (Cont.ints IntKind.i64 (br.sv c.toNat r.toNat (tn.sv r.toNat c.toNat ys) i.toNat)), ver := (0 : Nat) }]) else none else none else none else none with
| some (v, h) =>
  bif true && (ltN (1 : Nat) (hlen h) && true) then
    some
      (AVal.re [(1 : Nat)] h v,
        match nth h (1 : Nat) with
        | some b => { c := BC.re [(1 : Nat)] h b.c, ver := b.ver } :: reB [(1 : Nat)] h []
        | none => { c := BC.cells [], ver := (0 : Nat) } :: reB [(1 : Nat)] h [])
  else none
| none => none) := by kernel_rfl
theorem run : ∀ args v new, R args = some (true, v, new) → ∃ fuel, regc [1] (runFn Try.prog (orc [⟨49, l02Is.R⟩, ⟨54, l00In.R⟩, ⟨55, l02BestColumns.R⟩]) hd0 Dr.std none fuel (bodyOf Try.f20) 18 [4, 5] args []) = some (v, new) := by
  intro args v new h
  unfold R at h
  split at h
  · rename_i r c xs ma ys mb i
    simp only [Option.some.injEq, Prod.mk.injEq, Bool.and_eq_true, decide_eq_true_eq, Bool.not_eq_true'] at h
    obtain ⟨⟨⟨rfl, rfl, h3, h4⟩, hv, hi0, hi1⟩, rfl, rfl⟩ := h
    obtain ⟨r, c, rfl, rfl, hr, hc, hx, hy, vx, vy⟩ := gm.valid hv
    have hr1 : (1 : Int) ≤ (r : Int) := by omega
    have hr6 : (r : Int) ≤ 6 := by omega
    have hi2 : i < (r : Int) := by omega
    have w : IntKind.i64.wrap ((r : Int) - 1) = (r : Int) - 1 := IntWalk.i64_in _ (by omega)
    have t1 : (tn.sv r c ys).length = c * r := tn.sv_length _ _ _
    have t2 : (tn.sv r c xs).length = c * r := tn.sv_length _ _ _
    have t3 : gm.sp (c : Int) (r : Int) (tn.sv r c ys) (tn.sv r c xs) = true := tn.valid hr hc hx hy vx vy
    have e : ((c : Int) * (r : Int)).toNat = c * r := by
      have : (c : Int) * (r : Int) = ((c * r : Nat) : Int) := by simp
      rw [this]; rfl
    have h36 := gm.le_36 hc.2 hr.2
    have t4 : c * r ≤ 4611686018427387904 := by omega
    have t5 : (tn.sv r c ys).take (c * r) = tn.sv r c ys := List.take_of_length_le (by omega)
    have t6 : (tn.sv r c xs).take (c * r) = tn.sv r c xs := List.take_of_length_le (by omega)
    refine ⟨0, ?_⟩
    rw [go]
    simp only [w, Int.toNat_natCast, e, t1, t2, t3, t4, t5, t6, hr1, hr6, hi0, hi1, hi2, h3, h4, hv, Nat.le_refl, and_self, eq_self, decide_true, decide_false, Bool.and_self, Bool.or_self, Bool.and_true, Bool.true_and, Bool.and_false, Bool.false_and, Bool.or_true, Bool.true_or, Bool.or_false, Bool.false_or, Bool.not_true, Bool.not_false, cond_true, cond_false]
    try rfl
  · cases h
theorem ok : EntOk Try.prog ⟨20, R⟩ :=
  ent_okAG (ks := [1]) mixed (A := (orc [⟨49, l02Is.R⟩, ⟨54, l00In.R⟩, ⟨55, l02BestColumns.R⟩])) (orc_ok (by simp only [List.mem_cons, List.not_mem_nil, or_false, forall_eq_or_imp, forall_eq]; exact ⟨l02Is.ok, l00In.ok, l02BestColumns.ok⟩)) Try.func20 (by kernel_rfl) (by kernel_rfl) (n := 18) (ts := [4, 5]) (hd := hd0) (dr := Dr.std) (cut := none) (by kernel_rfl) (by kernel_rfl) (by kernel_rfl) run
end sBestColumns_t

namespace sBestColumns_f
def R : List AVal → Option (Bool × AVal × List Blk)
  | [.agg [.int .i64 r, .int .i64 c, .ro (.ints .i64 xs) ma 1, .ro (.ints .i64 ys) mb 1], .int .i64 i] => some (decide (ma = xs.length ∧ mb = ys.length ∧ ma ≤ 4611686018427387904 ∧ mb ≤ 4611686018427387904) && !(gm.sp r c xs ys && (decide (0 ≤ i) && decide (i ≤ r - 1))), .tup [.nils, .bool false], [])
  | _ => none
theorem go (r c : Int) (xs ys : List Int) (i : Int) :
  runFn Try.prog (orc [⟨49, l02Is.R⟩, ⟨54, l00In.R⟩]) hd0 Dr.std (some 0) 0 (bodyOf Try.f20) 18 [4, 5] [.agg [.int .i64 r, .int .i64 c, .ro (.ints .i64 xs) xs.length 1, .ro (.ints .i64 ys) ys.length 1], .int .i64 i] []
  = (bif decide (xs.length = xs.length ∧ ys.length = ys.length ∧ xs.length ≤ (4611686018427387904 : Nat) ∧ ys.length ≤ (4611686018427387904 : Nat)) && (false && true || true && true) then bif !gm.sp r c xs ys then some (AVal.tup [AVal.nils, AVal.bool false], []) else bif true && true then bif true && (true && (true && (true && true)) || true && true) then bif !(decide ((0 : Int) ≤ i) && decide (i ≤ IntKind.i64.wrap (r - (1 : Int)))) then some (AVal.tup [AVal.nils, AVal.bool false], []) else none else none else none else none) := by kernel_rfl
theorem run : ∀ args v new, R args = some (true, v, new) → ∃ fuel, runFn Try.prog (orc [⟨49, l02Is.R⟩, ⟨54, l00In.R⟩]) hd0 Dr.std (some 0) fuel (bodyOf Try.f20) 18 [4, 5] args [] = some (v, new) := by
  intro args v new h
  unfold R at h
  split at h
  · rename_i r c xs ma ys mb i
    simp only [Option.some.injEq, Prod.mk.injEq, Bool.and_eq_true, decide_eq_true_eq, Bool.not_eq_true'] at h
    obtain ⟨⟨⟨rfl, rfl, h3, h4⟩, hv⟩, rfl, rfl⟩ := h
    refine ⟨0, ?_⟩
    rw [go]
    cases hg : gm.sp r c xs ys
    · simp only [hg, h3, h4, and_self, eq_self, decide_true, decide_false, Bool.and_self, Bool.or_self, Bool.and_true, Bool.true_and, Bool.and_false, Bool.false_and, Bool.or_true, Bool.true_or, Bool.or_false, Bool.false_or, Bool.not_true, Bool.not_false, cond_true, cond_false]
    · rw [hg, Bool.true_and] at hv
      obtain ⟨r, c, rfl, rfl, hr, hc, hx, hy, vx, vy⟩ := gm.valid hg
      have hr1 : (1 : Int) ≤ (r : Int) := by omega
      have hr6 : (r : Int) ≤ 6 := by omega
      have w : IntKind.i64.wrap ((r : Int) - 1) = (r : Int) - 1 := IntWalk.i64_in _ (by omega)
      simp only [w, hg, hr1, hr6, hv, h3, h4, and_self, eq_self, decide_true, decide_false, Bool.and_self, Bool.or_self, Bool.and_true, Bool.true_and, Bool.and_false, Bool.false_and, Bool.or_true, Bool.true_or, Bool.or_false, Bool.false_or, Bool.not_true, Bool.not_false, cond_true, cond_false]
  · cases h
theorem ok : EntOk Try.prog ⟨20, R⟩ :=
  ent_okA mixed (A := (orc [⟨49, l02Is.R⟩, ⟨54, l00In.R⟩])) (orc_ok (by simp only [List.mem_cons, List.not_mem_nil, or_false, forall_eq_or_imp, forall_eq]; exact ⟨l02Is.ok, l00In.ok⟩)) Try.func20 (by kernel_rfl) (by kernel_rfl) (n := 18) (ts := [4, 5]) (hd := hd0) (dr := Dr.std) (cut := (some 0)) (by kernel_rfl) (by kernel_rfl) (by kernel_rfl) run
end sBestColumns_f

namespace sBestColumns
def Rt := sBestColumns_t.R
def Rf := sBestColumns_f.R
theorem okt : EntOk Try.prog ⟨20, Rt⟩ := sBestColumns_t.ok
theorem okf : EntOk Try.prog ⟨20, Rf⟩ := sBestColumns_f.ok
end sBestColumns

namespace FnExactBestColumnst
def R : List AVal → Option (Bool × AVal × List Blk)
  | [.agg [.int .i64 u, .int .i64 r, .ro (.ints .i64 ws) mw 1, .ro (.ints .i64 cs) mc 1], .int .i64 i] => some (decide (mw ≤ ws.length ∧ mc ≤ cs.length ∧ mw ≤ 9223372036854775807 ∧ mc ≤ 9223372036854775807) && (decide ((1048576 : Int) - (mw : Int) < 0 ∨ (1048576 : Int) - (mw : Int) - (mc : Int) < 0) || (gm.sp u r (ws.take mw) (cs.take mc) && (decide (0 ≤ i) && decide (i ≤ u - 1)))), .bool true, [])
  | _ => none
theorem go (u r : Int) (ws cs : List Int) (mw mc : Nat) (i : Int) :
  runFn Try.prog (orcW [⟨18, markGameN.R⟩, ⟨23, markInt64S.R⟩] [⟨13, szGame.R⟩, ⟨15, toGame.R⟩, ⟨17, eqGameN.R⟩, ⟨20, sBestColumns.Rt⟩, ⟨21, iBestColumns.Rt⟩, ⟨22, eqInt64N.R⟩, ⟨24, heldInt64S.R⟩]) hd0 Dr.std (some 0) 0 (bodyOf Try.f4) 101 [4] [.agg [.int .i64 u, .int .i64 r, .ro (.ints .i64 ws) mw 1, .ro (.ints .i64 cs) mc 1], .int .i64 i] []
  = (bif true && true && (true && true && (true && true && (true && true && true))) then bif decide (mw ≤ (9223372036854775807 : Nat) ∧ mc ≤ (9223372036854775807 : Nat) ∧ (0 : Int) ≤ (1048576 : Int) ∧ (1048576 : Int) ≤ (9223372036854775807 : Int)) && (true && (true && (true && (true && true))) && true || true && true) then bif decide ((bif decide ((1048576 : Int) - (↑mw : Int) < (0 : Int)) then (-1 : Int) else bif decide ((1048576 : Int) - (↑mw : Int) - (↑mc : Int) < (0 : Int)) then (-1 : Int) else (1048576 : Int) - (↑mw : Int) - (↑mc : Int)) < (0 : Int)) then some (AVal.bool true, []) else bif true && true && (true && true && (true && true && (true && true && true))) then bif decide (mw ≤ ws.length ∧ mw ≤ (1048576 : Nat) ∧ mc ≤ cs.length ∧ mc ≤ (1048576 : Nat)) && (true && (true && (true && (true && true))) && true || true && (true && (true && (true && true))) && (true && (true && true))) then bif decide (mw = (List.take mw ws).length ∧ mc = (List.take mc cs).length ∧ mw ≤ (4611686018427387904 : Nat) ∧ mc ≤ (4611686018427387904 : Nat)) && (gm.sp u r (List.take mw ws) (List.take mc cs) && (decide ((0 : Int) ≤ i) && decide (i ≤ u - (1 : Int)))) && (true && (true && (false && (false && true))) && (true && true) || true && true && (true && true)) then bif true && true && (true && true && (true && true && (true && true && true))) then bif decide (mw ≤ ws.length ∧ mw ≤ (1048576 : Nat) ∧ mc ≤ cs.length ∧ mc ≤ (1048576 : Nat)) && (true && (true && (true && (true && true))) && true || true && (true && (true && (true && true))) && (true && (true && true))) then bif true && (true && (true && (true && (true && (true && true))))) then bif true && true && (true && true && (true && true && (true && true && true))) then bif decide (mw = (List.take mw ws).length ∧ mc = (List.take mc cs).length ∧ mw ≤ (4611686018427387904 : Nat) ∧ mc ≤ (4611686018427387904 : Nat)) && (gm.sp u r (List.take mw ws) (List.take mc cs) && (decide ((0 : Int) ≤ i) && decide (i ≤ u - (1 : Int)))) && (true && (true && (false && (false && true))) && (true && true) || true && true && (true && true)) then bif decide ((br.sv r.toNat u.toNat (tn.sv u.toNat r.toNat (List.take mc cs)) i.toNat).length ≤ (br.sv r.toNat u.toNat (tn.sv u.toNat r.toNat (List.take mc cs)) i.toNat).length ∧ (br.sv r.toNat u.toNat (tn.sv u.toNat r.toNat (List.take mc cs)) i.toNat).length ≤ (br.sv r.toNat u.toNat (tn.sv u.toNat r.toNat (List.take mc cs)) i.toNat).length ∧ (br.sv r.toNat u.toNat (tn.sv u.toNat r.toNat (List.take mc cs)) i.toNat).length ≤ (4611686018427387904 : Nat)) && (false && (false && true) || true && true) then bif !decide (List.take (br.sv r.toNat u.toNat (tn.sv u.toNat r.toNat (List.take mc cs)) i.toNat).length (br.sv r.toNat u.toNat (tn.sv u.toNat r.toNat (List.take mc cs)) i.toNat) = List.take (br.sv r.toNat u.toNat (tn.sv u.toNat r.toNat (List.take mc cs)) i.toNat).length (br.sv r.toNat u.toNat (tn.sv u.toNat r.toNat (List.take mc cs)) i.toNat)) then some (AVal.bool false, []) else bif true && true && (true && true && (true && true && (true && true && true))) then bif true && true && (true && true && (true && true && (true && true && true))) then bif decide (mw ≤ ws.length ∧ mw ≤ (1048576 : Nat) ∧ mc ≤ cs.length ∧ mc ≤ (1048576 : Nat)) && (true && (true && (true && (true && true))) && true || true && (true && (true && (true && true))) && (true && (true && true))) then bif decide (mw ≤ (List.take mw ws).length ∧ mw ≤ (List.take mw ws).length ∧ mw ≤ (4611686018427387904 : Nat) ∧ mc ≤ (List.take mc cs).length ∧ mc ≤ (List.take mc cs).length ∧ mc ≤ (4611686018427387904 : Nat)) && (true && (true && (false && (false && true))) && (true && (true && (false && (false && true))) && true) || true && true) then bif !(decide (u = u) && (decide (r = r) && (decide (List.take mw (List.take mw ws) = List.take mw (List.take mw ws)) && decide (List.take mc (List.take mc cs) = List.take mc (List.take mc cs))))) then some (AVal.bool false, []) else bif true && true && (true && true && (true && true && (true && true && true))) then bif decide (mw = (List.take mw ws).length ∧ mw ≤ (1048576 : Nat) ∧ mc = (List.take mc cs).length ∧ mc ≤ (1048576 : Nat) ∧ (0 : Int) ≤ (1 : Int) ∧ (1 : Int) ≤ (100000000 : Int)) && (true && (true && true) && (true && (true && true))) then bif decide ((1 : Int) + (↑mw : Int) + (↑mc : Int) < (0 : Int)) then some (AVal.bool false, []) else bif decide ((br.sv r.toNat u.toNat (tn.sv u.toNat r.toNat (List.take mc cs)) i.toNat).length ≤ (br.sv r.toNat u.toNat (tn.sv u.toNat r.toNat (List.take mc cs)) i.toNat).length ∧ (br.sv r.toNat u.toNat (tn.sv u.toNat r.toNat (List.take mc cs)) i.toNat).length ≤ (br.sv r.toNat u.toNat (tn.sv u.toNat r.toNat (List.take mc cs)) i.toNat).length ∧ (br.sv r.toNat u.toNat (tn.sv u.toNat r.toNat (List.take mc cs)) i.toNat).length ≤ (4611686018427387904 : Nat)) && (false && (false && true) || true && true) then bif !decide (List.take (br.sv r.toNat u.toNat (tn.sv u.toNat r.toNat (List.take mc cs)) i.toNat).length (br.sv r.toNat u.toNat (tn.sv u.toNat r.toNat (List.take mc cs)) i.toNat) = List.take (br.sv r.toNat u.toNat (tn.sv u.toNat r.toNat (List.take mc cs)) i.toNat).length (br.sv r.toNat u.toNat (tn.sv u.toNat r.toNat (List.take mc cs)) i.toNat)) then some (AVal.bool false, []) else bif decide ((br.sv r.toNat u.toNat (tn.sv u.toNat r.toNat (List.take mc cs)) i.toNat).length = (br.sv r.toNat u.toNat (tn.sv u.toNat r.toNat (List.take mc cs)) i.toNat).length ∧ (br.sv r.toNat u.toNat (tn.sv u.toNat r.toNat (List.take mc cs)) i.toNat).length ≤ (4611686018427387904 : Nat) ∧ (0 : Int) ≤ (1 : Int) ∧ (1 : Int) ≤ (1000000000 : Int)) && (true && true && (true && true)) then bif decide ((br.sv r.toNat u.toNat (tn.sv u.toNat r.toNat (List.take mc cs)) i.toNat).length ≤ (marks.sv (1 : Int) (br.sv r.toNat u.toNat (tn.sv u.toNat r.toNat (List.take mc cs)) i.toNat).length).length ∧ (br.sv r.toNat u.toNat (tn.sv u.toNat r.toNat (List.take mc cs)) i.toNat).length ≤ (4611686018427387904 : Nat) ∧ (0 : Int) ≤ (1 : Int) ∧ (1 : Int) ≤ (1000000000 : Int)) && (false && true || true && true) then bif decide ((bif decide (List.take (br.sv r.toNat u.toNat (tn.sv u.toNat r.toNat (List.take mc cs)) i.toNat).length (marks.sv (1 : Int) (br.sv r.toNat u.toNat (tn.sv u.toNat r.toNat (List.take mc cs)) i.toNat).length) = marks.sv (1 : Int) (br.sv r.toNat u.toNat (tn.sv u.toNat r.toNat (List.take mc cs)) i.toNat).length) then (1 : Int) + (↑(br.sv r.toNat u.toNat (tn.sv u.toNat r.toNat (List.take mc cs)) i.toNat).length : Int) else (-1 : Int)) < (0 : Int)) then some (AVal.bool false, []) else bif (bif decide (List.take (br.sv r.toNat u.toNat (tn.sv u.toNat r.toNat (List.take mc cs)) i.toNat).length (marks.sv (1 : Int) (br.sv r.toNat u.toNat (tn.sv u.toNat r.toNat (List.take mc cs)) i.toNat).length) = marks.sv (1 : Int) (br.sv r.toNat u.toNat (tn.sv u.toNat r.toNat (List.take mc cs)) i.toNat).length) then (1 : Int) + (↑(br.sv r.toNat u.toNat (tn.sv u.toNat r.toNat (List.take mc cs)) i.toNat).length : Int) else (-1 : Int)) != (1 : Int) + (↑(br.sv r.toNat u.toNat (tn.sv u.toNat r.toNat (List.take mc cs)) i.toNat).length : Int) then some (AVal.bool false, []) else bif true && true && (true && true && (true && true && (true && true && true))) then bif decide (mw ≤ ws.length ∧ mw ≤ (1048576 : Nat) ∧ mc ≤ cs.length ∧ mc ≤ (1048576 : Nat)) && (true && (true && (true && (true && true))) && true || true && (true && (true && (true && true))) && (true && (true && true))) then bif decide (mw = (List.take mw ws).length ∧ mc = (List.take mc cs).length ∧ mw ≤ (4611686018427387904 : Nat) ∧ mc ≤ (4611686018427387904 : Nat)) && (gm.sp u r (List.take mw ws) (List.take mc cs) && (decide ((0 : Int) ≤ i) && decide (i ≤ u - (1 : Int)))) && (true && (true && (false && (false && true))) && (true && true) || true && true && (true && true)) then bif decide ((br.sv r.toNat u.toNat (tn.sv u.toNat r.toNat (List.take mc cs)) i.toNat).length ≤ (br.sv r.toNat u.toNat (tn.sv u.toNat r.toNat (List.take mc cs)) i.toNat).length ∧ (br.sv r.toNat u.toNat (tn.sv u.toNat r.toNat (List.take mc cs)) i.toNat).length ≤ (br.sv r.toNat u.toNat (tn.sv u.toNat r.toNat (List.take mc cs)) i.toNat).length ∧ (br.sv r.toNat u.toNat (tn.sv u.toNat r.toNat (List.take mc cs)) i.toNat).length ≤ (4611686018427387904 : Nat)) && (false && (false && true) || true && true) then bif !decide (List.take (br.sv r.toNat u.toNat (tn.sv u.toNat r.toNat (List.take mc cs)) i.toNat).length (br.sv r.toNat u.toNat (tn.sv u.toNat r.toNat (List.take mc cs)) i.toNat) = List.take (br.sv r.toNat u.toNat (tn.sv u.toNat r.toNat (List.take mc cs)) i.toNat).length (br.sv r.toNat u.toNat (tn.sv u.toNat r.toNat (List.take mc cs)) i.toNat)) then some (AVal.bool false, []) else bif decide ((br.sv r.toNat u.toNat (tn.sv u.toNat r.toNat (List.take mc cs)) i.toNat).length ≤ (marks.sv (1 : Int) (br.sv r.toNat u.toNat (tn.sv u.toNat r.toNat (List.take mc cs)) i.toNat).length).length ∧ (br.sv r.toNat u.toNat (tn.sv u.toNat r.toNat (List.take mc cs)) i.toNat).length ≤ (4611686018427387904 : Nat) ∧ (0 : Int) ≤ (1 : Int) ∧ (1 : Int) ≤ (1000000000 : Int)) && (false && true || true && true) then bif decide ((bif decide (List.take (br.sv r.toNat u.toNat (tn.sv u.toNat r.toNat (List.take mc cs)) i.toNat).length (marks.sv (1 : Int) (br.sv r.toNat u.toNat (tn.sv u.toNat r.toNat (List.take mc cs)) i.toNat).length) = marks.sv (1 : Int) (br.sv r.toNat u.toNat (tn.sv u.toNat r.toNat (List.take mc cs)) i.toNat).length) then (1 : Int) + (↑(br.sv r.toNat u.toNat (tn.sv u.toNat r.toNat (List.take mc cs)) i.toNat).length : Int) else (-1 : Int)) < (0 : Int)) then some (AVal.bool false, []) else bif (bif decide (List.take (br.sv r.toNat u.toNat (tn.sv u.toNat r.toNat (List.take mc cs)) i.toNat).length (marks.sv (1 : Int) (br.sv r.toNat u.toNat (tn.sv u.toNat r.toNat (List.take mc cs)) i.toNat).length) = marks.sv (1 : Int) (br.sv r.toNat u.toNat (tn.sv u.toNat r.toNat (List.take mc cs)) i.toNat).length) then (1 : Int) + (↑(br.sv r.toNat u.toNat (tn.sv u.toNat r.toNat (List.take mc cs)) i.toNat).length : Int) else (-1 : Int)) != (1 : Int) + (↑(br.sv r.toNat u.toNat (tn.sv u.toNat r.toNat (List.take mc cs)) i.toNat).length : Int) then some (AVal.bool false, []) else some (AVal.bool true, []) else none else none else none else none else none else none else none else none else none else none else none else none else none else none else none else none else none else none else none else none else none else none else none else none else none) := by kernel_rfl
theorem run : ∀ args v new, R args = some (true, v, new) → ∃ fuel, runFn Try.prog (orcW [⟨18, markGameN.R⟩, ⟨23, markInt64S.R⟩] [⟨13, szGame.R⟩, ⟨15, toGame.R⟩, ⟨17, eqGameN.R⟩, ⟨20, sBestColumns.Rt⟩, ⟨21, iBestColumns.Rt⟩, ⟨22, eqInt64N.R⟩, ⟨24, heldInt64S.R⟩]) hd0 Dr.std (some 0) fuel (bodyOf Try.f4) 101 [4] args [] = some (v, new) := by
  intro args v new h
  unfold R at h
  split at h
  · rename_i u r ws mw cs mc i
    simp only [Option.some.injEq, Prod.mk.injEq, Bool.or_eq_true, Bool.and_eq_true, decide_eq_true_eq, Bool.not_eq_true'] at h
    obtain ⟨⟨⟨h1, h2, h3, h4⟩, hc⟩, rfl, rfl⟩ := h
    refine ⟨0, ?_⟩
    rw [go]
    have z1 : (0 : Int) ≤ 1048576 := by decide
    have z2 : (1048576 : Int) ≤ 9223372036854775807 := by decide
    have z3 : (-1 : Int) < 0 := by decide
    by_cases a1 : (1048576 : Int) - (mw : Int) < 0
    · simp only [a1, h3, h4, z1, z2, z3, List.take_take, Nat.min_self, Nat.le_refl, List.take_length, marks_length, take_marks, one_neg, i0_1, i1_b, true_and, and_true, and_self, decide_true, decide_false, Bool.and_self, Bool.or_self, Bool.and_true, Bool.true_and, Bool.and_false, Bool.false_and, Bool.or_true, Bool.true_or, Bool.or_false, Bool.false_or, Bool.not_true, Bool.not_false, cond_true, cond_false, bne_self_eq_false, beq_self_eq_true]
    by_cases a2 : (1048576 : Int) - (mw : Int) - (mc : Int) < 0
    · simp only [a1, a2, h3, h4, z1, z2, z3, List.take_take, Nat.min_self, Nat.le_refl, List.take_length, marks_length, take_marks, one_neg, i0_1, i1_b, true_and, and_true, and_self, decide_true, decide_false, Bool.and_self, Bool.or_self, Bool.and_true, Bool.true_and, Bool.and_false, Bool.false_and, Bool.or_true, Bool.true_or, Bool.or_false, Bool.false_or, Bool.not_true, Bool.not_false, cond_true, cond_false, bne_self_eq_false, beq_self_eq_true]
    rcases hc with hc | hc
    · exact absurd hc (by omega)
    have b1 : mw ≤ 1048576 := by omega
    have b2 : mc ≤ 1048576 := by omega
    have b5 : mw ≤ 4611686018427387904 := by omega
    have b6 : mc ≤ 4611686018427387904 := by omega
    have e1 : (ws.take mw).length = mw := by simp; omega
    have e2 : (cs.take mc).length = mc := by simp; omega
    have k0 : (1 : Int) ≤ 100000000 := by decide
    have k0b : (1 : Int) ≤ 1000000000 := by decide
    have k0a : (0 : Int) ≤ 1 := by decide
    have k1 : (0 : Int) ≤ 1 + (mw : Int) + (mc : Int) := by omega
    have k2 : 1 + (mw : Int) + (mc : Int) ≤ 1000000000 := by omega
    have k3 : ¬ (1 + (mw : Int) + (mc : Int) < 0) := by omega
    have o0 : (br.sv r.toNat u.toNat (tn.sv u.toNat r.toNat (cs.take mc)) i.toNat).length ≤ 1000000 := gm.side_small hc.1 (br.sv_length _ _ _ _)
    have oa0 : (br.sv r.toNat u.toNat (tn.sv u.toNat r.toNat (cs.take mc)) i.toNat).length ≤ 1048576 := by omega
    have ob0 : (br.sv r.toNat u.toNat (tn.sv u.toNat r.toNat (cs.take mc)) i.toNat).length ≤ 4611686018427387904 := by omega
    have oc0 : (0 : Int) ≤ 1 + ((br.sv r.toNat u.toNat (tn.sv u.toNat r.toNat (cs.take mc)) i.toNat).length : Int) := by omega
    have od0 : 1 + ((br.sv r.toNat u.toNat (tn.sv u.toNat r.toNat (cs.take mc)) i.toNat).length : Int) ≤ 1000000000 := by omega
    have oe0 : ¬ (1 + ((br.sv r.toNat u.toNat (tn.sv u.toNat r.toNat (cs.take mc)) i.toNat).length : Int) < 0) := by omega
    simp only [h3, h4, z1, z2, z3, a1, a2, b1, b2, b5, b6, e1, e2, h1, h2, k0, k0a, k0b, k1, k2, k3, hc, oa0, ob0, oc0, od0, oe0, List.take_take, Nat.min_self, Nat.le_refl, List.take_length, marks_length, take_marks, one_neg, i0_1, i1_b, true_and, and_true, and_self, decide_true, decide_false, Bool.and_self, Bool.or_self, Bool.and_true, Bool.true_and, Bool.and_false, Bool.false_and, Bool.or_true, Bool.true_or, Bool.or_false, Bool.false_or, Bool.not_true, Bool.not_false, cond_true, cond_false, bne_self_eq_false, beq_self_eq_true, eq_self, bne_self_eq_false]
  · cases h
theorem ok : EntOk Try.prog ⟨4, R⟩ :=
  ent_okA mixed (A := (orcW [⟨18, markGameN.R⟩, ⟨23, markInt64S.R⟩] [⟨13, szGame.R⟩, ⟨15, toGame.R⟩, ⟨17, eqGameN.R⟩, ⟨20, sBestColumns.Rt⟩, ⟨21, iBestColumns.Rt⟩, ⟨22, eqInt64N.R⟩, ⟨24, heldInt64S.R⟩])) (orcW_ok (by simp only [List.mem_cons, List.not_mem_nil, or_false, forall_eq_or_imp, forall_eq]; exact ⟨markGameN.ok, markInt64S.ok⟩) (by simp only [List.mem_cons, List.not_mem_nil, or_false, forall_eq_or_imp, forall_eq]; exact ⟨szGame.ok, toGame.ok, eqGameN.ok, sBestColumns.okt, iBestColumns.okt, eqInt64N.ok, heldInt64S.ok⟩)) Try.func4 (by kernel_rfl) (by kernel_rfl) (n := 101) (ts := [4]) (hd := hd0) (dr := Dr.std) (cut := (some 0)) (by kernel_rfl) (by kernel_rfl) (by kernel_rfl) run
end FnExactBestColumnst

namespace FnExactBestColumnsf
def R : List AVal → Option (Bool × AVal × List Blk)
  | [.agg [.int .i64 u, .int .i64 r, .ro (.ints .i64 ws) mw 1, .ro (.ints .i64 cs) mc 1], .int .i64 i] => some (decide (mw ≤ ws.length ∧ mc ≤ cs.length ∧ mw ≤ 9223372036854775807 ∧ mc ≤ 9223372036854775807) && (decide ((1048576 : Int) - (mw : Int) < 0 ∨ (1048576 : Int) - (mw : Int) - (mc : Int) < 0) || !(gm.sp u r (ws.take mw) (cs.take mc) && (decide (0 ≤ i) && decide (i ≤ u - 1)))), .bool true, [])
  | _ => none
theorem go (u r : Int) (ws cs : List Int) (mw mc : Nat) (i : Int) :
  runFn Try.prog (orcW [⟨18, markGameN.R⟩, ⟨23, markInt64S.R⟩] [⟨13, szGame.R⟩, ⟨15, toGame.R⟩, ⟨17, eqGameN.R⟩, ⟨20, sBestColumns.Rf⟩, ⟨21, iBestColumns.Rf⟩, ⟨22, eqInt64N.R⟩, ⟨24, heldInt64S.R⟩]) hd0 Dr.std (some 0) 0 (bodyOf Try.f4) 101 [4] [.agg [.int .i64 u, .int .i64 r, .ro (.ints .i64 ws) mw 1, .ro (.ints .i64 cs) mc 1], .int .i64 i] []
  = (bif true && true && (true && true && (true && true && (true && true && true))) then bif decide (mw ≤ (9223372036854775807 : Nat) ∧ mc ≤ (9223372036854775807 : Nat) ∧ (0 : Int) ≤ (1048576 : Int) ∧ (1048576 : Int) ≤ (9223372036854775807 : Int)) && (true && (true && (true && (true && true))) && true || true && true) then bif decide ((bif decide ((1048576 : Int) - (↑mw : Int) < (0 : Int)) then (-1 : Int) else bif decide ((1048576 : Int) - (↑mw : Int) - (↑mc : Int) < (0 : Int)) then (-1 : Int) else (1048576 : Int) - (↑mw : Int) - (↑mc : Int)) < (0 : Int)) then some (AVal.bool true, []) else bif true && true && (true && true && (true && true && (true && true && true))) then bif decide (mw ≤ ws.length ∧ mw ≤ (1048576 : Nat) ∧ mc ≤ cs.length ∧ mc ≤ (1048576 : Nat)) && (true && (true && (true && (true && true))) && true || true && (true && (true && (true && true))) && (true && (true && true))) then bif decide (mw = (List.take mw ws).length ∧ mc = (List.take mc cs).length ∧ mw ≤ (4611686018427387904 : Nat) ∧ mc ≤ (4611686018427387904 : Nat)) && !(gm.sp u r (List.take mw ws) (List.take mc cs) && (decide ((0 : Int) ≤ i) && decide (i ≤ u - (1 : Int)))) && (true && (true && (false && (false && true))) && (true && true) || true && true) then bif true && true && (true && true && (true && true && (true && true && true))) then bif decide (mw ≤ ws.length ∧ mw ≤ (1048576 : Nat) ∧ mc ≤ cs.length ∧ mc ≤ (1048576 : Nat)) && (true && (true && (true && (true && true))) && true || true && (true && (true && (true && true))) && (true && (true && true))) then bif true && (true && (true && (true && (true && (true && true))))) then bif true && true && (true && true && (true && true && (true && true && true))) then bif decide (mw = (List.take mw ws).length ∧ mc = (List.take mc cs).length ∧ mw ≤ (4611686018427387904 : Nat) ∧ mc ≤ (4611686018427387904 : Nat)) && !(gm.sp u r (List.take mw ws) (List.take mc cs) && (decide ((0 : Int) ≤ i) && decide (i ≤ u - (1 : Int)))) && (true && (true && (false && (false && true))) && (true && true) || true && true) then bif true && true && (true && true && (true && true && (true && true && true))) then bif true && true && (true && true && (true && true && (true && true && true))) then bif decide (mw ≤ ws.length ∧ mw ≤ (1048576 : Nat) ∧ mc ≤ cs.length ∧ mc ≤ (1048576 : Nat)) && (true && (true && (true && (true && true))) && true || true && (true && (true && (true && true))) && (true && (true && true))) then bif decide (mw ≤ (List.take mw ws).length ∧ mw ≤ (List.take mw ws).length ∧ mw ≤ (4611686018427387904 : Nat) ∧ mc ≤ (List.take mc cs).length ∧ mc ≤ (List.take mc cs).length ∧ mc ≤ (4611686018427387904 : Nat)) && (true && (true && (false && (false && true))) && (true && (true && (false && (false && true))) && true) || true && true) then bif !(decide (u = u) && (decide (r = r) && (decide (List.take mw (List.take mw ws) = List.take mw (List.take mw ws)) && decide (List.take mc (List.take mc cs) = List.take mc (List.take mc cs))))) then some (AVal.bool false, []) else bif true && true && (true && true && (true && true && (true && true && true))) then bif decide (mw = (List.take mw ws).length ∧ mw ≤ (1048576 : Nat) ∧ mc = (List.take mc cs).length ∧ mc ≤ (1048576 : Nat) ∧ (0 : Int) ≤ (1 : Int) ∧ (1 : Int) ≤ (100000000 : Int)) && (true && (true && true) && (true && (true && true))) then bif decide ((1 : Int) + (↑mw : Int) + (↑mc : Int) < (0 : Int)) then some (AVal.bool false, []) else bif true && (true && true) then bif true && true && (true && true && (true && true && (true && true && true))) then bif decide (mw ≤ ws.length ∧ mw ≤ (1048576 : Nat) ∧ mc ≤ cs.length ∧ mc ≤ (1048576 : Nat)) && (true && (true && (true && (true && true))) && true || true && (true && (true && (true && true))) && (true && (true && true))) then bif decide (mw = (List.take mw ws).length ∧ mc = (List.take mc cs).length ∧ mw ≤ (4611686018427387904 : Nat) ∧ mc ≤ (4611686018427387904 : Nat)) && !(gm.sp u r (List.take mw ws) (List.take mc cs) && (decide ((0 : Int) ≤ i) && decide (i ≤ u - (1 : Int)))) && (true && (true && (false && (false && true))) && (true && true) || true && true) then some (AVal.bool true, []) else none else none else none else none else none else none else none else none else none else none else none else none else none else none else none else none else none else none else none else none) := by kernel_rfl
theorem run : ∀ args v new, R args = some (true, v, new) → ∃ fuel, runFn Try.prog (orcW [⟨18, markGameN.R⟩, ⟨23, markInt64S.R⟩] [⟨13, szGame.R⟩, ⟨15, toGame.R⟩, ⟨17, eqGameN.R⟩, ⟨20, sBestColumns.Rf⟩, ⟨21, iBestColumns.Rf⟩, ⟨22, eqInt64N.R⟩, ⟨24, heldInt64S.R⟩]) hd0 Dr.std (some 0) fuel (bodyOf Try.f4) 101 [4] args [] = some (v, new) := by
  intro args v new h
  unfold R at h
  split at h
  · rename_i u r ws mw cs mc i
    simp only [Option.some.injEq, Prod.mk.injEq, Bool.or_eq_true, Bool.and_eq_true, decide_eq_true_eq, Bool.not_eq_true'] at h
    obtain ⟨⟨⟨h1, h2, h3, h4⟩, hc⟩, rfl, rfl⟩ := h
    refine ⟨0, ?_⟩
    rw [go]
    have z1 : (0 : Int) ≤ 1048576 := by decide
    have z2 : (1048576 : Int) ≤ 9223372036854775807 := by decide
    have z3 : (-1 : Int) < 0 := by decide
    by_cases a1 : (1048576 : Int) - (mw : Int) < 0
    · simp only [a1, h3, h4, z1, z2, z3, List.take_take, Nat.min_self, Nat.le_refl, List.take_length, marks_length, take_marks, one_neg, i0_1, i1_b, true_and, and_true, and_self, decide_true, decide_false, Bool.and_self, Bool.or_self, Bool.and_true, Bool.true_and, Bool.and_false, Bool.false_and, Bool.or_true, Bool.true_or, Bool.or_false, Bool.false_or, Bool.not_true, Bool.not_false, cond_true, cond_false, bne_self_eq_false, beq_self_eq_true]
    by_cases a2 : (1048576 : Int) - (mw : Int) - (mc : Int) < 0
    · simp only [a1, a2, h3, h4, z1, z2, z3, List.take_take, Nat.min_self, Nat.le_refl, List.take_length, marks_length, take_marks, one_neg, i0_1, i1_b, true_and, and_true, and_self, decide_true, decide_false, Bool.and_self, Bool.or_self, Bool.and_true, Bool.true_and, Bool.and_false, Bool.false_and, Bool.or_true, Bool.true_or, Bool.or_false, Bool.false_or, Bool.not_true, Bool.not_false, cond_true, cond_false, bne_self_eq_false, beq_self_eq_true]
    rcases hc with hc | hc
    · exact absurd hc (by omega)
    have b1 : mw ≤ 1048576 := by omega
    have b2 : mc ≤ 1048576 := by omega
    have b5 : mw ≤ 4611686018427387904 := by omega
    have b6 : mc ≤ 4611686018427387904 := by omega
    have e1 : (ws.take mw).length = mw := by simp; omega
    have e2 : (cs.take mc).length = mc := by simp; omega
    have k0 : (1 : Int) ≤ 100000000 := by decide
    have k0b : (1 : Int) ≤ 1000000000 := by decide
    have k0a : (0 : Int) ≤ 1 := by decide
    have k1 : (0 : Int) ≤ 1 + (mw : Int) + (mc : Int) := by omega
    have k2 : 1 + (mw : Int) + (mc : Int) ≤ 1000000000 := by omega
    have k3 : ¬ (1 + (mw : Int) + (mc : Int) < 0) := by omega
    simp only [h3, h4, z1, z2, z3, a1, a2, b1, b2, b5, b6, e1, e2, h1, h2, k0, k0a, k0b, k1, k2, k3, hc, List.take_take, Nat.min_self, Nat.le_refl, List.take_length, marks_length, take_marks, one_neg, i0_1, i1_b, true_and, and_true, and_self, decide_true, decide_false, Bool.and_self, Bool.or_self, Bool.and_true, Bool.true_and, Bool.and_false, Bool.false_and, Bool.or_true, Bool.true_or, Bool.or_false, Bool.false_or, Bool.not_true, Bool.not_false, cond_true, cond_false, bne_self_eq_false, beq_self_eq_true, eq_self, bne_self_eq_false]
  · cases h
theorem ok : EntOk Try.prog ⟨4, R⟩ :=
  ent_okA mixed (A := (orcW [⟨18, markGameN.R⟩, ⟨23, markInt64S.R⟩] [⟨13, szGame.R⟩, ⟨15, toGame.R⟩, ⟨17, eqGameN.R⟩, ⟨20, sBestColumns.Rf⟩, ⟨21, iBestColumns.Rf⟩, ⟨22, eqInt64N.R⟩, ⟨24, heldInt64S.R⟩])) (orcW_ok (by simp only [List.mem_cons, List.not_mem_nil, or_false, forall_eq_or_imp, forall_eq]; exact ⟨markGameN.ok, markInt64S.ok⟩) (by simp only [List.mem_cons, List.not_mem_nil, or_false, forall_eq_or_imp, forall_eq]; exact ⟨szGame.ok, toGame.ok, eqGameN.ok, sBestColumns.okf, iBestColumns.okf, eqInt64N.ok, heldInt64S.ok⟩)) Try.func4 (by kernel_rfl) (by kernel_rfl) (n := 101) (ts := [4]) (hd := hd0) (dr := Dr.std) (cut := (some 0)) (by kernel_rfl) (by kernel_rfl) (by kernel_rfl) run
end FnExactBestColumnsf

namespace FnExactBestColumns
def R : List AVal → Option (Bool × AVal × List Blk)
  | [.agg [.int .i64 u, .int .i64 r, .ro (.ints .i64 ws) mw 1, .ro (.ints .i64 cs) mc 1], .int .i64 i] => some (decide (mw ≤ ws.length ∧ mc ≤ cs.length ∧ mw ≤ 9223372036854775807 ∧ mc ≤ 9223372036854775807), .bool true, [])
  | _ => none
theorem ok : EntOk Try.prog ⟨4, R⟩ := by
  refine EntOk.cases FnExactBestColumnst.ok FnExactBestColumnsf.ok fun args v new h => ?_
  unfold R at h
  split at h
  · rename_i u r ws mw cs mc i
    simp only [Option.some.injEq, Prod.mk.injEq, decide_eq_true_eq] at h
    obtain ⟨h, rfl, rfl⟩ := h
    simp only [FnExactBestColumnst.R, FnExactBestColumnsf.R, Option.some.injEq, Prod.mk.injEq, Bool.or_eq_true, Bool.and_eq_true, decide_eq_true_eq, Bool.not_eq_true', and_true]
    cases hc : (gm.sp u r (ws.take mw) (cs.take mc) && (decide (0 ≤ i) && decide (i ≤ u - 1)) : Bool)
    · exact .inr ⟨h, .inr (by first | rfl | exact hc | simpa only [Bool.and_eq_true, decide_eq_true_eq] using hc)⟩
    · exact .inl ⟨h, .inr (by first | rfl | exact hc | simpa only [Bool.and_eq_true, decide_eq_true_eq] using hc)⟩
  · cases h
end FnExactBestColumns

end Go.Proofs.Ytnakiceojcomlaa.Ab
