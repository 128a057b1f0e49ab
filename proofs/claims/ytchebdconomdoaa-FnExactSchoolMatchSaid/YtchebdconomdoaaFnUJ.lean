/-
  Functions: matches by asking, and with seats.
-/
import Derived.Test.YtchebdconomdoaaFnUI
import Derived.Test.YtchebdconomdoaaFnB
import Derived.Test.YtchebdconomdoaaFnC
namespace Go.Proofs.Ytchebdconomdoaa.Ab
open Go
set_option linter.unusedVariables false
set_option linter.unusedSimpArgs false
set_option maxRecDepth 100000

set_option maxRecDepth 100000
/-- Wishes are valid, and a list has seats. -/
def st.sp (ls rs : List (List Int)) (ss : List Int) : Bool := vw.sp ls rs && (decide ((ss.length : Int) = (ls.length : Int)) && ss.all (iw.sp 0 8))
theorem vw_len {ls rs : List (List Int)} (h : vw.sp ls rs = true) : rs.length = ls.length ∧ 1 ≤ ls.length ∧ ls.length ≤ 8 := by
  unfold vw.sp at h
  simp only [Bool.and_eq_true, decide_eq_true_eq] at h
  omega
namespace sAskMatch_t
def R : List AVal → Option (Bool × AVal × List Blk)
  | [.agg [.ro (.rows .i64 ls) m 1, .ro (.rows .i64 rs) k 1]] => some (decide (m = ls.length ∧ m ≤ 4611686018427387904 ∧ k = rs.length ∧ k ≤ 4611686018427387904 ∧ tot.sv ls ≤ 1000000000) && ((short.sp 4611686018427387904 ls && short.sp 4611686018427387904 rs) && vw.sp ls rs), .tup [.own 0 0 m 0 1, .int .i64 (ask.ct.sv ls rs (List.replicate m 1)), .bool true], [⟨.typ (.ints .i64 (ask.om.sv ls rs (List.replicate m 1))), 0⟩])
  | _ => none
theorem go (ls rs : List (List Int)) (m k : Nat) :
  regc [2] (runFn Try.prog (orc [⟨64, l05Is.R⟩, ⟨66, l05Ones.R⟩, ⟨65, l05Ask.R⟩]) hd0 Dr.std none 0 (bodyOf Try.f23) 19 [2, 3, 4] [.agg [.ro (.rows .i64 ls) m 1, .ro (.rows .i64 rs) k 1]] [])
  = (match bif decide (m = ls.length ∧ m ≤ (4611686018427387904 : Nat) ∧ k = rs.length ∧ k ≤ (4611686018427387904 : Nat)) && (short.sp (4611686018427387904 : Nat) ls && short.sp (4611686018427387904 : Nat) rs) && (false && true || true && true) then bif !vw.sp ls rs then some (AVal.tup [AVal.nils, AVal.int IntKind.i64 (0 : Int), AVal.bool false], [{ c := BC.cells [AVal.ro (Cont.rows IntKind.i64 ls) m (1 : Nat), AVal.ro (Cont.rows IntKind.i64 rs) k (1 : Nat)], ver := (0 : Nat) }]) else bif true && true then bif decide ((0 : Int) ≤ (↑m : Int) ∧ (↑m : Int) ≤ (1000 : Int)) && (true && true || true && (true && true)) then bif decide (m = ls.length ∧ k = rs.length ∧ (↑m : Int).toNat = (List.replicate (↑m : Int).toNat (1 : Int)).length ∧ (↑m : Int).toNat = m ∧ tot.sv ls ≤ (1000000000 : Nat)) && (vw.sp ls rs && (short.sp (4611686018427387904 : Nat) ls && short.sp (4611686018427387904 : Nat) rs)) && (false && (false && true) || true && (true && true) && (true && true)) then some (AVal.tup [AVal.own ((1 : Nat) + (1 : Nat) + (0 : Nat)) (0 : Nat) m (0 : Nat) (1 : Nat), AVal.int IntKind.i64 (ask.ct.sv ls rs (List.replicate (↑m : Int).toNat (1 : Int))), AVal.bool true], [{ c := BC.cells [AVal.ro (Cont.rows IntKind.i64 ls) m (1 : Nat), AVal.ro (Cont.rows IntKind.i64 rs) k (1 : Nat)], ver := (0 : Nat) }, { c := BC.typ (Cont.ints IntKind.i64 (List.replicate (↑m : Int).toNat (1 : Int))), ver := (0 : Nat) }, { c := BC.typ (Cont.ints IntKind.i64 (ask.om.sv ls rs (List.replicate (↑m : Int).toNat (1 : Int)))), ver := (0 : Nat) }]) else none else none else none else none with
| some (v, h) =>
  bif true && (ltN (2 : Nat) (hlen h) && true) then
    some
      (AVal.re [(2 : Nat)] h v,
        match nth h (2 : Nat) with
        | some b => { c := BC.re [(2 : Nat)] h b.c, ver := b.ver } :: reB [(2 : Nat)] h []
        | none => { c := BC.cells [], ver := (0 : Nat) } :: reB [(2 : Nat)] h [])
  else none
| none => none) := by kernel_rfl
theorem run : ∀ args v new, R args = some (true, v, new) → ∃ fuel, regc [2] (runFn Try.prog (orc [⟨64, l05Is.R⟩, ⟨66, l05Ones.R⟩, ⟨65, l05Ask.R⟩]) hd0 Dr.std none fuel (bodyOf Try.f23) 19 [2, 3, 4] args []) = some (v, new) := by
  intro args v new h
  unfold R at h
  split at h
  · rename_i ls m rs k
    simp only [Option.some.injEq, Prod.mk.injEq, Bool.and_eq_true, decide_eq_true_eq] at h
    obtain ⟨⟨⟨rfl, h1, rfl, h2, ht⟩, ⟨h3, h4⟩, hv⟩, rfl, rfl⟩ := h
    obtain ⟨l1, l2, l3⟩ := vw_len hv
    have a1 : (0 : Int) ≤ (ls.length : Int) := by omega
    have a2 : (ls.length : Int) ≤ 1000 := by omega
    have a3 : (List.replicate ls.length (1 : Int)).length = ls.length := List.length_replicate
    refine ⟨0, ?_⟩
    rw [go]
    simp -implicitDefEqProofs only [h1, h2, h3, h4, hv, ht, l2, l3, a1, a2, a3, Int.toNat_natCast, and_self, true_and, and_true, eq_self, and_self, decide_true, decide_false, Bool.and_self, Bool.or_self, Bool.and_true, Bool.true_and, Bool.and_false, Bool.false_and, Bool.or_true, Bool.true_or, Bool.or_false, Bool.false_or, Bool.not_true, Bool.not_false, cond_true, cond_false]
    try rfl
  · cases h
theorem ok : EntOk Try.prog ⟨23, R⟩ :=
  ent_okAG (ks := [2]) mixed (A := (orc [⟨64, l05Is.R⟩, ⟨66, l05Ones.R⟩, ⟨65, l05Ask.R⟩])) (orc_ok (by simp only [List.mem_cons, List.not_mem_nil, or_false, forall_eq_or_imp, forall_eq]; exact ⟨l05Is.ok, l05Ones.ok, l05Ask.ok⟩)) Try.func23 (by kernel_rfl) (by kernel_rfl) (n := 19) (ts := [2, 3, 4]) (hd := hd0) (dr := Dr.std) (cut := none) (by kernel_rfl) (by kernel_rfl) (by kernel_rfl) run
end sAskMatch_t

namespace sAskMatch_f
def R : List AVal → Option (Bool × AVal × List Blk)
  | [.agg [.ro (.rows .i64 ls) m 1, .ro (.rows .i64 rs) k 1]] => some (decide (m = ls.length ∧ m ≤ 4611686018427387904 ∧ k = rs.length ∧ k ≤ 4611686018427387904 ∧ tot.sv ls ≤ 1000000000) && ((short.sp 4611686018427387904 ls && short.sp 4611686018427387904 rs) && !vw.sp ls rs), .tup [.nils, .int .i64 0, .bool false], [])
  | _ => none
theorem go (ls rs : List (List Int)) (m k : Nat) :
  runFn Try.prog (orc [⟨64, l05Is.R⟩]) hd0 Dr.std (some 0) 0 (bodyOf Try.f23) 19 [2, 3, 4] [.agg [.ro (.rows .i64 ls) m 1, .ro (.rows .i64 rs) k 1]] []
  = (bif decide (m = ls.length ∧ m ≤ (4611686018427387904 : Nat) ∧ k = rs.length ∧ k ≤ (4611686018427387904 : Nat)) && (short.sp (4611686018427387904 : Nat) ls && short.sp (4611686018427387904 : Nat) rs) && (false && true || true && true) then bif !vw.sp ls rs then some (AVal.tup [AVal.nils, AVal.int IntKind.i64 (0 : Int), AVal.bool false], []) else bif true && true then none else none else none) := by kernel_rfl
theorem run : ∀ args v new, R args = some (true, v, new) → ∃ fuel, runFn Try.prog (orc [⟨64, l05Is.R⟩]) hd0 Dr.std (some 0) fuel (bodyOf Try.f23) 19 [2, 3, 4] args [] = some (v, new) := by
  intro args v new h
  unfold R at h
  split at h
  · rename_i ls m rs k
    simp only [Option.some.injEq, Prod.mk.injEq, Bool.and_eq_true, decide_eq_true_eq, Bool.not_eq_true'] at h
    obtain ⟨⟨⟨rfl, h1, rfl, h2, ht⟩, ⟨h3, h4⟩, hv⟩, rfl, rfl⟩ := h
    refine ⟨0, ?_⟩
    rw [go]
    simp -implicitDefEqProofs only [h1, h2, h3, h4, hv, ht, and_self, true_and, and_true, eq_self, and_self, decide_true, decide_false, Bool.and_self, Bool.or_self, Bool.and_true, Bool.true_and, Bool.and_false, Bool.false_and, Bool.or_true, Bool.true_or, Bool.or_false, Bool.false_or, Bool.not_true, Bool.not_false, cond_true, cond_false]
    try rfl
  · cases h
theorem ok : EntOk Try.prog ⟨23, R⟩ :=
  ent_okA mixed (A := (orc [⟨64, l05Is.R⟩])) (orc_ok (by simp only [List.mem_cons, List.not_mem_nil, or_false, forall_eq_or_imp, forall_eq]; exact l05Is.ok)) Try.func23 (by kernel_rfl) (by kernel_rfl) (n := 19) (ts := [2, 3, 4]) (hd := hd0) (dr := Dr.std) (cut := (some 0)) (by kernel_rfl) (by kernel_rfl) (by kernel_rfl) run
end sAskMatch_f

namespace sAskMatch
def Rt := sAskMatch_t.R
def Rf := sAskMatch_f.R
theorem okt : EntOk Try.prog ⟨23, Rt⟩ := sAskMatch_t.ok
theorem okf : EntOk Try.prog ⟨23, Rf⟩ := sAskMatch_f.ok
end sAskMatch

namespace iAskMatch_t
def R : List AVal → Option (Bool × AVal × List Blk)
  | [.agg [.ro (.rows .i64 ls) m 1, .ro (.rows .i64 rs) k 1]] => some (decide (m = ls.length ∧ m ≤ 4611686018427387904 ∧ k = rs.length ∧ k ≤ 4611686018427387904 ∧ tot.sv ls ≤ 1000000000) && ((short.sp 4611686018427387904 ls && short.sp 4611686018427387904 rs) && vw.sp ls rs), .tup [.own 0 0 m 0 1, .int .i64 (ask.ct.sv ls rs (List.replicate m 1)), .bool true], [⟨.typ (.ints .i64 (ask.om.sv ls rs (List.replicate m 1))), 0⟩])
  | _ => none
theorem go (ls rs : List (List Int)) (m k : Nat) :
  regc [2] (runFn Try.prog (orc [⟨67, iValidWishes.R⟩, ⟨69, iOnes.R⟩, ⟨68, iAsk.R⟩]) hd0 Dr.std none 0 (bodyOf Try.f25) 19 [2, 3, 4] [.agg [.ro (.rows .i64 ls) m 1, .ro (.rows .i64 rs) k 1]] [])
  = (match bif true && true && (true && true && true) then bif decide (m = ls.length ∧ m ≤ (4611686018427387904 : Nat) ∧ k = rs.length ∧ k ≤ (4611686018427387904 : Nat)) && (short.sp (4611686018427387904 : Nat) ls && short.sp (4611686018427387904 : Nat) rs) && (true && (true && true) && true || true && true) then bif !vw.sp ls rs then some (AVal.tup [AVal.nils, AVal.int IntKind.i64 (0 : Int), AVal.bool false], [{ c := BC.cells [AVal.ro (Cont.rows IntKind.i64 ls) m (1 : Nat), AVal.ro (Cont.rows IntKind.i64 rs) k (1 : Nat)], ver := (0 : Nat) }]) else bif true && true && (true && true && true) then bif true && true && (true && true && true) then bif decide ((1 : Nat) ≤ m ∧ m ≤ (8 : Nat)) && (true && (true && true) && true || true && (true && true)) then bif decide (m = ls.length ∧ k = rs.length ∧ m = (List.replicate m (1 : Int)).length ∧ m = m ∧ tot.sv ls ≤ (1000000000 : Nat)) && (vw.sp ls rs && (short.sp (4611686018427387904 : Nat) ls && short.sp (4611686018427387904 : Nat) rs)) && (true && (true && true) && (false && true) || true && (true && true) && (true && true)) then some (AVal.tup [AVal.own ((1 : Nat) + (1 : Nat) + (0 : Nat)) (0 : Nat) m (0 : Nat) (1 : Nat), AVal.int IntKind.i64 (ask.ct.sv ls rs (List.replicate m (1 : Int))), AVal.bool true], [{ c := BC.cells [AVal.ro (Cont.rows IntKind.i64 ls) m (1 : Nat), AVal.ro (Cont.rows IntKind.i64 rs) k (1 : Nat)], ver := (0 : Nat) }, { c := BC.typ (Cont.ints IntKind.i64 (List.replicate m (1 : Int))), ver := (0 : Nat) }, { c := BC.typ (Cont.ints IntKind.i64 (ask.om.sv ls rs (List.replicate m (1 : Int)))), ver := (0 : Nat) }]) else none else none else none else none else none else none with
| some (v, h) =>
  bif true && (ltN (2 : Nat) (hlen h) && true) then
    some
      (AVal.re [(2 : Nat)] h v,
        match nth h (2 : Nat) with
        | some b => { c := BC.re [(2 : Nat)] h b.c, ver := b.ver } :: reB [(2 : Nat)] h []
        | none => { c := BC.cells [], ver := (0 : Nat) } :: reB [(2 : Nat)] h [])
  else none
| none => none) := by kernel_rfl
theorem run : ∀ args v new, R args = some (true, v, new) → ∃ fuel, regc [2] (runFn Try.prog (orc [⟨67, iValidWishes.R⟩, ⟨69, iOnes.R⟩, ⟨68, iAsk.R⟩]) hd0 Dr.std none fuel (bodyOf Try.f25) 19 [2, 3, 4] args []) = some (v, new) := by
  intro args v new h
  unfold R at h
  split at h
  · rename_i ls m rs k
    simp only [Option.some.injEq, Prod.mk.injEq, Bool.and_eq_true, decide_eq_true_eq] at h
    obtain ⟨⟨⟨rfl, h1, rfl, h2, ht⟩, ⟨h3, h4⟩, hv⟩, rfl, rfl⟩ := h
    obtain ⟨l1, l2, l3⟩ := vw_len hv
    have a1 : (0 : Int) ≤ (ls.length : Int) := by omega
    have a2 : (ls.length : Int) ≤ 1000 := by omega
    have a3 : (List.replicate ls.length (1 : Int)).length = ls.length := List.length_replicate
    refine ⟨0, ?_⟩
    rw [go]
    simp -implicitDefEqProofs only [h1, h2, h3, h4, hv, ht, l2, l3, a1, a2, a3, Int.toNat_natCast, and_self, true_and, and_true, eq_self, and_self, decide_true, decide_false, Bool.and_self, Bool.or_self, Bool.and_true, Bool.true_and, Bool.and_false, Bool.false_and, Bool.or_true, Bool.true_or, Bool.or_false, Bool.false_or, Bool.not_true, Bool.not_false, cond_true, cond_false]
    try rfl
  · cases h
theorem ok : EntOk Try.prog ⟨25, R⟩ :=
  ent_okAG (ks := [2]) mixed (A := (orc [⟨67, iValidWishes.R⟩, ⟨69, iOnes.R⟩, ⟨68, iAsk.R⟩])) (orc_ok (by simp only [List.mem_cons, List.not_mem_nil, or_false, forall_eq_or_imp, forall_eq]; exact ⟨iValidWishes.ok, iOnes.ok, iAsk.ok⟩)) Try.func25 (by kernel_rfl) (by kernel_rfl) (n := 19) (ts := [2, 3, 4]) (hd := hd0) (dr := Dr.std) (cut := none) (by kernel_rfl) (by kernel_rfl) (by kernel_rfl) run
end iAskMatch_t

namespace iAskMatch_f
def R : List AVal → Option (Bool × AVal × List Blk)
  | [.agg [.ro (.rows .i64 ls) m 1, .ro (.rows .i64 rs) k 1]] => some (decide (m = ls.length ∧ m ≤ 4611686018427387904 ∧ k = rs.length ∧ k ≤ 4611686018427387904 ∧ tot.sv ls ≤ 1000000000) && ((short.sp 4611686018427387904 ls && short.sp 4611686018427387904 rs) && !vw.sp ls rs), .tup [.nils, .int .i64 0, .bool false], [])
  | _ => none
theorem go (ls rs : List (List Int)) (m k : Nat) :
  runFn Try.prog (orc [⟨67, iValidWishes.R⟩]) hd0 Dr.std (some 0) 0 (bodyOf Try.f25) 19 [2, 3, 4] [.agg [.ro (.rows .i64 ls) m 1, .ro (.rows .i64 rs) k 1]] []
  = (bif true && true && (true && true && true) then bif decide (m = ls.length ∧ m ≤ (4611686018427387904 : Nat) ∧ k = rs.length ∧ k ≤ (4611686018427387904 : Nat)) && (short.sp (4611686018427387904 : Nat) ls && short.sp (4611686018427387904 : Nat) rs) && (true && (true && true) && true || true && true) then bif !vw.sp ls rs then some (AVal.tup [AVal.nils, AVal.int IntKind.i64 (0 : Int), AVal.bool false], []) else bif true && true && (true && true && true) then bif true && true && (true && true && true) then none else none else none else none else none) := by kernel_rfl
theorem run : ∀ args v new, R args = some (true, v, new) → ∃ fuel, runFn Try.prog (orc [⟨67, iValidWishes.R⟩]) hd0 Dr.std (some 0) fuel (bodyOf Try.f25) 19 [2, 3, 4] args [] = some (v, new) := by
  intro args v new h
  unfold R at h
  split at h
  · rename_i ls m rs k
    simp only [Option.some.injEq, Prod.mk.injEq, Bool.and_eq_true, decide_eq_true_eq, Bool.not_eq_true'] at h
    obtain ⟨⟨⟨rfl, h1, rfl, h2, ht⟩, ⟨h3, h4⟩, hv⟩, rfl, rfl⟩ := h
    refine ⟨0, ?_⟩
    rw [go]
    simp -implicitDefEqProofs only [h1, h2, h3, h4, hv, ht, and_self, true_and, and_true, eq_self, and_self, decide_true, decide_false, Bool.and_self, Bool.or_self, Bool.and_true, Bool.true_and, Bool.and_false, Bool.false_and, Bool.or_true, Bool.true_or, Bool.or_false, Bool.false_or, Bool.not_true, Bool.not_false, cond_true, cond_false]
    try rfl
  · cases h
theorem ok : EntOk Try.prog ⟨25, R⟩ :=
  ent_okA mixed (A := (orc [⟨67, iValidWishes.R⟩])) (orc_ok (by simp only [List.mem_cons, List.not_mem_nil, or_false, forall_eq_or_imp, forall_eq]; exact iValidWishes.ok)) Try.func25 (by kernel_rfl) (by kernel_rfl) (n := 19) (ts := [2, 3, 4]) (hd := hd0) (dr := Dr.std) (cut := (some 0)) (by kernel_rfl) (by kernel_rfl) (by kernel_rfl) run
end iAskMatch_f

namespace iAskMatch
def Rt := iAskMatch_t.R
def Rf := iAskMatch_f.R
theorem okt : EntOk Try.prog ⟨25, Rt⟩ := iAskMatch_t.ok
theorem okf : EntOk Try.prog ⟨25, Rf⟩ := iAskMatch_f.ok
end iAskMatch

namespace l05Seats
def R : List AVal → Option (Bool × AVal × List Blk)
  | [.rom [.ro (.rows .i64 ls) m 1, .ro (.rows .i64 rs) k 1] 0, .ro (.ints .i64 ss) p 1] => some (decide (m = ls.length ∧ m ≤ 4611686018427387904 ∧ k = rs.length ∧ k ≤ 4611686018427387904 ∧ p = ss.length ∧ p ≤ 4611686018427387904) && (short.sp 4611686018427387904 ls && short.sp 4611686018427387904 rs), .bool (st.sp ls rs ss), [])
  | _ => none
def hd : Nat → Head := fun _ => ⟨[1, 4, 20, 21], none⟩
noncomputable def L (f n : Nat) (s : State) := loopAt Try.prog (orc [⟨64, l05Is.R⟩, ⟨72, l00In.R⟩]) hd Dr.std 0 f (bodyOf Try.f70) 0 [true, true, false, true] (retK Try.prog [4] 0 none) n s
theorem start (ls rs : List (List Int)) (ss : List Int) (m k p : Nat) (f : Nat) :
  runFn Try.prog (orc [⟨64, l05Is.R⟩, ⟨72, l00In.R⟩]) hd Dr.std none f (bodyOf Try.f70) 31 [4] [.rom [.ro (.rows .i64 ls) m 1, .ro (.rows .i64 rs) k 1] 0, .ro (.ints .i64 ss) p 1] []
  = (bif decide (m = ls.length ∧ m ≤ (4611686018427387904 : Nat) ∧ k = rs.length ∧ k ≤ (4611686018427387904 : Nat)) && (short.sp (4611686018427387904 : Nat) ls && short.sp (4611686018427387904 : Nat) rs) && (true && (true && true) && true || true && true) then bif !vw.sp ls rs then some (AVal.bool false, []) else bif (↑p : Int) != (↑k : Int) then some (AVal.bool false, []) else L f f (mkS (31 : Nat) [((1 : Nat), AVal.ro (Cont.ints IntKind.i64 ss) p (1 : Nat)), ((4 : Nat), AVal.bool false), ((20 : Nat), AVal.int IntKind.i64 (↑p : Int)), ((21 : Nat), AVal.int IntKind.i64 (0 : Int))] []) else none) := by kernel_rfl
theorem round (ss : List Int) (p i f n : Nat) :
  L f (n + 1) (mkS 31 [(1, .ro (.ints .i64 ss) p 1), (4, .bool false), (20, .int .i64 p), (21, .int .i64 i)] [])
  = (bif decide ((↑i : Int) < (↑p : Int)) then bif true && (decide ((0 : Int) ≤ (↑i : Int)) && decide ((↑i : Int) < (↑p : Int))) then bif decide ((↑i : Int).toNat < ss.length) then bif true && (true && true || true && true) then bif !(decide ((0 : Int) ≤ gz ss (↑i : Int).toNat) && decide (gz ss (↑i : Int).toNat ≤ (8 : Int))) then some (AVal.bool false, []) else L f n (mkS (31 : Nat) [((1 : Nat), AVal.ro (Cont.ints IntKind.i64 ss) p (1 : Nat)), ((4 : Nat), AVal.bool false), ((20 : Nat), AVal.int IntKind.i64 (↑p : Int)), ((21 : Nat), AVal.int IntKind.i64 (IntKind.i64.wrap ((↑i : Int) + (1 : Int))))] []) else none else none else none else some (AVal.bool true, [])) := by kernel_rfl
theorem loop (ss : List Int) (p : Nat) (f : Nat) (hm : p = ss.length) (hb : p ≤ 4611686018427387904) : ∀ (d i n : Nat) , i + d = p → d < n →
    L f n (mkS 31 [(1, .ro (.ints .i64 ss) p 1), (4, .bool false), (20, .int .i64 p), (21, .int .i64 i)] []) = some (.bool ((ss.drop i).all (iw.sp 0 8)), []) := by
  intro d
  induction d with
  | zero =>
    intro i n  hi hn 
    obtain ⟨n, rfl⟩ : ∃ k, n = k + 1 := ⟨n - 1, by omega⟩
    obtain rfl : i = p := by omega
    rw [round]
    have e : ss.drop i = [] := List.drop_of_length_le (by omega)
    simp -implicitDefEqProofs only [e, Int.lt_irrefl, List.all_nil, and_self, decide_true, decide_false, Bool.and_self, Bool.or_self, Bool.and_true, Bool.true_and, Bool.and_false, Bool.false_and, Bool.or_true, Bool.true_or, Bool.or_false, Bool.false_or, Bool.not_true, Bool.not_false, cond_true, cond_false]
  | succ d ih =>
    intro i n  hi hn 
    obtain ⟨n, rfl⟩ : ∃ k, n = k + 1 := ⟨n - 1, by omega⟩
    have h1 : i < p := by omega
    have h4 : (0 : Int) ≤ (i : Int) := Int.natCast_nonneg _
    have h5 : (i : Int) < (p : Int) := by omega
    have h2 : i < ss.length := by omega
    rw [round]
    have hr := ih (i + 1) n (by omega) (by omega)
    rw [List.drop_eq_getElem_cons h2, List.all_cons]
    have hh : (decide (0 ≤ ss[i]) && decide (ss[i] ≤ 8)) = iw.sp 0 8 ss[i] := rfl
    simp -implicitDefEqProofs only [h4, h5, h2, gz_eq h2, hh, Int.toNat_natCast, wrap_nat i (by omega), and_self, decide_true, decide_false, Bool.and_self, Bool.or_self, Bool.and_true, Bool.true_and, Bool.and_false, Bool.false_and, Bool.or_true, Bool.true_or, Bool.or_false, Bool.false_or, Bool.not_true, Bool.not_false, cond_true, cond_false]
    cases iw.sp 0 8 ss[i]
    · rfl
    · simpa only [Bool.not_true, cond_false, Bool.true_and] using hr
theorem run : ∀ args v new, R args = some (true, v, new) → ∃ fuel, runFn Try.prog (orc [⟨64, l05Is.R⟩, ⟨72, l00In.R⟩]) hd Dr.std none fuel (bodyOf Try.f70) 31 [4] args [] = some (v, new) := by
  intro args v new h
  unfold R at h
  split at h
  · rename_i ls m rs k ss p
    simp only [Option.some.injEq, Prod.mk.injEq, Bool.and_eq_true, decide_eq_true_eq] at h
    obtain ⟨⟨⟨h1, h2, h3, h4, h5, h6⟩, h7, h8⟩, rfl, rfl⟩ := h
    refine ⟨p + 1, ?_⟩
    rw [start]
    have hl := loop ss p (p + 1) h5 h6 p 0 (p + 1) (by omega) (by omega)
    rw [List.drop_zero] at hl
    subst h1 h3 h5
    have e : ∀ a b : Int, (a != b) = !decide (a = b) := fun _ _ => rfl
    simp -implicitDefEqProofs only [h2, h4, h7, h8, e, st.sp, and_self, decide_true, decide_false, Bool.and_self, Bool.or_self, Bool.and_true, Bool.true_and, Bool.and_false, Bool.false_and, Bool.or_true, Bool.true_or, Bool.or_false, Bool.false_or, Bool.not_true, Bool.not_false, cond_true, cond_false]
    rcases Bool.eq_false_or_eq_true (vw.sp ls rs) with hv | hv
    · obtain ⟨l1, _, _⟩ := vw_len hv
      rw [hv, l1]
      by_cases c : (ss.length : Int) = (ls.length : Int)
      · simp -implicitDefEqProofs only [c, and_self, decide_true, decide_false, Bool.and_self, Bool.or_self, Bool.and_true, Bool.true_and, Bool.and_false, Bool.false_and, Bool.or_true, Bool.true_or, Bool.or_false, Bool.false_or, Bool.not_true, Bool.not_false, cond_true, cond_false] at hl ⊢
        first | exact hl | (rw [c] at hl; exact hl)
      · simp -implicitDefEqProofs only [c, and_self, decide_true, decide_false, Bool.and_self, Bool.or_self, Bool.and_true, Bool.true_and, Bool.and_false, Bool.false_and, Bool.or_true, Bool.true_or, Bool.or_false, Bool.false_or, Bool.not_true, Bool.not_false, cond_true, cond_false]
    · simp -implicitDefEqProofs only [hv, and_self, decide_true, decide_false, Bool.and_self, Bool.or_self, Bool.and_true, Bool.true_and, Bool.and_false, Bool.false_and, Bool.or_true, Bool.true_or, Bool.or_false, Bool.false_or, Bool.not_true, Bool.not_false, cond_true, cond_false]
  · cases h
theorem ok : EntOk Try.prog ⟨70, R⟩ :=
  ent_okA mixed (A := (orc [⟨64, l05Is.R⟩, ⟨72, l00In.R⟩])) (orc_ok (by simp only [List.mem_cons, List.not_mem_nil, or_false, forall_eq_or_imp, forall_eq]; exact ⟨l05Is.ok, l00In.ok⟩)) Try.func70 (by kernel_rfl) (by kernel_rfl) (n := 31) (ts := [4]) (hd := hd) (dr := Dr.std) (cut := none) (by kernel_rfl) (by kernel_rfl) (by kernel_rfl) run
end l05Seats

namespace areSeats
def dr : Nat → Dr := fun i => bif eqN i 1 then ⟨some [0, 1, 2, 3, 4, 6, 5, 7, 8, 9, 10], false⟩ else ⟨none, false⟩
def R : List AVal → Option (Bool × AVal × List Blk)
  | [.agg [.ro (.rows .i64 ls) m 1, .ro (.rows .i64 rs) k 1], .ro (.ints .i64 ss) p 1] => some (decide (m = ls.length ∧ m ≤ 4611686018427387904 ∧ k = rs.length ∧ k ≤ 4611686018427387904 ∧ p = ss.length ∧ p ≤ 4611686018427387904) && (short.sp 4611686018427387904 ls && short.sp 4611686018427387904 rs), .bool (st.sp ls rs ss), [])
  | _ => none
theorem go (ls rs : List (List Int)) (ss : List Int) (m k p : Nat) :
  runFn Try.prog (orc [⟨67, iValidWishes.R⟩, ⟨105, iCount.R⟩, ⟨109, areMany.R⟩]) hd0 dr (some 0) 0 (bodyOf Try.f71) 15 [4] [.agg [.ro (.rows .i64 ls) m 1, .ro (.rows .i64 rs) k 1], .ro (.ints .i64 ss) p 1] []
  = (bif true && true && (true && true && true) then bif decide (m = ls.length ∧ m ≤ (4611686018427387904 : Nat) ∧ k = rs.length ∧ k ≤ (4611686018427387904 : Nat)) && (short.sp (4611686018427387904 : Nat) ls && short.sp (4611686018427387904 : Nat) rs) && (true && (true && true) && true || true && true) then bif vw.sp ls rs then bif true && true && (true && true && true) then bif true && true && (true && true && true) then bif true && (true && (true && true) && true || true && true) then bif true && (true && (true && true) && true || true && true) then bif decide (p ≤ ss.length ∧ p ≤ (4611686018427387904 : Nat)) && (true && (true && (true && true)) || true && true) then some (AVal.bool (decide ((↑m : Int) ≤ (↑p : Int)) && decide ((↑p : Int) ≤ (↑m : Int)) && (List.take p ss).all fun x => decide ((0 : Int) ≤ x) && decide (x ≤ (8 : Int))), []) else none else none else none else none else none else some (AVal.bool false, []) else none else none) := by kernel_rfl
theorem run : ∀ args v new, R args = some (true, v, new) → ∃ fuel, runFn Try.prog (orc [⟨67, iValidWishes.R⟩, ⟨105, iCount.R⟩, ⟨109, areMany.R⟩]) hd0 dr (some 0) fuel (bodyOf Try.f71) 15 [4] args [] = some (v, new) := by
  intro args v new h
  unfold R at h
  split at h
  · rename_i ls m rs k ss p
    simp only [Option.some.injEq, Prod.mk.injEq, Bool.and_eq_true, decide_eq_true_eq] at h
    obtain ⟨⟨⟨rfl, h2, rfl, h4, rfl, h6⟩, h7, h8⟩, rfl, rfl⟩ := h
    refine ⟨0, ?_⟩
    rw [go]
    have hh : (ss.all fun x => decide (0 ≤ x) && decide (x ≤ 8)) = ss.all (iw.sp 0 8) := rfl
    have hq : (decide ((ls.length : Int) ≤ (ss.length : Int)) && decide ((ss.length : Int) ≤ (ls.length : Int))) = decide ((ss.length : Int) = (ls.length : Int)) := by
      rw [Bool.eq_iff_iff]; simp only [Bool.and_eq_true, decide_eq_true_eq]; omega
    simp -implicitDefEqProofs only [h2, h4, h6, h7, h8, hh, hq, st.sp, List.take_length, Nat.le_refl, and_self, true_and, and_self, decide_true, decide_false, Bool.and_self, Bool.or_self, Bool.and_true, Bool.true_and, Bool.and_false, Bool.false_and, Bool.or_true, Bool.true_or, Bool.or_false, Bool.false_or, Bool.not_true, Bool.not_false, cond_true, cond_false]
    generalize decide ((ss.length : Int) = (ls.length : Int)) = b1
    generalize ss.all (iw.sp 0 8) = b2
    generalize vw.sp ls rs = b3
    cases b1 <;> cases b2 <;> cases b3 <;> rfl
  · cases h
theorem ok : EntOk Try.prog ⟨71, R⟩ :=
  ent_okA mixed (A := (orc [⟨67, iValidWishes.R⟩, ⟨105, iCount.R⟩, ⟨109, areMany.R⟩])) (orc_ok (by simp only [List.mem_cons, List.not_mem_nil, or_false, forall_eq_or_imp, forall_eq]; exact ⟨iValidWishes.ok, iCount.ok, areMany.ok⟩)) Try.func71 (by kernel_rfl) (by kernel_rfl) (n := 15) (ts := [4]) (hd := hd0) (dr := dr) (cut := (some 0)) (by kernel_rfl) (by kernel_rfl) (by kernel_rfl) run
end areSeats

namespace sSchoolMatch_t
def R : List AVal → Option (Bool × AVal × List Blk)
  | [.agg [.ro (.rows .i64 ls) m 1, .ro (.rows .i64 rs) k 1], .ro (.ints .i64 ss) p 1] => some (decide (m = ls.length ∧ m ≤ 4611686018427387904 ∧ k = rs.length ∧ k ≤ 4611686018427387904 ∧ p = ss.length ∧ p ≤ 4611686018427387904 ∧ tot.sv ls ≤ 1000000000) && ((short.sp 4611686018427387904 ls && short.sp 4611686018427387904 rs) && st.sp ls rs ss), .tup [.own 0 0 m 0 1, .bool true], [⟨.typ (.ints .i64 (ask.om.sv ls rs ss)), 0⟩])
  | _ => none
theorem go (ls rs : List (List Int)) (ss : List Int) (m k p : Nat) :
  regc [1] (runFn Try.prog (orc [⟨70, l05Seats.R⟩, ⟨65, l05Ask.R⟩]) hd0 Dr.std none 0 (bodyOf Try.f28) 17 [4, 5] [.agg [.ro (.rows .i64 ls) m 1, .ro (.rows .i64 rs) k 1], .ro (.ints .i64 ss) p 1] [])
  = (match bif decide (m = ls.length ∧ m ≤ (4611686018427387904 : Nat) ∧ k = rs.length ∧ k ≤ (4611686018427387904 : Nat) ∧ p = ss.length ∧ p ≤ (4611686018427387904 : Nat)) && (short.sp (4611686018427387904 : Nat) ls && short.sp (4611686018427387904 : Nat) rs) && (false && (true && true) || true && true) then bif !st.sp ls rs ss then some (AVal.tup [AVal.nils, AVal.bool false], [{ c := BC.cells [AVal.ro (Cont.rows IntKind.i64 ls) m (1 : Nat), AVal.ro (Cont.rows IntKind.i64 rs) k (1 : Nat)], ver := (0 : Nat) }]) else bif decide (m = ls.length ∧ k = rs.length ∧ p = ss.length ∧ p = m ∧ tot.sv ls ≤ (1000000000 : Nat)) && (vw.sp ls rs && (short.sp (4611686018427387904 : Nat) ls && short.sp (4611686018427387904 : Nat) rs)) && (false && (true && true) || true && (true && true) && (true && true)) then some (AVal.tup [AVal.own (1 : Nat) (0 : Nat) m (0 : Nat) (1 : Nat), AVal.bool true], [{ c := BC.cells [AVal.ro (Cont.rows IntKind.i64 ls) m (1 : Nat), AVal.ro (Cont.rows IntKind.i64 rs) k (1 : Nat)], ver := (0 : Nat) }, { c := BC.typ (Cont.ints IntKind.i64 (ask.om.sv ls rs ss)), ver := (0 : Nat) }]) else none else none with
| some (v, h) =>
  bif true && (ltN (1 : Nat) (hlen h) && true) then
    some
      (AVal.re [(1 : Nat)] h v,
        match nth h (1 : Nat) with
        | some b => { c := BC.re [(1 : Nat)] h b.c, ver := b.ver } :: reB [(1 : Nat)] h []
        | none => { c := BC.cells [], ver := (0 : Nat) } :: reB [(1 : Nat)] h [])
  else none
| none => none) := by kernel_rfl
theorem run : ∀ args v new, R args = some (true, v, new) → ∃ fuel, regc [1] (runFn Try.prog (orc [⟨70, l05Seats.R⟩, ⟨65, l05Ask.R⟩]) hd0 Dr.std none fuel (bodyOf Try.f28) 17 [4, 5] args []) = some (v, new) := by
  intro args v new h
  unfold R at h
  split at h
  · rename_i ls m rs k ss p
    simp only [Option.some.injEq, Prod.mk.injEq, Bool.and_eq_true, decide_eq_true_eq] at h
    obtain ⟨⟨⟨rfl, h1, rfl, h2, rfl, h6, ht⟩, ⟨h3, h4⟩, hs⟩, rfl, rfl⟩ := h
    have hs' := hs
    simp only [st.sp, Bool.and_eq_true, decide_eq_true_eq] at hs'
    obtain ⟨hv, hl, _⟩ := hs'
    have hl' : ss.length = ls.length := by omega
    refine ⟨0, ?_⟩
    rw [go]
    simp -implicitDefEqProofs only [h1, h2, h3, h4, h6, hv, hs, ht, hl', Int.toNat_natCast, and_self, true_and, and_true, eq_self, and_self, decide_true, decide_false, Bool.and_self, Bool.or_self, Bool.and_true, Bool.true_and, Bool.and_false, Bool.false_and, Bool.or_true, Bool.true_or, Bool.or_false, Bool.false_or, Bool.not_true, Bool.not_false, cond_true, cond_false]
    try rfl
  · cases h
theorem ok : EntOk Try.prog ⟨28, R⟩ :=
  ent_okAG (ks := [1]) mixed (A := (orc [⟨70, l05Seats.R⟩, ⟨65, l05Ask.R⟩])) (orc_ok (by simp only [List.mem_cons, List.not_mem_nil, or_false, forall_eq_or_imp, forall_eq]; exact ⟨l05Seats.ok, l05Ask.ok⟩)) Try.func28 (by kernel_rfl) (by kernel_rfl) (n := 17) (ts := [4, 5]) (hd := hd0) (dr := Dr.std) (cut := none) (by kernel_rfl) (by kernel_rfl) (by kernel_rfl) run
end sSchoolMatch_t

namespace sSchoolMatch_f
def R : List AVal → Option (Bool × AVal × List Blk)
  | [.agg [.ro (.rows .i64 ls) m 1, .ro (.rows .i64 rs) k 1], .ro (.ints .i64 ss) p 1] => some (decide (m = ls.length ∧ m ≤ 4611686018427387904 ∧ k = rs.length ∧ k ≤ 4611686018427387904 ∧ p = ss.length ∧ p ≤ 4611686018427387904 ∧ tot.sv ls ≤ 1000000000) && ((short.sp 4611686018427387904 ls && short.sp 4611686018427387904 rs) && !st.sp ls rs ss), .tup [.nils, .bool false], [])
  | _ => none
theorem go (ls rs : List (List Int)) (ss : List Int) (m k p : Nat) :
  runFn Try.prog (orc [⟨70, l05Seats.R⟩]) hd0 Dr.std (some 0) 0 (bodyOf Try.f28) 17 [4, 5] [.agg [.ro (.rows .i64 ls) m 1, .ro (.rows .i64 rs) k 1], .ro (.ints .i64 ss) p 1] []
  = (bif decide (m = ls.length ∧ m ≤ (4611686018427387904 : Nat) ∧ k = rs.length ∧ k ≤ (4611686018427387904 : Nat) ∧ p = ss.length ∧ p ≤ (4611686018427387904 : Nat)) && (short.sp (4611686018427387904 : Nat) ls && short.sp (4611686018427387904 : Nat) rs) && (false && (true && true) || true && true) then bif !st.sp ls rs ss then some (AVal.tup [AVal.nils, AVal.bool false], []) else none else none) := by kernel_rfl
theorem run : ∀ args v new, R args = some (true, v, new) → ∃ fuel, runFn Try.prog (orc [⟨70, l05Seats.R⟩]) hd0 Dr.std (some 0) fuel (bodyOf Try.f28) 17 [4, 5] args [] = some (v, new) := by
  intro args v new h
  unfold R at h
  split at h
  · rename_i ls m rs k ss p
    simp only [Option.some.injEq, Prod.mk.injEq, Bool.and_eq_true, decide_eq_true_eq, Bool.not_eq_true'] at h
    obtain ⟨⟨⟨rfl, h1, rfl, h2, rfl, h6, ht⟩, ⟨h3, h4⟩, hs⟩, rfl, rfl⟩ := h
    refine ⟨0, ?_⟩
    rw [go]
    simp -implicitDefEqProofs only [h1, h2, h3, h4, h6, hs, ht, and_self, true_and, and_true, eq_self, and_self, decide_true, decide_false, Bool.and_self, Bool.or_self, Bool.and_true, Bool.true_and, Bool.and_false, Bool.false_and, Bool.or_true, Bool.true_or, Bool.or_false, Bool.false_or, Bool.not_true, Bool.not_false, cond_true, cond_false]
    try rfl
  · cases h
theorem ok : EntOk Try.prog ⟨28, R⟩ :=
  ent_okA mixed (A := (orc [⟨70, l05Seats.R⟩])) (orc_ok (by simp only [List.mem_cons, List.not_mem_nil, or_false, forall_eq_or_imp, forall_eq]; exact l05Seats.ok)) Try.func28 (by kernel_rfl) (by kernel_rfl) (n := 17) (ts := [4, 5]) (hd := hd0) (dr := Dr.std) (cut := (some 0)) (by kernel_rfl) (by kernel_rfl) (by kernel_rfl) run
end sSchoolMatch_f

namespace sSchoolMatch
def Rt := sSchoolMatch_t.R
def Rf := sSchoolMatch_f.R
theorem okt : EntOk Try.prog ⟨28, Rt⟩ := sSchoolMatch_t.ok
theorem okf : EntOk Try.prog ⟨28, Rf⟩ := sSchoolMatch_f.ok
end sSchoolMatch

namespace iSchoolMatch_t
def R : List AVal → Option (Bool × AVal × List Blk)
  | [.agg [.ro (.rows .i64 ls) m 1, .ro (.rows .i64 rs) k 1], .ro (.ints .i64 ss) p 1] => some (decide (m = ls.length ∧ m ≤ 4611686018427387904 ∧ k = rs.length ∧ k ≤ 4611686018427387904 ∧ p = ss.length ∧ p ≤ 4611686018427387904 ∧ tot.sv ls ≤ 1000000000) && ((short.sp 4611686018427387904 ls && short.sp 4611686018427387904 rs) && st.sp ls rs ss), .tup [.own 0 0 m 0 1, .bool true], [⟨.typ (.ints .i64 (ask.om.sv ls rs ss)), 0⟩])
  | _ => none
theorem go (ls rs : List (List Int)) (ss : List Int) (m k p : Nat) :
  regc [1] (runFn Try.prog (orc [⟨71, areSeats.R⟩, ⟨68, iAsk.R⟩]) hd0 Dr.std none 0 (bodyOf Try.f30) 19 [4, 5] [.agg [.ro (.rows .i64 ls) m 1, .ro (.rows .i64 rs) k 1], .ro (.ints .i64 ss) p 1] [])
  = (match bif true && true && (true && true && true) then bif decide (m = ls.length ∧ m ≤ (4611686018427387904 : Nat) ∧ k = rs.length ∧ k ≤ (4611686018427387904 : Nat) ∧ p = ss.length ∧ p ≤ (4611686018427387904 : Nat)) && (short.sp (4611686018427387904 : Nat) ls && short.sp (4611686018427387904 : Nat) rs) && (true && (true && true) && (true && true) || true && true) then bif !st.sp ls rs ss then some (AVal.tup [AVal.nils, AVal.bool false], [{ c := BC.cells [AVal.ro (Cont.rows IntKind.i64 ls) m (1 : Nat), AVal.ro (Cont.rows IntKind.i64 rs) k (1 : Nat)], ver := (0 : Nat) }]) else bif true && true && (true && true && true) then bif decide (m = ls.length ∧ k = rs.length ∧ p = ss.length ∧ p = m ∧ tot.sv ls ≤ (1000000000 : Nat)) && (vw.sp ls rs && (short.sp (4611686018427387904 : Nat) ls && short.sp (4611686018427387904 : Nat) rs)) && (true && (true && true) && (true && true) || true && (true && true) && (true && true)) then some (AVal.tup [AVal.own (1 : Nat) (0 : Nat) m (0 : Nat) (1 : Nat), AVal.bool true], [{ c := BC.cells [AVal.ro (Cont.rows IntKind.i64 ls) m (1 : Nat), AVal.ro (Cont.rows IntKind.i64 rs) k (1 : Nat)], ver := (0 : Nat) }, { c := BC.typ (Cont.ints IntKind.i64 (ask.om.sv ls rs ss)), ver := (0 : Nat) }]) else none else none else none else none with
| some (v, h) =>
  bif true && (ltN (1 : Nat) (hlen h) && true) then
    some
      (AVal.re [(1 : Nat)] h v,
        match nth h (1 : Nat) with
        | some b => { c := BC.re [(1 : Nat)] h b.c, ver := b.ver } :: reB [(1 : Nat)] h []
        | none => { c := BC.cells [], ver := (0 : Nat) } :: reB [(1 : Nat)] h [])
  else none
| none => none) := by kernel_rfl
theorem run : ∀ args v new, R args = some (true, v, new) → ∃ fuel, regc [1] (runFn Try.prog (orc [⟨71, areSeats.R⟩, ⟨68, iAsk.R⟩]) hd0 Dr.std none fuel (bodyOf Try.f30) 19 [4, 5] args []) = some (v, new) := by
  intro args v new h
  unfold R at h
  split at h
  · rename_i ls m rs k ss p
    simp only [Option.some.injEq, Prod.mk.injEq, Bool.and_eq_true, decide_eq_true_eq] at h
    obtain ⟨⟨⟨rfl, h1, rfl, h2, rfl, h6, ht⟩, ⟨h3, h4⟩, hs⟩, rfl, rfl⟩ := h
    have hs' := hs
    simp only [st.sp, Bool.and_eq_true, decide_eq_true_eq] at hs'
    obtain ⟨hv, hl, _⟩ := hs'
    have hl' : ss.length = ls.length := by omega
    refine ⟨0, ?_⟩
    rw [go]
    simp -implicitDefEqProofs only [h1, h2, h3, h4, h6, hv, hs, ht, hl', Int.toNat_natCast, and_self, true_and, and_true, eq_self, and_self, decide_true, decide_false, Bool.and_self, Bool.or_self, Bool.and_true, Bool.true_and, Bool.and_false, Bool.false_and, Bool.or_true, Bool.true_or, Bool.or_false, Bool.false_or, Bool.not_true, Bool.not_false, cond_true, cond_false]
    try rfl
  · cases h
theorem ok : EntOk Try.prog ⟨30, R⟩ :=
  ent_okAG (ks := [1]) mixed (A := (orc [⟨71, areSeats.R⟩, ⟨68, iAsk.R⟩])) (orc_ok (by simp only [List.mem_cons, List.not_mem_nil, or_false, forall_eq_or_imp, forall_eq]; exact ⟨areSeats.ok, iAsk.ok⟩)) Try.func30 (by kernel_rfl) (by kernel_rfl) (n := 19) (ts := [4, 5]) (hd := hd0) (dr := Dr.std) (cut := none) (by kernel_rfl) (by kernel_rfl) (by kernel_rfl) run
end iSchoolMatch_t

namespace iSchoolMatch_f
def R : List AVal → Option (Bool × AVal × List Blk)
  | [.agg [.ro (.rows .i64 ls) m 1, .ro (.rows .i64 rs) k 1], .ro (.ints .i64 ss) p 1] => some (decide (m = ls.length ∧ m ≤ 4611686018427387904 ∧ k = rs.length ∧ k ≤ 4611686018427387904 ∧ p = ss.length ∧ p ≤ 4611686018427387904 ∧ tot.sv ls ≤ 1000000000) && ((short.sp 4611686018427387904 ls && short.sp 4611686018427387904 rs) && !st.sp ls rs ss), .tup [.nils, .bool false], [])
  | _ => none
theorem go (ls rs : List (List Int)) (ss : List Int) (m k p : Nat) :
  runFn Try.prog (orc [⟨71, areSeats.R⟩]) hd0 Dr.std (some 0) 0 (bodyOf Try.f30) 19 [4, 5] [.agg [.ro (.rows .i64 ls) m 1, .ro (.rows .i64 rs) k 1], .ro (.ints .i64 ss) p 1] []
  = (bif true && true && (true && true && true) then bif decide (m = ls.length ∧ m ≤ (4611686018427387904 : Nat) ∧ k = rs.length ∧ k ≤ (4611686018427387904 : Nat) ∧ p = ss.length ∧ p ≤ (4611686018427387904 : Nat)) && (short.sp (4611686018427387904 : Nat) ls && short.sp (4611686018427387904 : Nat) rs) && (true && (true && true) && (true && true) || true && true) then bif !st.sp ls rs ss then some (AVal.tup [AVal.nils, AVal.bool false], []) else bif true && true && (true && true && true) then none else none else none else none) := by kernel_rfl
theorem run : ∀ args v new, R args = some (true, v, new) → ∃ fuel, runFn Try.prog (orc [⟨71, areSeats.R⟩]) hd0 Dr.std (some 0) fuel (bodyOf Try.f30) 19 [4, 5] args [] = some (v, new) := by
  intro args v new h
  unfold R at h
  split at h
  · rename_i ls m rs k ss p
    simp only [Option.some.injEq, Prod.mk.injEq, Bool.and_eq_true, decide_eq_true_eq, Bool.not_eq_true'] at h
    obtain ⟨⟨⟨rfl, h1, rfl, h2, rfl, h6, ht⟩, ⟨h3, h4⟩, hs⟩, rfl, rfl⟩ := h
    refine ⟨0, ?_⟩
    rw [go]
    simp -implicitDefEqProofs only [h1, h2, h3, h4, h6, hs, ht, and_self, true_and, and_true, eq_self, and_self, decide_true, decide_false, Bool.and_self, Bool.or_self, Bool.and_true, Bool.true_and, Bool.and_false, Bool.false_and, Bool.or_true, Bool.true_or, Bool.or_false, Bool.false_or, Bool.not_true, Bool.not_false, cond_true, cond_false]
    try rfl
  · cases h
theorem ok : EntOk Try.prog ⟨30, R⟩ :=
  ent_okA mixed (A := (orc [⟨71, areSeats.R⟩])) (orc_ok (by simp only [List.mem_cons, List.not_mem_nil, or_false, forall_eq_or_imp, forall_eq]; exact areSeats.ok)) Try.func30 (by kernel_rfl) (by kernel_rfl) (n := 19) (ts := [4, 5]) (hd := hd0) (dr := Dr.std) (cut := (some 0)) (by kernel_rfl) (by kernel_rfl) (by kernel_rfl) run
end iSchoolMatch_f

namespace iSchoolMatch
def Rt := iSchoolMatch_t.R
def Rf := iSchoolMatch_f.R
theorem okt : EntOk Try.prog ⟨30, Rt⟩ := iSchoolMatch_t.ok
theorem okf : EntOk Try.prog ⟨30, Rf⟩ := iSchoolMatch_f.ok
end iSchoolMatch

end Go.Proofs.Ytchebdconomdoaa.Ab
