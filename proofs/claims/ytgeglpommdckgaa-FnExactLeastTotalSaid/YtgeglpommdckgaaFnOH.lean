/-
  Functions: the program's least total; the law.
-/
import Derived.Test.YtgeglpommdckgaaFnOG
import Derived.Test.YtgeglpommdckgaaFnS
import Derived.Test.YtgeglpommdckgaaFnC
namespace Go.Proofs.Ytgeglpommdckgaa.Ab
open Go
set_option linter.unusedVariables false
set_option linter.unusedSimpArgs false
set_option maxRecDepth 100000

namespace iLT_f1
def R : List AVal → Option (Bool × AVal × List Blk)
  | [.agg [.int .i64 u, .int .i64 r, .ro (.ints .i64 ws) mw 1, .ro (.ints .i64 cs) mc 1]] => some (decide (mw = ws.length ∧ mc = cs.length ∧ mw ≤ 4611686018427387904 ∧ mc ≤ 4611686018427387904) && !crowd.sp u r ws cs, .tup [.nils, .int .i64 0, .bool false], [])
  | _ => none
theorem go (u r : Int) (ws cs : List Int) :
  runFn Try.prog (orc [⟨51, iValidCrowd.R⟩]) hd0 Dr.std (some 0) 0 (bodyOf Try.f22) 18 [2, 3, 4] [.agg [.int .i64 u, .int .i64 r, .ro (.ints .i64 ws) ws.length 1, .ro (.ints .i64 cs) cs.length 1]] []
  = (bif true && true && (true && true && (true && true && (true && true && true))) then bif decide (ws.length ≤ ws.length ∧ ws.length ≤ (4611686018427387904 : Nat) ∧ cs.length ≤ cs.length ∧ cs.length ≤ (4611686018427387904 : Nat)) && (true && (true && (true && (true && true))) && true || true && true) then bif !crowd.sp u r (List.take ws.length ws) (List.take cs.length cs) then some (AVal.tup [AVal.nils, AVal.int IntKind.i64 (0 : Int), AVal.bool false], []) else bif true && true && (true && true && (true && true && (true && true && true))) then none else none else none else none) := by kernel_rfl
theorem run : ∀ args v new, R args = some (true, v, new) → ∃ fuel, runFn Try.prog (orc [⟨51, iValidCrowd.R⟩]) hd0 Dr.std (some 0) fuel (bodyOf Try.f22) 18 [2, 3, 4] args [] = some (v, new) := by
  intro args v new h
  unfold R at h
  split at h
  · rename_i u r ws mw cs mc
    simp only [Option.some.injEq, Prod.mk.injEq, Bool.and_eq_true, decide_eq_true_eq, Bool.not_eq_true'] at h
    obtain ⟨⟨⟨rfl, rfl, h3, h4⟩, hv⟩, rfl, rfl⟩ := h
    refine ⟨0, ?_⟩
    rw [go]
    simp -implicitDefEqProofs only [h3, h4, hv, List.take_length, Nat.le_refl, and_self, eq_self, decide_true, decide_false, Bool.and_self, Bool.or_self, Bool.and_true, Bool.true_and, Bool.and_false, Bool.false_and, Bool.or_true, Bool.true_or, Bool.or_false, Bool.false_or, Bool.not_true, Bool.not_false, cond_true, cond_false]
  · cases h
theorem ok : EntOk Try.prog ⟨22, R⟩ :=
  ent_okA mixed (A := (orc [⟨51, iValidCrowd.R⟩])) (orc_ok (by simp only [List.mem_cons, List.not_mem_nil, or_false, forall_eq_or_imp, forall_eq]; exact iValidCrowd.ok)) Try.func22 (by kernel_rfl) (by kernel_rfl) (n := 18) (ts := [2, 3, 4]) (hd := hd0) (dr := Dr.std) (cut := (some 0)) (by kernel_rfl) (by kernel_rfl) (by kernel_rfl) run
end iLT_f1

namespace iLT_f2
def R : List AVal → Option (Bool × AVal × List Blk)
  | [.agg [.int .i64 u, .int .i64 r, .ro (.ints .i64 ws) mw 1, .ro (.ints .i64 cs) mc 1]] => some (decide (mw = ws.length ∧ mc = cs.length ∧ mw ≤ 4611686018427387904 ∧ mc ≤ 4611686018427387904) && (crowd.sp u r ws cs && !od.few.sp u.toNat ws.length), .tup [.nils, .int .i64 0, .bool false], [])
  | _ => none
theorem go (u r : Int) (ws cs : List Int) :
  runFn Try.prog (orcW [⟨52, choices_f.R⟩] [⟨51, iValidCrowd.R⟩]) hd0 Dr.std (some 0) 0 (bodyOf Try.f22) 18 [2, 3, 4] [.agg [.int .i64 u, .int .i64 r, .ro (.ints .i64 ws) ws.length 1, .ro (.ints .i64 cs) cs.length 1]] []
  = (bif true && true && (true && true && (true && true && (true && true && true))) then bif decide (ws.length ≤ ws.length ∧ ws.length ≤ (4611686018427387904 : Nat) ∧ cs.length ≤ cs.length ∧ cs.length ≤ (4611686018427387904 : Nat)) && (true && (true && (true && (true && true))) && true || true && true) then bif !crowd.sp u r (List.take ws.length ws) (List.take cs.length cs) then some (AVal.tup [AVal.nils, AVal.int IntKind.i64 (0 : Int), AVal.bool false], []) else bif true && true && (true && true && (true && true && (true && true && true))) then bif decide (ws.length = ws.length ∧ cs.length = cs.length ∧ ws.length ≤ (4611686018427387904 : Nat) ∧ cs.length ≤ (4611686018427387904 : Nat) ∧ (53 : Nat) = (53 : FuncId) ∧ u = u ∧ r = r ∧ ws = ws ∧ cs = cs ∧ ws.length = ws.length ∧ cs.length = cs.length) && (crowd.sp u r ws cs && !od.few.sp u.toNat ws.length) && (true && (true && true)) then some (AVal.tup [AVal.nils, AVal.int IntKind.i64 (0 : Int), AVal.bool false], []) else none else none else none else none) := by kernel_rfl
theorem run : ∀ args v new, R args = some (true, v, new) → ∃ fuel, runFn Try.prog (orcW [⟨52, choices_f.R⟩] [⟨51, iValidCrowd.R⟩]) hd0 Dr.std (some 0) fuel (bodyOf Try.f22) 18 [2, 3, 4] args [] = some (v, new) := by
  intro args v new h
  unfold R at h
  split at h
  · rename_i u r ws mw cs mc
    simp only [Option.some.injEq, Prod.mk.injEq, Bool.and_eq_true, decide_eq_true_eq, Bool.not_eq_true'] at h
    obtain ⟨⟨⟨rfl, rfl, h3, h4⟩, hv, hf⟩, rfl, rfl⟩ := h
    refine ⟨0, ?_⟩
    rw [go]
    simp -implicitDefEqProofs only [h3, h4, hv, hf, List.take_length, Nat.le_refl, and_self, eq_self, decide_true, decide_false, Bool.and_self, Bool.or_self, Bool.and_true, Bool.true_and, Bool.and_false, Bool.false_and, Bool.or_true, Bool.true_or, Bool.or_false, Bool.false_or, Bool.not_true, Bool.not_false, cond_true, cond_false]
  · cases h
theorem ok : EntOk Try.prog ⟨22, R⟩ :=
  ent_okA mixed (A := (orcW [⟨52, choices_f.R⟩] [⟨51, iValidCrowd.R⟩])) (orcW_ok (by simp only [List.mem_cons, List.not_mem_nil, or_false, forall_eq_or_imp, forall_eq]; exact choices_f.ok) (by simp only [List.mem_cons, List.not_mem_nil, or_false, forall_eq_or_imp, forall_eq]; exact iValidCrowd.ok)) Try.func22 (by kernel_rfl) (by kernel_rfl) (n := 18) (ts := [2, 3, 4]) (hd := hd0) (dr := Dr.std) (cut := (some 0)) (by kernel_rfl) (by kernel_rfl) (by kernel_rfl) run
end iLT_f2

namespace iLeastTotal_t
def R : List AVal → Option (Bool × AVal × List Blk)
  | [.agg [.int .i64 u, .int .i64 r, .ro (.ints .i64 ws) mw 1, .ro (.ints .i64 cs) mc 1]] => some (decide (mw = ws.length ∧ mc = cs.length ∧ mw ≤ 4611686018427387904 ∧ mc ≤ 4611686018427387904) && od.ok.sp u r ws cs, .tup [.own 0 0 u.toNat 0 1, .int .i64 (od.M.sv u r ws cs), .bool true], [⟨.typ (.ints .i64 (od.B.sv u r ws cs)), 0⟩])
  | _ => none
theorem go (u r : Int) (ws cs : List Int) :
  regc [5] (runFn Try.prog (orcW [⟨52, choices_t.R⟩] [⟨51, iValidCrowd.R⟩]) hd0 Dr.std none 0 (bodyOf Try.f22) 18 [2, 3, 4] [.agg [.int .i64 u, .int .i64 r, .ro (.ints .i64 ws) ws.length 1, .ro (.ints .i64 cs) cs.length 1]] [])
  = (match bif true && true && (true && true && (true && true && (true && true && true))) then bif decide (ws.length ≤ ws.length ∧ ws.length ≤ (4611686018427387904 : Nat) ∧ cs.length ≤ cs.length ∧ cs.length ≤ (4611686018427387904 : Nat)) && (true && (true && (true && (true && true))) && true || true && true) then bif !crowd.sp u r (List.take ws.length ws) (List.take cs.length cs) then some (AVal.tup [AVal.nils, AVal.int IntKind.i64 (0 : Int), AVal.bool false], [{ c := BC.cells [AVal.int IntKind.i64 u, AVal.int IntKind.i64 r, AVal.ro (Cont.ints IntKind.i64 ws) ws.length (1 : Nat), AVal.ro (Cont.ints IntKind.i64 cs) cs.length (1 : Nat)], ver := (0 : Nat) }, { c := BC.cells [AVal.nils], ver := (0 : Nat) }, { c := BC.cells [AVal.int IntKind.i64 (0 : Int)], ver := (0 : Nat) }]) else bif true && true && (true && true && (true && true && (true && true && true))) then bif decide (ws.length = ws.length ∧ cs.length = cs.length ∧ ws.length ≤ (4611686018427387904 : Nat) ∧ cs.length ≤ (4611686018427387904 : Nat) ∧ (53 : Nat) = (53 : FuncId) ∧ u = u ∧ r = r ∧ ws = ws ∧ cs = cs ∧ ws.length = ws.length ∧ cs.length = cs.length) && od.ok.sp u r ws cs && (true && (true && true)) then bif true && true then bif true && true then some (AVal.tup [AVal.own ((3 : Nat) + (2 : Nat)) (0 : Nat) u.toNat (0 : Nat) (1 : Nat), AVal.int IntKind.i64 (od.M.sv u r ws cs), AVal.bool true], [{ c := BC.cells [AVal.int IntKind.i64 u, AVal.int IntKind.i64 r, AVal.ro (Cont.ints IntKind.i64 ws) ws.length (1 : Nat), AVal.ro (Cont.ints IntKind.i64 cs) cs.length (1 : Nat)], ver := (0 : Nat) }, { c := BC.cells [AVal.own ((3 : Nat) + (2 : Nat)) (0 : Nat) u.toNat (0 : Nat) (1 : Nat)], ver := (0 : Nat) }, { c := BC.cells [AVal.int IntKind.i64 (od.M.sv u r ws cs)], ver := (0 : Nat) }, { c := BC.cells [AVal.int IntKind.i64 u, AVal.int IntKind.i64 r, AVal.ro (Cont.ints IntKind.i64 ws) ws.length (1 : Nat), AVal.ro (Cont.ints IntKind.i64 cs) cs.length (1 : Nat)], ver := (0 : Nat) }, { c := BC.typ (Cont.ints IntKind.i64 (List.replicate u.toNat (0 : Int))), ver := (0 : Nat) }, { c := BC.typ (Cont.ints IntKind.i64 (od.B.sv u r ws cs)), ver := (0 : Nat) }]) else none else none else none else none else none else none with
| some (v, h) =>
  bif true && (ltN (5 : Nat) (hlen h) && true) then
    some
      (AVal.re [(5 : Nat)] h v,
        match nth h (5 : Nat) with
        | some b => { c := BC.re [(5 : Nat)] h b.c, ver := b.ver } :: reB [(5 : Nat)] h []
        | none => { c := BC.cells [], ver := (0 : Nat) } :: reB [(5 : Nat)] h [])
  else none
| none => none) := by kernel_rfl
theorem run : ∀ args v new, R args = some (true, v, new) → ∃ fuel, regc [5] (runFn Try.prog (orcW [⟨52, choices_t.R⟩] [⟨51, iValidCrowd.R⟩]) hd0 Dr.std none fuel (bodyOf Try.f22) 18 [2, 3, 4] args []) = some (v, new) := by
  intro args v new h
  unfold R at h
  split at h
  · rename_i u r ws mw cs mc
    simp only [Option.some.injEq, Prod.mk.injEq, Bool.and_eq_true, decide_eq_true_eq, Bool.not_eq_true'] at h
    obtain ⟨⟨⟨rfl, rfl, h3, h4⟩, hok⟩, rfl, rfl⟩ := h
    have hok2 := hok
    simp only [od.ok.sp, Bool.and_eq_true] at hok2
    obtain ⟨hv, hf⟩ := hok2
    refine ⟨0, ?_⟩
    rw [go]
    simp -implicitDefEqProofs only [h3, h4, hv, hf, hok, List.take_length, Nat.le_refl, and_self, eq_self, decide_true, decide_false, Bool.and_self, Bool.or_self, Bool.and_true, Bool.true_and, Bool.and_false, Bool.false_and, Bool.or_true, Bool.true_or, Bool.or_false, Bool.false_or, Bool.not_true, Bool.not_false, cond_true, cond_false]
    rfl
  · cases h
theorem ok : EntOk Try.prog ⟨22, R⟩ :=
  ent_okAG (ks := [5]) mixed (A := (orcW [⟨52, choices_t.R⟩] [⟨51, iValidCrowd.R⟩])) (orcW_ok (by simp only [List.mem_cons, List.not_mem_nil, or_false, forall_eq_or_imp, forall_eq]; exact choices_t.ok) (by simp only [List.mem_cons, List.not_mem_nil, or_false, forall_eq_or_imp, forall_eq]; exact iValidCrowd.ok)) Try.func22 (by kernel_rfl) (by kernel_rfl) (n := 18) (ts := [2, 3, 4]) (hd := hd0) (dr := Dr.std) (cut := none) (by kernel_rfl) (by kernel_rfl) (by kernel_rfl) run
end iLeastTotal_t

namespace iLeastTotal_f
def R : List AVal → Option (Bool × AVal × List Blk)
  | [.agg [.int .i64 u, .int .i64 r, .ro (.ints .i64 ws) mw 1, .ro (.ints .i64 cs) mc 1]] => some (decide (mw = ws.length ∧ mc = cs.length ∧ mw ≤ 4611686018427387904 ∧ mc ≤ 4611686018427387904) && !od.ok.sp u r ws cs, .tup [.nils, .int .i64 0, .bool false], [])
  | _ => none
theorem ok : EntOk Try.prog ⟨22, R⟩ := by
  refine EntOk.cases iLT_f1.ok iLT_f2.ok fun args v new h => ?_
  unfold R at h
  split at h
  · rename_i u r ws mw cs mc
    simp only [Option.some.injEq, Prod.mk.injEq, Bool.and_eq_true, decide_eq_true_eq, Bool.not_eq_true'] at h
    obtain ⟨⟨h, hok⟩, rfl, rfl⟩ := h
    simp only [od.ok.sp] at hok
    simp only [iLT_f1.R, iLT_f2.R, Option.some.injEq, Prod.mk.injEq, Bool.and_eq_true, decide_eq_true_eq, Bool.not_eq_true', and_true]
    cases hv : crowd.sp u r ws cs
    · exact .inl ⟨h, rfl⟩
    · rw [hv, Bool.true_and] at hok
      exact .inr ⟨h, rfl, hok⟩
  · cases h
end iLeastTotal_f

namespace iLeastTotal
def Rt := iLeastTotal_t.R
def Rf := iLeastTotal_f.R
theorem okt : EntOk Try.prog ⟨22, Rt⟩ := iLeastTotal_t.ok
theorem okf : EntOk Try.prog ⟨22, Rf⟩ := iLeastTotal_f.ok
end iLeastTotal

end Go.Proofs.Ytgeglpommdckgaa.Ab
