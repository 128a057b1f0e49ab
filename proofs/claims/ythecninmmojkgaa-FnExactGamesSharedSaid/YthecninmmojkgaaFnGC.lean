/-
  Functions: games in the laws.
-/
import Derived.Test.YthecninmmojkgaaFnGB
import Derived.Test.YthecninmmojkgaaFnE
namespace Go.Proofs.Ythecninmmojkgaa.Ab
open Go
set_option linter.unusedVariables false
set_option linter.unusedSimpArgs false
set_option maxRecDepth 100000

namespace szGame
def R : List AVal → Option (Bool × AVal × List Blk)
  | [.agg [.int .i64 u, .int .i64 r, .ro (.ints .i64 ws) mw 1, .ro (.ints .i64 cs) mc 1], .int .i64 l] => some (decide (mw ≤ 9223372036854775807 ∧ mc ≤ 9223372036854775807 ∧ 0 ≤ l ∧ l ≤ 9223372036854775807), .int .i64 (bif decide (l - mw < 0) then -1 else bif decide (l - mw - mc < 0) then -1 else l - mw - mc), [])
  | _ => none
theorem go (u r : Int) (ws cs : List Int) (mw mc : Nat) (l : Int) :
  runFn Try.prog (orc [⟨36, szInt64S.R⟩]) hd0 Dr.std (some 0) 0 (bodyOf Try.f28) 18 [4] [.agg [.int .i64 u, .int .i64 r, .ro (.ints .i64 ws) mw 1, .ro (.ints .i64 cs) mc 1], .int .i64 l] []
  = (bif true && true then bif decide (mw ≤ (9223372036854775807 : Nat) ∧ (0 : Int) ≤ l ∧ l ≤ (9223372036854775807 : Int)) && (true && (true && true) || true && true) then bif decide ((bif decide (l - (↑mw : Int) < (0 : Int)) then (-1 : Int) else l - (↑mw : Int)) < (0 : Int)) then some (AVal.int IntKind.i64 (-1 : Int), []) else bif true && true then bif decide (mc ≤ (9223372036854775807 : Nat) ∧ ((0 : Int) ≤ bif decide (l - (↑mw : Int) < (0 : Int)) then (-1 : Int) else l - (↑mw : Int)) ∧ (bif decide (l - (↑mw : Int) < (0 : Int)) then (-1 : Int) else l - (↑mw : Int)) ≤ (9223372036854775807 : Int)) && (true && (true && true) || true && true) then bif decide ((bif decide ((bif decide (l - (↑mw : Int) < (0 : Int)) then (-1 : Int) else l - (↑mw : Int)) - (↑mc : Int) < (0 : Int)) then (-1 : Int) else (bif decide (l - (↑mw : Int) < (0 : Int)) then (-1 : Int) else l - (↑mw : Int)) - (↑mc : Int)) < (0 : Int)) then some (AVal.int IntKind.i64 (-1 : Int), []) else some (AVal.int IntKind.i64 (bif decide ((bif decide (l - (↑mw : Int) < (0 : Int)) then (-1 : Int) else l - (↑mw : Int)) - (↑mc : Int) < (0 : Int)) then (-1 : Int) else (bif decide (l - (↑mw : Int) < (0 : Int)) then (-1 : Int) else l - (↑mw : Int)) - (↑mc : Int)), []) else none else none else none else none) := by kernel_rfl
theorem run : ∀ args v new, R args = some (true, v, new) → ∃ fuel, runFn Try.prog (orc [⟨36, szInt64S.R⟩]) hd0 Dr.std (some 0) fuel (bodyOf Try.f28) 18 [4] args [] = some (v, new) := by
  intro args v new h
  unfold R at h
  split at h
  · rename_i u r ws mw cs mc l
    simp only [Option.some.injEq, Prod.mk.injEq, decide_eq_true_eq] at h
    obtain ⟨⟨h1, h2, h3, h4⟩, rfl, rfl⟩ := h
    refine ⟨0, ?_⟩
    rw [go]
    by_cases a : l - (mw : Int) < 0
    · simp [a, h1, h3, h4]
    · have a' : 0 ≤ l - (mw : Int) := by omega
      have a3 : (mw : Int) ≤ l := by omega
      have a2 : l - (mw : Int) ≤ 9223372036854775807 := by omega
      by_cases b : l - (mw : Int) - (mc : Int) < 0
      · simp [a, a', a2, a3, b, h1, h2, h3, h4]
      · simp [a, a', a2, a3, b, h1, h2, h3, h4]
  · cases h
theorem ok : EntOk Try.prog ⟨28, R⟩ :=
  ent_okA mixed (A := (orc [⟨36, szInt64S.R⟩])) (orc_ok (by simp only [List.mem_cons, List.not_mem_nil, or_false, forall_eq_or_imp, forall_eq]; exact szInt64S.ok)) Try.func28 (by kernel_rfl) (by kernel_rfl) (n := 18) (ts := [4]) (hd := hd0) (dr := Dr.std) (cut := (some 0)) (by kernel_rfl) (by kernel_rfl) (by kernel_rfl) run
end szGame

namespace toGame
def R : List AVal → Option (Bool × AVal × List Blk)
  | [.agg [.int .i64 u, .int .i64 r, .ro (.ints .i64 ws) mw 1, .ro (.ints .i64 cs) mc 1]] => some (decide (mw ≤ ws.length ∧ mw ≤ 1048576 ∧ mc ≤ cs.length ∧ mc ≤ 1048576), .agg [.int .i64 u, .int .i64 r, .own 0 0 mw 0 1, .own 1 0 mc 0 1], [⟨.typ (.ints .i64 (ws.take mw)), 0⟩, ⟨.typ (.ints .i64 (cs.take mc)), 0⟩])
  | _ => none
theorem go (u r : Int) (ws cs : List Int) (mw mc : Nat) :
  regc [3, 4] (runFn Try.prog (orc [⟨39, toInt64S.R⟩]) hd0 Dr.std none 0 (bodyOf Try.f32) 19 [.cell 2 56] [.agg [.int .i64 u, .int .i64 r, .ro (.ints .i64 ws) mw 1, .ro (.ints .i64 cs) mc 1]] [])
  = (match bif true && true then bif true && (true && (true && decide ((0 : Nat) < (4 : Nat)) && true)) then bif true && true then bif true && (true && (true && decide ((1 : Nat) < (4 : Nat)) && true)) then bif true && true then bif decide (mw ≤ ws.length ∧ mw ≤ (1048576 : Nat)) && (true && true || true && (true && true)) then bif true && (true && (true && decide ((2 : Nat) < (3 : Nat) + (1 : Nat)) && true)) then bif true && true then bif decide (mc ≤ cs.length ∧ mc ≤ (1048576 : Nat)) && (true && true || true && (true && true)) then bif true && (true && (true && decide ((3 : Nat) < (2 : Nat) + (1 : Nat) + (1 : Nat)) && true)) then bif true && true && (true && true && (true && true && (true && true && true))) then bif true && (true && (true && decide ((0 : Nat) < (4 : Nat)) && (true && decide ((1 : Nat) < (4 : Nat)) && (true && decide ((2 : Nat) < (3 : Nat) + (1 : Nat)) && (true && decide ((3 : Nat) < (2 : Nat) + (1 : Nat) + (1 : Nat)) && true))))) then bif true && true && (true && true && (true && true && (true && true && true))) && true then some (AVal.agg [AVal.int IntKind.i64 u, AVal.int IntKind.i64 r, AVal.own ((1 : Nat) + (1 : Nat) + (1 : Nat) + (0 : Nat)) (0 : Nat) mw (0 : Nat) (1 : Nat), AVal.own ((1 : Nat) + (1 : Nat) + (1 : Nat) + (1 : Nat) + (0 : Nat)) (0 : Nat) mc (0 : Nat) (1 : Nat)], [{ c := BC.cells [AVal.int IntKind.i64 u, AVal.int IntKind.i64 r, AVal.ro (Cont.ints IntKind.i64 ws) mw (1 : Nat), AVal.ro (Cont.ints IntKind.i64 cs) mc (1 : Nat)], ver := (0 : Nat) }, { c := BC.cells [AVal.int IntKind.i64 u, AVal.int IntKind.i64 r, AVal.own ((1 : Nat) + (1 : Nat) + (1 : Nat) + (0 : Nat)) (0 : Nat) mw (0 : Nat) (1 : Nat), AVal.own ((1 : Nat) + (1 : Nat) + (1 : Nat) + (1 : Nat) + (0 : Nat)) (0 : Nat) mc (0 : Nat) (1 : Nat)], ver := (0 : Nat) }, { c := BC.cells [AVal.int IntKind.i64 u, AVal.int IntKind.i64 r, AVal.own ((1 : Nat) + (1 : Nat) + (1 : Nat) + (0 : Nat)) (0 : Nat) mw (0 : Nat) (1 : Nat), AVal.own ((1 : Nat) + (1 : Nat) + (1 : Nat) + (1 : Nat) + (0 : Nat)) (0 : Nat) mc (0 : Nat) (1 : Nat)], ver := (0 : Nat) }, { c := BC.typ (Cont.ints IntKind.i64 (List.take mw ws)), ver := (0 : Nat) }, { c := BC.typ (Cont.ints IntKind.i64 (List.take mc cs)), ver := (0 : Nat) }]) else none else none else none else none else none else none else none else none else none else none else none else none else none with
| some (v, h) =>
  bif true && (ltN (3 : Nat) (hlen h) && (ltN (4 : Nat) (hlen h) && true)) then
    some
      (AVal.re [(3 : Nat), (4 : Nat)] h v,
        match nth h (3 : Nat) with
        | some b => { c := BC.re [(3 : Nat), (4 : Nat)] h b.c, ver := b.ver } :: reB [(3 : Nat), (4 : Nat)] h [(4 : Nat)]
        | none => { c := BC.cells [], ver := (0 : Nat) } :: reB [(3 : Nat), (4 : Nat)] h [(4 : Nat)])
  else none
| none => none) := by kernel_rfl
theorem run : ∀ args v new, R args = some (true, v, new) → ∃ fuel, regc [3, 4] (runFn Try.prog (orc [⟨39, toInt64S.R⟩]) hd0 Dr.std none fuel (bodyOf Try.f32) 19 [.cell 2 56] args []) = some (v, new) := by
  intro args v new h
  unfold R at h
  split at h
  · simp only [Option.some.injEq, Prod.mk.injEq, decide_eq_true_eq] at h
    obtain ⟨⟨h1, h2, h3, h4⟩, rfl, rfl⟩ := h
    refine ⟨0, ?_⟩
    rw [go]
    simp only [h1, h2, h3, h4, and_self, decide_true, Bool.and_self, Bool.or_self, Bool.and_true, Bool.or_true, Bool.true_and, cond_true]
    rfl
  · cases h
theorem ok : EntOk Try.prog ⟨32, R⟩ :=
  ent_okAG (ks := [3, 4]) mixed (A := (orc [⟨39, toInt64S.R⟩])) (orc_ok (by simp only [List.mem_cons, List.not_mem_nil, or_false, forall_eq_or_imp, forall_eq]; exact toInt64S.ok)) Try.func32 (by kernel_rfl) (by kernel_rfl) (n := 19) (ts := [.cell 2 56]) (hd := hd0) (dr := Dr.std) (cut := none) (by kernel_rfl) (by kernel_rfl) (by kernel_rfl) run
end toGame

namespace eqGame
def R : List AVal → Option (Bool × AVal × List Blk)
  | [.agg [.int .i64 u, .int .i64 r, .ro (.ints .i64 ws) mw 1, .ro (.ints .i64 cs) mc 1], .agg [.int .i64 u', .int .i64 r', .ro (.ints .i64 ws') mw' 1, .ro (.ints .i64 cs') mc' 1]] => some (decide (mw ≤ ws.length ∧ mw' ≤ ws'.length ∧ mw ≤ 4611686018427387904 ∧ mc ≤ cs.length ∧ mc' ≤ cs'.length ∧ mc ≤ 4611686018427387904), .bool (decide (u = u') && (decide (r = r') && (decide (ws.take mw = ws'.take mw') && decide (cs.take mc = cs'.take mc')))), [])
  | _ => none
theorem go (u r : Int) (ws cs : List Int) (mw mc : Nat) (u' r' : Int) (ws' cs' : List Int) (mw' mc' : Nat) :
  runFn Try.prog (orc [⟨10, eqInt64S.R⟩]) hd0 Dr.std (some 0) 0 (bodyOf Try.f35) 27 [4] [.agg [.int .i64 u, .int .i64 r, .ro (.ints .i64 ws) mw 1, .ro (.ints .i64 cs) mc 1], .agg [.int .i64 u', .int .i64 r', .ro (.ints .i64 ws') mw' 1, .ro (.ints .i64 cs') mc' 1]] []
  = (bif true && true then bif true && true then bif u != u' then some (AVal.bool false, []) else bif true && true then bif true && true then bif r != r' then some (AVal.bool false, []) else bif true && true then bif true && true then bif decide (mw ≤ ws.length ∧ mw' ≤ ws'.length ∧ mw ≤ (4611686018427387904 : Nat)) && (true && (true && true) || true && true) then bif !decide (List.take mw ws = List.take mw' ws') then some (AVal.bool false, []) else bif true && true then bif true && true then bif decide (mc ≤ cs.length ∧ mc' ≤ cs'.length ∧ mc ≤ (4611686018427387904 : Nat)) && (true && (true && true) || true && true) then bif !decide (List.take mc cs = List.take mc' cs') then some (AVal.bool false, []) else some (AVal.bool true, []) else none else none else none else none else none else none else none else none else none else none) := by kernel_rfl
theorem run : ∀ args v new, R args = some (true, v, new) → ∃ fuel, runFn Try.prog (orc [⟨10, eqInt64S.R⟩]) hd0 Dr.std (some 0) fuel (bodyOf Try.f35) 27 [4] args [] = some (v, new) := by
  intro args v new h
  unfold R at h
  split at h
  · rename_i u r ws mw cs mc u' r' ws' mw' cs' mc'
    simp only [Option.some.injEq, Prod.mk.injEq, decide_eq_true_eq] at h
    obtain ⟨⟨h1, h2, h3, h4, h5, h6⟩, rfl, rfl⟩ := h
    refine ⟨0, ?_⟩
    rw [go]
    simp only [h1, h2, h3, h4, h5, h6, and_self, decide_true, decide_false, Bool.and_self, Bool.or_self, Bool.and_true, Bool.or_true, Bool.true_and, Bool.false_and, cond_true, cond_false]
    have b1 : ∀ a b : Int, (a != b) = !decide (a = b) := fun _ _ => rfl
    have b2 : ∀ a b : Int, (a == b) = decide (a = b) := fun _ _ => rfl
    simp only [b1, b2]
    cases decide (u = u') <;> cases decide (r = r') <;> cases decide (ws.take mw = ws'.take mw') <;> cases decide (cs.take mc = cs'.take mc') <;> rfl
  · cases h
theorem ok : EntOk Try.prog ⟨35, R⟩ :=
  ent_okA mixed (A := (orc [⟨10, eqInt64S.R⟩])) (orc_ok (by simp only [List.mem_cons, List.not_mem_nil, or_false, forall_eq_or_imp, forall_eq]; exact eqInt64S.ok)) Try.func35 (by kernel_rfl) (by kernel_rfl) (n := 27) (ts := [4]) (hd := hd0) (dr := Dr.std) (cut := (some 0)) (by kernel_rfl) (by kernel_rfl) (by kernel_rfl) run
end eqGame

namespace eqGameNil
def R : List AVal → Option (Bool × AVal × List Blk)
  | [.agg [.int .i64 u, .int .i64 r, .nils, .nils], .agg [.int .i64 u', .int .i64 r', .nils, .nils]] => some (decide (u = u' ∧ r = r'), .bool true, [])
  | _ => none
theorem go (u r u' r' : Int) :
  runFn Try.prog (orc [⟨10, eqNil.R⟩]) hd0 Dr.std (some 0) 0 (bodyOf Try.f35) 27 [4] [.agg [.int .i64 u, .int .i64 r, .nils, .nils], .agg [.int .i64 u', .int .i64 r', .nils, .nils]] []
  = (bif true && true then bif true && true then bif u != u' then some (AVal.bool false, []) else bif true && true then bif true && true then bif r != r' then some (AVal.bool false, []) else bif true && true then bif true && true then bif true && (true && true || true && true) then bif true && true then bif true && true then bif true && (true && true || true && true) then some (AVal.bool true, []) else none else none else none else none else none else none else none else none else none else none) := by kernel_rfl
theorem run : ∀ args v new, R args = some (true, v, new) → ∃ fuel, runFn Try.prog (orc [⟨10, eqNil.R⟩]) hd0 Dr.std (some 0) fuel (bodyOf Try.f35) 27 [4] args [] = some (v, new) := by
  intro args v new h
  unfold R at h
  split at h
  · rename_i u r u' r'
    simp only [Option.some.injEq, Prod.mk.injEq, decide_eq_true_eq] at h
    obtain ⟨⟨rfl, rfl⟩, rfl, rfl⟩ := h
    refine ⟨0, ?_⟩
    rw [go]
    simp only [bne_self_eq_false, and_self, decide_true, decide_false, Bool.and_self, Bool.or_self, Bool.and_true, Bool.or_true, Bool.true_and, Bool.false_and, cond_true, cond_false]
  · cases h
theorem ok : EntOk Try.prog ⟨35, R⟩ :=
  ent_okA mixed (A := (orc [⟨10, eqNil.R⟩])) (orc_ok (by simp only [List.mem_cons, List.not_mem_nil, or_false, forall_eq_or_imp, forall_eq]; exact eqNil.ok)) Try.func35 (by kernel_rfl) (by kernel_rfl) (n := 27) (ts := [4]) (hd := hd0) (dr := Dr.std) (cut := (some 0)) (by kernel_rfl) (by kernel_rfl) (by kernel_rfl) run
end eqGameNil

namespace eqGameN
def R := orR eqGame.R eqGameNil.R
theorem ok : EntOk Try.prog ⟨35, R⟩ := EntOk.orR eqGame.ok eqGameNil.ok
end eqGameN







end Go.Proofs.Ythecninmmojkgaa.Ab
