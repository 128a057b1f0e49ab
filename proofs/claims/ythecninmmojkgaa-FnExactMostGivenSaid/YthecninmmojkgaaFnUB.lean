/-
  Functions: wishes in the laws (copies, marks, sizes).
-/
import Derived.Test.YthecninmmojkgaaFnUA
namespace Go.Proofs.Ythecninmmojkgaa.Ab
open Go
set_option linter.unusedVariables false
set_option linter.unusedSimpArgs false
set_option maxRecDepth 100000

set_option maxRecDepth 100000
/-- What is left behind a list of lists. -/
def szs.sv (xs : List (List Int)) (l : Int) : Int := bif decide (l - (xs.length : Int) < 0) then -1 else szrows.sq xs (l - (xs.length : Int))
def sw.sv (ls rs : List (List Int)) (l : Int) : Int := bif decide (szs.sv ls l < 0) then -1 else bif decide (szs.sv rs (szs.sv ls l) < 0) then -1 else szs.sv rs (szs.sv ls l)
theorem szrows_le : ∀ (xs : List (List Int)) (l : Int), 0 ≤ l → szrows.sq xs l ≤ l ∧ (0 ≤ szrows.sq xs l → (tot.sv xs : Int) ≤ l ∧ szrows.sq xs l ≤ l - (tot.sv xs : Int)) := by
  intro xs
  induction xs with
  | nil => intro l h; simp [szrows.sq, tot.sv, h]
  | cons x t ih =>
    intro l h
    simp only [szrows.sq]
    by_cases c : l - (x.length : Int) < 0
    · simp only [c, decide_true, cond_true]; omega
    · simp only [c, decide_false, cond_false]
      obtain ⟨h1, h2⟩ := ih (l - (x.length : Int)) (by omega)
      have e : (tot.sv (x :: t) : Int) = (x.length : Int) + (tot.sv t : Int) := by simp [tot.sv]
      refine ⟨by omega, fun h3 => ?_⟩
      have := h2 h3
      omega
theorem szs_ok {xs : List (List Int)} {l : Int} (h : 0 ≤ szs.sv xs l) (hl : 0 ≤ l) : (xs.length : Int) + (tot.sv xs : Int) ≤ l ∧ szs.sv xs l ≤ l - (tot.sv xs : Int) - (xs.length : Int) ∧ ∀ r ∈ xs, (r.length : Int) ≤ l := by
  unfold szs.sv at h ⊢
  by_cases c : l - (xs.length : Int) < 0
  · simp [c] at h
  · simp only [c, decide_false, cond_false] at h ⊢
    obtain ⟨h1, h2⟩ := szrows_le xs _ (by omega : 0 ≤ l - (xs.length : Int))
    have := h2 h
    refine ⟨by omega, by omega, fun r hr => ?_⟩
    have := szrows_short xs _ h r hr
    omega
theorem szs_lt {xs : List (List Int)} {l : Int} (hl : 0 ≤ l) : szs.sv xs l ≤ l := by
  unfold szs.sv
  by_cases c : l - (xs.length : Int) < 0
  · simp only [c, decide_true, cond_true]; omega
  · simp only [c, decide_false, cond_false]
    have := (szrows_le xs _ (by omega : 0 ≤ l - (xs.length : Int))).1
    omega
theorem short_of {b : Nat} {xs : List (List Int)} (h : ∀ r ∈ xs, (r.length : Int) ≤ (b : Int)) : short.sp b xs = true := by
  simp only [short.sp, List.all_eq_true, decide_eq_true_eq]
  intro r hr
  have := h r hr
  omega

namespace szWishes
def R : List AVal → Option (Bool × AVal × List Blk)
  | [.agg [.ro (.rows .i64 ls) m 1, .ro (.rows .i64 rs) k 1], .int .i64 l] => some (decide (m = ls.length ∧ m ≤ 9223372036854775807 ∧ k = rs.length ∧ k ≤ 9223372036854775807 ∧ 0 ≤ l ∧ l ≤ 4611686018427387904) && (short.sp 9223372036854775807 ls && short.sp 9223372036854775807 rs), .int .i64 (sw.sv ls rs l), [])
  | _ => none
theorem go (ls rs : List (List Int)) (m k : Nat) (l : Int) :
  runFn Try.prog (orc [⟨15, szInt64SS.R⟩]) hd0 Dr.std (some 0) 0 (bodyOf Try.f42) 18 [4] [.agg [.ro (.rows .i64 ls) m 1, .ro (.rows .i64 rs) k 1], .int .i64 l] []
  = (bif true && true then bif decide (m ≤ ls.length ∧ m ≤ (9223372036854775807 : Nat) ∧ (0 : Int) ≤ l ∧ l ≤ (4611686018427387904 : Int)) && short.sp (9223372036854775807 : Nat) ls && (true && (true && true) || true && true) then bif decide ((bif decide (l - (↑m : Int) < (0 : Int)) then (-1 : Int) else szrows.sq (List.take m ls) (l - (↑m : Int))) < (0 : Int)) then some (AVal.int IntKind.i64 (-1 : Int), []) else bif true && true then bif decide (k ≤ rs.length ∧ k ≤ (9223372036854775807 : Nat) ∧ ((0 : Int) ≤ bif decide (l - (↑m : Int) < (0 : Int)) then (-1 : Int) else szrows.sq (List.take m ls) (l - (↑m : Int))) ∧ (bif decide (l - (↑m : Int) < (0 : Int)) then (-1 : Int) else szrows.sq (List.take m ls) (l - (↑m : Int))) ≤ (4611686018427387904 : Int)) && short.sp (9223372036854775807 : Nat) rs && (true && (true && true) || true && true) then bif decide ((bif decide ((bif decide (l - (↑m : Int) < (0 : Int)) then (-1 : Int) else szrows.sq (List.take m ls) (l - (↑m : Int))) - (↑k : Int) < (0 : Int)) then (-1 : Int) else szrows.sq (List.take k rs) ((bif decide (l - (↑m : Int) < (0 : Int)) then (-1 : Int) else szrows.sq (List.take m ls) (l - (↑m : Int))) - (↑k : Int))) < (0 : Int)) then some (AVal.int IntKind.i64 (-1 : Int), []) else some (AVal.int IntKind.i64 (bif decide ((bif decide (l - (↑m : Int) < (0 : Int)) then (-1 : Int) else szrows.sq (List.take m ls) (l - (↑m : Int))) - (↑k : Int) < (0 : Int)) then (-1 : Int) else szrows.sq (List.take k rs) ((bif decide (l - (↑m : Int) < (0 : Int)) then (-1 : Int) else szrows.sq (List.take m ls) (l - (↑m : Int))) - (↑k : Int))), []) else none else none else none else none) := by kernel_rfl
theorem run : ∀ args v new, R args = some (true, v, new) → ∃ fuel, runFn Try.prog (orc [⟨15, szInt64SS.R⟩]) hd0 Dr.std (some 0) fuel (bodyOf Try.f42) 18 [4] args [] = some (v, new) := by
  intro args v new h
  unfold R at h
  split at h
  · rename_i ls m rs k l
    simp only [Option.some.injEq, Prod.mk.injEq, Bool.and_eq_true, decide_eq_true_eq] at h
    obtain ⟨⟨⟨rfl, h1, rfl, h2, h3, h4⟩, h5, h6⟩, rfl, rfl⟩ := h
    refine ⟨0, ?_⟩
    rw [go]
    have el : (bif decide (l - (ls.length : Int) < 0) then (-1 : Int) else szrows.sq (ls.take ls.length) (l - (ls.length : Int))) = szs.sv ls l := by rw [List.take_length]; rfl
    have q1 := szs_lt (xs := ls) h3
    have q2 : szs.sv ls l ≤ 4611686018427387904 := by omega
    have er : (bif decide (szs.sv ls l - (rs.length : Int) < 0) then (-1 : Int) else szrows.sq (rs.take rs.length) (szs.sv ls l - (rs.length : Int))) = szs.sv rs (szs.sv ls l) := by rw [List.take_length]; rfl
    simp only [el, er]
    unfold sw.sv
    by_cases a : szs.sv ls l < 0
    · simp only [h1, h2, h3, h4, h5, h6, a, Nat.le_refl, and_self, decide_true, decide_false, Bool.and_self, Bool.or_self, Bool.and_true, Bool.or_true, Bool.true_and, Bool.false_and, cond_true, cond_false]
    · have a' : 0 ≤ szs.sv ls l := by omega
      by_cases b : szs.sv rs (szs.sv ls l) < 0
      · simp only [h1, h2, h3, h4, h5, h6, a, a', q2, b, Nat.le_refl, and_self, decide_true, decide_false, Bool.and_self, Bool.or_self, Bool.and_true, Bool.or_true, Bool.true_and, Bool.false_and, cond_true, cond_false]
      · simp only [h1, h2, h3, h4, h5, h6, a, a', q2, b, Nat.le_refl, and_self, decide_true, decide_false, Bool.and_self, Bool.or_self, Bool.and_true, Bool.or_true, Bool.true_and, Bool.false_and, cond_true, cond_false]
  · cases h
theorem ok : EntOk Try.prog ⟨42, R⟩ :=
  ent_okA mixed (A := (orc [⟨15, szInt64SS.R⟩])) (orc_ok (by simp only [List.mem_cons, List.not_mem_nil, or_false, forall_eq_or_imp, forall_eq]; exact szInt64SS.ok)) Try.func42 (by kernel_rfl) (by kernel_rfl) (n := 18) (ts := [4]) (hd := hd0) (dr := Dr.std) (cut := (some 0)) (by kernel_rfl) (by kernel_rfl) (by kernel_rfl) run
end szWishes

namespace toWishes
def R : List AVal → Option (Bool × AVal × List Blk)
  | [.agg [.ro (.rows .i64 ls) m 1, .ro (.rows .i64 rs) k 1]] => some ((decide (m = ls.length ∧ m ≤ 1048576 ∧ k = rs.length ∧ k ≤ 1048576) && (short.sp 1048576 ls && short.sp 1048576 rs)), .agg [.own 0 0 m 0 1, .own 1 0 k 0 1], [⟨.typ (.rows .i64 ls), 0⟩, ⟨.typ (.rows .i64 rs), 0⟩])
  | _ => none
theorem go (ls rs : List (List Int)) (m k : Nat) :
  regc [3, 4] (runFn Try.prog (orc [⟨17, toInt64SS.R⟩]) hd0 Dr.std none 0 (bodyOf Try.f44) 13 [.cell 2 72] [.agg [.ro (.rows .i64 ls) m 1, .ro (.rows .i64 rs) k 1]] [])
  = (match bif true && true then bif decide (m ≤ ls.length ∧ m ≤ (1048576 : Nat)) && short.sp (1048576 : Nat) (List.take m ls) && (true && true || true && (false && true)) then bif true && (true && (true && decide ((0 : Nat) < (2 : Nat)) && true)) then bif true && true then bif decide (k ≤ rs.length ∧ k ≤ (1048576 : Nat)) && short.sp (1048576 : Nat) (List.take k rs) && (true && true || true && (false && true)) then bif true && (true && (true && decide ((1 : Nat) < (2 : Nat)) && true)) then bif true && true && (true && true && true) then bif true && (true && (true && decide ((0 : Nat) < (2 : Nat)) && (true && decide ((1 : Nat) < (2 : Nat)) && true))) then bif true && true && (true && true && true) && true then some (AVal.agg [AVal.own (3 : Nat) (0 : Nat) m (0 : Nat) (1 : Nat), AVal.own ((1 : Nat) + (1 : Nat) + (1 : Nat) + (1 : Nat) + (0 : Nat)) (0 : Nat) k (0 : Nat) (1 : Nat)], [{ c := BC.cells [AVal.ro (Cont.rows IntKind.i64 ls) m (1 : Nat), AVal.ro (Cont.rows IntKind.i64 rs) k (1 : Nat)], ver := (0 : Nat) }, { c := BC.cells [AVal.own (3 : Nat) (0 : Nat) m (0 : Nat) (1 : Nat), AVal.own ((1 : Nat) + (1 : Nat) + (1 : Nat) + (1 : Nat) + (0 : Nat)) (0 : Nat) k (0 : Nat) (1 : Nat)], ver := (0 : Nat) }, { c := BC.cells [AVal.own (3 : Nat) (0 : Nat) m (0 : Nat) (1 : Nat), AVal.own ((1 : Nat) + (1 : Nat) + (1 : Nat) + (1 : Nat) + (0 : Nat)) (0 : Nat) k (0 : Nat) (1 : Nat)], ver := (0 : Nat) }, { c := BC.typ (Cont.rows IntKind.i64 (List.take m ls)), ver := (0 : Nat) }, { c := BC.typ (Cont.rows IntKind.i64 (List.take k rs)), ver := (0 : Nat) }]) else none else none else none else none else none else none else none else none else none with
| some (v, h) =>
  bif true && (ltN (3 : Nat) (hlen h) && (ltN (4 : Nat) (hlen h) && true)) then
    some
      (AVal.re [(3 : Nat), (4 : Nat)] h v,
        match nth h (3 : Nat) with
        | some b => { c := BC.re [(3 : Nat), (4 : Nat)] h b.c, ver := b.ver } :: reB [(3 : Nat), (4 : Nat)] h [(4 : Nat)]
        | none => { c := BC.cells [], ver := (0 : Nat) } :: reB [(3 : Nat), (4 : Nat)] h [(4 : Nat)])
  else none
| none => none) := by kernel_rfl
theorem run : ∀ args v new, R args = some (true, v, new) → ∃ fuel, regc [3, 4] (runFn Try.prog (orc [⟨17, toInt64SS.R⟩]) hd0 Dr.std none fuel (bodyOf Try.f44) 13 [.cell 2 72] args []) = some (v, new) := by
  intro args v new h
  unfold R at h
  split at h
  · rename_i ls m rs k
    simp only [Option.some.injEq, Prod.mk.injEq, Bool.and_eq_true, decide_eq_true_eq] at h
    obtain ⟨⟨⟨rfl, h1, rfl, h2⟩, h3, h4⟩, rfl, rfl⟩ := h
    refine ⟨0, ?_⟩
    rw [go]
    simp only [h1, h2, h3, h4, List.take_length, Nat.le_refl, and_self, decide_true, decide_false, Bool.and_self, Bool.or_self, Bool.and_true, Bool.or_true, Bool.true_and, Bool.false_and, cond_true, cond_false]
    try rfl
  · cases h
theorem ok : EntOk Try.prog ⟨44, R⟩ :=
  ent_okAG (ks := [3, 4]) mixed (A := (orc [⟨17, toInt64SS.R⟩])) (orc_ok (by simp only [List.mem_cons, List.not_mem_nil, or_false, forall_eq_or_imp, forall_eq]; exact toInt64SS.ok)) Try.func44 (by kernel_rfl) (by kernel_rfl) (n := 13) (ts := [.cell 2 72]) (hd := hd0) (dr := Dr.std) (cut := none) (by kernel_rfl) (by kernel_rfl) (by kernel_rfl) run
end toWishes

namespace eqWishes
def R : List AVal → Option (Bool × AVal × List Blk)
  | [.agg [.ro (.rows .i64 ls) m 1, .ro (.rows .i64 rs) k 1], .agg [.ro (.rows .i64 ls') m' 1, .ro (.rows .i64 rs') k' 1]] => some (decide (m = ls.length ∧ k = rs.length ∧ m' = m ∧ k' = k ∧ m ≤ 4611686018427387904 ∧ k ≤ 4611686018427387904 ∧ ls' = ls ∧ rs' = rs) && (short.sp 4611686018427387904 ls && short.sp 4611686018427387904 rs), .bool true, [])
  | _ => none
theorem go (ls rs : List (List Int)) (m k : Nat) :
  runFn Try.prog (orc [⟨19, eqInt64SS.R⟩]) hd0 Dr.std (some 0) 0 (bodyOf Try.f46) 17 [4] [.agg [.ro (.rows .i64 ls) m 1, .ro (.rows .i64 rs) k 1], .agg [.ro (.rows .i64 ls) m 1, .ro (.rows .i64 rs) k 1]] []
  = (bif true && true then bif true && true then bif decide (m ≤ ls.length ∧ m ≤ ls.length ∧ m ≤ (4611686018427387904 : Nat) ∧ m = m ∧ List.take m ls = List.take m ls) && short.sp (4611686018427387904 : Nat) (List.take m ls) && (true && (true && true) || true && true) then bif true && true then bif true && true then bif decide (k ≤ rs.length ∧ k ≤ rs.length ∧ k ≤ (4611686018427387904 : Nat) ∧ k = k ∧ List.take k rs = List.take k rs) && short.sp (4611686018427387904 : Nat) (List.take k rs) && (true && (true && true) || true && true) then some (AVal.bool true, []) else none else none else none else none else none else none) := by kernel_rfl
theorem run : ∀ args v new, R args = some (true, v, new) → ∃ fuel, runFn Try.prog (orc [⟨19, eqInt64SS.R⟩]) hd0 Dr.std (some 0) fuel (bodyOf Try.f46) 17 [4] args [] = some (v, new) := by
  intro args v new h
  unfold R at h
  split at h
  · rename_i ls m rs k ls' m' rs' k'
    simp only [Option.some.injEq, Prod.mk.injEq, Bool.and_eq_true, decide_eq_true_eq] at h
    obtain ⟨⟨⟨rfl, rfl, rfl, rfl, h1, h2, rfl, rfl⟩, h3, h4⟩, rfl, rfl⟩ := h
    refine ⟨0, ?_⟩
    rw [go]
    simp only [h1, h2, h3, h4, List.take_length, Nat.le_refl, Bool.not_true, Bool.not_false, and_self, decide_true, decide_false, Bool.and_self, Bool.or_self, Bool.and_true, Bool.or_true, Bool.true_and, Bool.false_and, cond_true, cond_false]
    try rfl
  · cases h
theorem ok : EntOk Try.prog ⟨46, R⟩ :=
  ent_okA mixed (A := (orc [⟨19, eqInt64SS.R⟩])) (orc_ok (by simp only [List.mem_cons, List.not_mem_nil, or_false, forall_eq_or_imp, forall_eq]; exact eqInt64SS.ok)) Try.func46 (by kernel_rfl) (by kernel_rfl) (n := 17) (ts := [4]) (hd := hd0) (dr := Dr.std) (cut := (some 0)) (by kernel_rfl) (by kernel_rfl) (by kernel_rfl) run
end eqWishes

namespace kWishes
def R : List AVal → Option (Bool × AVal × Nat)
  | [.agg [.ro (.rows .i64 ls) m 1, .ro (.rows .i64 rs) k 1]] => some ((decide (m = ls.length ∧ m ≤ 1048576 ∧ k = rs.length ∧ k ≤ 1048576) && (short.sp 1048576 ls && short.sp 1048576 rs)), .agg [.bun 0 (.rows .i64 ls) m, .bun 1 (.rows .i64 rs) k], 2)
  | _ => none
def C : XC := ⟨[⟨17, kInt64SS.R⟩], [], []⟩
theorem Cok : XCok Try.prog C := ⟨by simp only [C, List.mem_cons, List.not_mem_nil, or_false, forall_eq]; exact kInt64SS.ok, by simp [C], by simp [C]⟩
theorem go (ls rs : List (List Int)) (m k : Nat) :
  runFnX Try.prog (orc []) C (fun _ => []) Dr.std 0 (bodyOf Try.f44) 13 [.cell 2 72] [.agg [.ro (.rows .i64 ls) m 1, .ro (.rows .i64 rs) k 1]] [] 0
  = (bif true && true then bif decide (m ≤ ls.length ∧ m ≤ (1048576 : Nat)) && short.sp (1048576 : Nat) (List.take m ls) && true then bif true && true then bif decide (k ≤ rs.length ∧ k ≤ (1048576 : Nat)) && short.sp (1048576 : Nat) (List.take k rs) && true then bif true && true && (true && true && true) then bif true && true && (true && true && true) && true then some (AVal.agg [AVal.bun (0 : Nat) (Cont.rows IntKind.i64 (List.take m ls)) m, AVal.bun (1 : Nat) (Cont.rows IntKind.i64 (List.take k rs)) k], [{ c := BC.cells [AVal.ro (Cont.rows IntKind.i64 ls) m (1 : Nat), AVal.ro (Cont.rows IntKind.i64 rs) k (1 : Nat)], ver := (0 : Nat) }, { c := BC.cells [AVal.bun (0 : Nat) (Cont.rows IntKind.i64 (List.take m ls)) m, AVal.bun (1 : Nat) (Cont.rows IntKind.i64 (List.take k rs)) k], ver := (0 : Nat) }, { c := BC.cells [AVal.bun (0 : Nat) (Cont.rows IntKind.i64 (List.take m ls)) m, AVal.bun (1 : Nat) (Cont.rows IntKind.i64 (List.take k rs)) k], ver := (0 : Nat) }], (2 : Nat)) else none else none else none else none else none else none) := by kernel_rfl
theorem ok : KOk Try.prog ⟨44, R⟩ := by
  refine ⟨toWishes.ok.1, fun args u n h0 w cargs hargs => ?_⟩
  have h : R args = some (true, u, n) := h0
  unfold R at h
  split at h
  case h_2 => cases h
  rename_i ls m rs k
  simp only [Option.some.injEq, Prod.mk.injEq, Bool.and_eq_true, decide_eq_true_eq] at h
  obtain ⟨⟨⟨rfl, h1, rfl, h2⟩, h3, h4⟩, rfl, rfl⟩ := h
  have hrun := go ls rs ls.length rs.length
  simp only [h1, h2, h3, h4, List.take_length, Nat.le_refl, Nat.add_zero, Nat.zero_add, and_self, decide_true, decide_false, Bool.and_self, Bool.or_self, Bool.and_true, Bool.or_true, Bool.true_and, Bool.false_and, cond_true, cond_false] at hrun
  refine (fnX_sound (X := []) mixed (A := orc []) (orc_ok (by simp)) Cok Try.func44 (by kernel_rfl) (n := 13) (ts := [.cell 2 72]) (by kernel_rfl) (by kernel_rfl) (by kernel_rfl) hrun hargs (sim_nil w) (kept_nil _ _)).mono fun e w' ⟨c, he, F1, ρ, hv, S, k⟩ => ⟨c, he, F1, k.env, k.len, fun b hb => ⟨?_, (@Sim.forb F1 _ _ _ S b hb).1⟩, ?_, k.mv⟩
  · rcases k.fb b hb with h | h
    · exact h
    · cases h
  · exact @VR.cut F1 ρ _ w' _ _ 0 hv rfl
end kWishes

end Go.Proofs.Ythecninmmojkgaa.Ab
