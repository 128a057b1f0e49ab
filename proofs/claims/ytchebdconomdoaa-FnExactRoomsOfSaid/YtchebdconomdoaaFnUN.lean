/-
  Functions: friends: what is valid, what is quiet.
-/
import Derived.Test.YtchebdconomdoaaFnUM
namespace Go.Proofs.Ytchebdconomdoaa.Ab
open Go
set_option linter.unusedVariables false
set_option linter.unusedSimpArgs false
set_option maxRecDepth 100000

set_option maxRecDepth 100000
namespace l05Friends
def R : List AVal → Option (Bool × AVal × List Blk)
  | [.ro (.rows .i64 fs) m 1] => some (decide (m = fs.length ∧ m ≤ 4611686018427387904) && short.sp 4611686018427387904 fs, .bool (rms.va.sp fs), [])
  | _ => none
def hd : Nat → Head := fun _ => ⟨[0, 2, 3, 25, 26], none⟩
noncomputable def L (f n : Nat) (s : State) := loopAt Try.prog (orc [⟨93, l05Lists.R⟩, ⟨94, l00Has.R⟩]) hd Dr.std 0 f (bodyOf Try.f54) 0 [true, true, true, false, true] (retK Try.prog [2] 0 none) n s
theorem start (fs : List (List Int)) (m : Nat) (f : Nat) :
  runFn Try.prog (orc [⟨93, l05Lists.R⟩, ⟨94, l00Has.R⟩]) hd Dr.std none f (bodyOf Try.f54) 46 [2] [.ro (.rows .i64 fs) m 1] []
  = (bif decide ((↑m : Int) < (2 : Int)) then some (AVal.bool false, []) else bif decide ((8 : Int) < (↑m : Int)) then some (AVal.bool false, []) else bif (↑m : Int).tmod (2 : Int) != (0 : Int) then some (AVal.bool false, []) else bif decide (m = fs.length ∧ m ≤ (4611686018427387904 : Nat) ∧ (0 : Int) ≤ (↑m : Int) ∧ (↑m : Int) ≤ (4611686018427387904 : Int)) && short.sp (4611686018427387904 : Nat) fs && (true && (true && true) || true && true) then bif !(lo.sp (↑m : Int) fs && decide ((↑m : Int) = (↑m : Int))) then some (AVal.bool false, []) else L f f (mkS (46 : Nat) [((0 : Nat), AVal.ro (Cont.rows IntKind.i64 fs) m (1 : Nat)), ((2 : Nat), AVal.bool false), ((3 : Nat), AVal.int IntKind.i64 (↑m : Int)), ((25 : Nat), AVal.int IntKind.i64 (↑m : Int)), ((26 : Nat), AVal.int IntKind.i64 (0 : Int))] []) else none) := by kernel_rfl
theorem round (fs : List (List Int)) (m i f n : Nat) :
  L f (n + 1) (mkS 46 [(0, .ro (.rows .i64 fs) m 1), (2, .bool false), (3, .int .i64 m), (25, .int .i64 m), (26, .int .i64 i)] [])
  = (bif decide ((↑i : Int) < (↑m : Int)) then bif true && (decide ((0 : Int) ≤ (↑i : Int)) && decide ((↑i : Int) < (↑m : Int))) then bif decide ((↑i : Int).toNat < fs.length) then bif (↑(gr fs (↑i : Int).toNat).length : Int) != IntKind.i64.wrap ((↑m : Int) - (1 : Int)) then some (AVal.bool false, []) else bif true && (decide ((0 : Int) ≤ (↑i : Int)) && decide ((↑i : Int) < (↑m : Int))) then bif decide ((↑i : Int).toNat < fs.length) then bif decide ((gr fs (↑i : Int).toNat).length ≤ (gr fs (↑i : Int).toNat).length ∧ (gr fs (↑i : Int).toNat).length ≤ (4611686018427387904 : Nat)) && (true && (true && true) || true && true) then bif (List.take (gr fs (↑i : Int).toNat).length (gr fs (↑i : Int).toNat)).any (has.sp (↑i : Int)) then some (AVal.bool false, []) else L f n (mkS (46 : Nat) [((0 : Nat), AVal.ro (Cont.rows IntKind.i64 fs) m (1 : Nat)), ((2 : Nat), AVal.bool false), ((3 : Nat), AVal.int IntKind.i64 (↑m : Int)), ((25 : Nat), AVal.int IntKind.i64 (↑m : Int)), ((26 : Nat), AVal.int IntKind.i64 (IntKind.i64.wrap ((↑i : Int) + (1 : Int))))] []) else none else none else none else none else none else some (AVal.bool true, [])) := by kernel_rfl
theorem loop (fs : List (List Int)) (m : Nat) (f : Nat) (hm : m = fs.length) (hb : m ≤ 1000) (hs : short.sp 4611686018427387904 fs = true) : ∀ (d i n : Nat) , i + d = m → d < n →
    L f n (mkS 46 [(0, .ro (.rows .i64 fs) m 1), (2, .bool false), (3, .int .i64 m), (25, .int .i64 m), (26, .int .i64 i)] []) = some (.bool (rms.al2.sq m (fs.drop i) i), []) := by
  intro d
  induction d with
  | zero =>
    intro i n  hi hn 
    obtain ⟨n, rfl⟩ : ∃ k, n = k + 1 := ⟨n - 1, by omega⟩
    obtain rfl : i = m := by omega
    rw [round]
    have e : fs.drop i = [] := List.drop_of_length_le (by omega)
    simp -implicitDefEqProofs only [e, Int.lt_irrefl, rms.al2.sq, and_self, decide_true, decide_false, Bool.and_self, Bool.or_self, Bool.and_true, Bool.true_and, Bool.and_false, Bool.false_and, Bool.or_true, Bool.true_or, Bool.or_false, Bool.false_or, Bool.not_true, Bool.not_false, cond_true, cond_false]
  | succ d ih =>
    intro i n  hi hn 
    obtain ⟨n, rfl⟩ : ∃ k, n = k + 1 := ⟨n - 1, by omega⟩
    have h1 : i < m := by omega
    have h4 : (0 : Int) ≤ (i : Int) := Int.natCast_nonneg _
    have h5 : (i : Int) < (m : Int) := by omega
    have h2 : i < fs.length := by omega
    rw [round]
    have hr := ih (i + 1) n (by omega) (by omega)
    have hl := short_get hs h2
    have w : IntKind.i64.wrap ((m : Int) - 1) = (m : Int) - 1 := IntWalk.i64_in _ (by omega)
    have e : ∀ a b : Int, (a != b) = !decide (a = b) := fun _ _ => rfl
    rw [List.drop_eq_getElem_cons h2]
    simp -implicitDefEqProofs only [rms.al2.sq, h4, h5, h2, gr_eq h2, hl, w, e, Nat.le_refl, List.take_length, Int.toNat_natCast, wrap_nat i (by omega), and_self, decide_true, decide_false, Bool.and_self, Bool.or_self, Bool.and_true, Bool.true_and, Bool.and_false, Bool.false_and, Bool.or_true, Bool.true_or, Bool.or_false, Bool.false_or, Bool.not_true, Bool.not_false, cond_true, cond_false]
    by_cases c : (fs[i].length : Int) = (m : Int) - 1
    · simp -implicitDefEqProofs only [c, and_self, decide_true, decide_false, Bool.and_self, Bool.or_self, Bool.and_true, Bool.true_and, Bool.and_false, Bool.false_and, Bool.or_true, Bool.true_or, Bool.or_false, Bool.false_or, Bool.not_true, Bool.not_false, cond_true, cond_false]
      cases fs[i].any (has.sp (i : Int))
      · simp -implicitDefEqProofs only [and_self, decide_true, decide_false, Bool.and_self, Bool.or_self, Bool.and_true, Bool.true_and, Bool.and_false, Bool.false_and, Bool.or_true, Bool.true_or, Bool.or_false, Bool.false_or, Bool.not_true, Bool.not_false, cond_true, cond_false]; exact hr
      · rfl
    · simp -implicitDefEqProofs only [c, and_self, decide_true, decide_false, Bool.and_self, Bool.or_self, Bool.and_true, Bool.true_and, Bool.and_false, Bool.false_and, Bool.or_true, Bool.true_or, Bool.or_false, Bool.false_or, Bool.not_true, Bool.not_false, cond_true, cond_false]
theorem run : ∀ args v new, R args = some (true, v, new) → ∃ fuel, runFn Try.prog (orc [⟨93, l05Lists.R⟩, ⟨94, l00Has.R⟩]) hd Dr.std none fuel (bodyOf Try.f54) 46 [2] args [] = some (v, new) := by
  intro args v new h
  unfold R at h
  split at h
  · rename_i fs m
    simp only [Option.some.injEq, Prod.mk.injEq, Bool.and_eq_true, decide_eq_true_eq] at h
    obtain ⟨⟨⟨rfl, h1⟩, hs⟩, rfl, rfl⟩ := h
    obtain ⟨F, hF⟩ : ∃ F : Nat, F = fs.length + 1 := ⟨_, rfl⟩
    refine ⟨F, ?_⟩
    rw [start]
    have e : ∀ a b : Int, (a != b) = !decide (a = b) := fun _ _ => rfl
    have g1 : (0 : Int) ≤ (fs.length : Int) := Int.natCast_nonneg _
    have g2 : (fs.length : Int) ≤ 4611686018427387904 := by omega
    unfold rms.va.sp rms.ev.sp
    rw [rms.al_al2]
    by_cases c1 : (fs.length : Int) < 2
    · have c1' : ¬ (2 ≤ (fs.length : Int)) := by omega
      simp -implicitDefEqProofs only [c1, c1', and_self, decide_true, decide_false, Bool.and_self, Bool.or_self, Bool.and_true, Bool.true_and, Bool.and_false, Bool.false_and, Bool.or_true, Bool.true_or, Bool.or_false, Bool.false_or, Bool.not_true, Bool.not_false, cond_true, cond_false]
    · have c1' : 2 ≤ (fs.length : Int) := by omega
      by_cases c2 : 8 < (fs.length : Int)
      · have c2' : ¬ ((fs.length : Int) ≤ 8) := by omega
        simp -implicitDefEqProofs only [c1, c1', c2, c2', and_self, decide_true, decide_false, Bool.and_self, Bool.or_self, Bool.and_true, Bool.true_and, Bool.and_false, Bool.false_and, Bool.or_true, Bool.true_or, Bool.or_false, Bool.false_or, Bool.not_true, Bool.not_false, cond_true, cond_false]
      · have c2' : (fs.length : Int) ≤ 8 := by omega
        by_cases c3 : Int.tmod (fs.length : Int) 2 = 0
        · have hl := loop fs fs.length F rfl (by omega) hs fs.length 0 F (by omega) (by omega)
          rw [List.drop_zero] at hl
          have hlo : (fs.all (rk.sp (fs.length : Int))) = lo.sp (fs.length : Int) fs := rfl
          rw [hlo]
          simp -implicitDefEqProofs only [c1, c1', c2, c2', c3, e, h1, hs, g1, g2, and_self, decide_true, decide_false, Bool.and_self, Bool.or_self, Bool.and_true, Bool.true_and, Bool.and_false, Bool.false_and, Bool.or_true, Bool.true_or, Bool.or_false, Bool.false_or, Bool.not_true, Bool.not_false, cond_true, cond_false]
          cases lo.sp (fs.length : Int) fs
          · simp -implicitDefEqProofs only [and_self, decide_true, decide_false, Bool.and_self, Bool.or_self, Bool.and_true, Bool.true_and, Bool.and_false, Bool.false_and, Bool.or_true, Bool.true_or, Bool.or_false, Bool.false_or, Bool.not_true, Bool.not_false, cond_true, cond_false]
          · simp -implicitDefEqProofs only [and_self, decide_true, decide_false, Bool.and_self, Bool.or_self, Bool.and_true, Bool.true_and, Bool.and_false, Bool.false_and, Bool.or_true, Bool.true_or, Bool.or_false, Bool.false_or, Bool.not_true, Bool.not_false, cond_true, cond_false]; exact hl
        · simp -implicitDefEqProofs only [c1, c1', c2, c2', c3, e, and_self, decide_true, decide_false, Bool.and_self, Bool.or_self, Bool.and_true, Bool.true_and, Bool.and_false, Bool.false_and, Bool.or_true, Bool.true_or, Bool.or_false, Bool.false_or, Bool.not_true, Bool.not_false, cond_true, cond_false]
  · cases h
theorem ok : EntOk Try.prog ⟨54, R⟩ :=
  ent_okA mixed (A := (orc [⟨93, l05Lists.R⟩, ⟨94, l00Has.R⟩])) (orc_ok (by simp only [List.mem_cons, List.not_mem_nil, or_false, forall_eq_or_imp, forall_eq]; exact ⟨l05Lists.ok, l00Has.ok⟩)) Try.func54 (by kernel_rfl) (by kernel_rfl) (n := 46) (ts := [2]) (hd := hd) (dr := Dr.std) (cut := none) (by kernel_rfl) (by kernel_rfl) (by kernel_rfl) run
end l05Friends

namespace areFriends
def R : List AVal → Option (Bool × AVal × List Blk)
  | [.ro (.rows .i64 fs) m 1] => some (decide (m = fs.length ∧ m ≤ 4611686018427387904) && short.sp 4611686018427387904 fs, .bool (rms.va.sp fs), [])
  | _ => none
def hd : Nat → Head := fun _ => ⟨[2, 3, 8, 9, 10], none⟩
noncomputable def L (f n : Nat) (s : State) := loopAt Try.prog (orc [⟨96, areWithin.R⟩, ⟨97, hasTwice.R⟩, ⟨91, slContains.R⟩, ⟨98, within.R⟩]) hd Dr.std 0 f (bodyOf Try.f56) 0 [true, true, false, true] (retK Try.prog [2] 0 none) n s
theorem start (fs : List (List Int)) (m : Nat) (f : Nat) :
  runFn Try.prog (orc [⟨96, areWithin.R⟩, ⟨97, hasTwice.R⟩, ⟨91, slContains.R⟩, ⟨98, within.R⟩]) hd Dr.std none f (bodyOf Try.f56) 44 [2] [.ro (.rows .i64 fs) m 1] []
  = (L f f (mkS (44 : Nat) [((2 : Nat), AVal.bool false), ((3 : Nat), AVal.int IntKind.i64 (↑m : Int)), ((8 : Nat), AVal.ro (Cont.rows IntKind.i64 fs) m (1 : Nat)), ((9 : Nat), AVal.int IntKind.i64 (↑m : Int)), ((10 : Nat), AVal.int IntKind.i64 (0 : Int))] [])) := by kernel_rfl
theorem round (fs : List (List Int)) (m i f n : Nat) :
  L f (n + 1) (mkS 44 [(2, .bool false), (3, .int .i64 m), (8, .ro (.rows .i64 fs) m 1), (9, .int .i64 m), (10, .int .i64 i)] [])
  = (bif decide ((↑i : Int) < (↑m : Int)) then bif true && (decide ((0 : Int) ≤ (↑i : Int)) && decide ((↑i : Int) < (↑m : Int))) then bif decide ((↑i : Int).toNat < fs.length) then bif (↑(gr fs (↑i : Int).toNat).length : Int) != IntKind.i64.wrap ((↑m : Int) - (1 : Int)) then some (AVal.bool false, []) else bif decide ((gr fs (↑i : Int).toNat).length ≤ (gr fs (↑i : Int).toNat).length ∧ (gr fs (↑i : Int).toNat).length ≤ (4611686018427387904 : Nat)) && (true && (true && (true && true)) || true && true) then bif !(List.take (gr fs (↑i : Int).toNat).length (gr fs (↑i : Int).toNat)).all fun x => decide ((0 : Int) ≤ x) && decide (x ≤ IntKind.i64.wrap ((↑m : Int) - (1 : Int))) then some (AVal.bool false, []) else bif decide ((gr fs (↑i : Int).toNat).length ≤ (gr fs (↑i : Int).toNat).length ∧ (gr fs (↑i : Int).toNat).length ≤ (4611686018427387904 : Nat)) && (true && true || true && true) then bif tws.sq [] (List.take (gr fs (↑i : Int).toNat).length (gr fs (↑i : Int).toNat)) then some (AVal.bool false, []) else bif decide ((gr fs (↑i : Int).toNat).length ≤ (gr fs (↑i : Int).toNat).length ∧ (gr fs (↑i : Int).toNat).length ≤ (4611686018427387904 : Nat)) && (true && (true && true) || true && true) then bif (List.take (gr fs (↑i : Int).toNat).length (gr fs (↑i : Int).toNat)).any (has.sp (↑i : Int)) then some (AVal.bool false, []) else L f n (mkS (44 : Nat) [((2 : Nat), AVal.bool false), ((3 : Nat), AVal.int IntKind.i64 (↑m : Int)), ((8 : Nat), AVal.ro (Cont.rows IntKind.i64 fs) m (1 : Nat)), ((9 : Nat), AVal.int IntKind.i64 (↑m : Int)), ((10 : Nat), AVal.int IntKind.i64 (IntKind.i64.wrap ((↑i : Int) + (1 : Int))))] []) else none else none else none else none else none else bif true && (true && true || true && true) then bif decide ((2 : Int) ≤ (↑m : Int)) && decide ((↑m : Int) ≤ (8 : Int)) then some (AVal.bool ((↑m : Int).tmod (2 : Int) == (0 : Int)), []) else some (AVal.bool false, []) else none) := by kernel_rfl
theorem loop (fs : List (List Int)) (m : Nat) (f : Nat) (hm : m = fs.length) (hb : m ≤ 4611686018427387904) (hs : short.sp 4611686018427387904 fs = true) : ∀ (d i n : Nat) , i + d = m → d < n →
    L f n (mkS 44 [(2, .bool false), (3, .int .i64 m), (8, .ro (.rows .i64 fs) m 1), (9, .int .i64 m), (10, .int .i64 i)] []) = some (.bool (rms.al.sq m (fs.drop i) i && rms.ev.sp m), []) := by
  intro d
  induction d with
  | zero =>
    intro i n  hi hn 
    obtain ⟨n, rfl⟩ : ∃ k, n = k + 1 := ⟨n - 1, by omega⟩
    obtain rfl : i = m := by omega
    rw [round]
    have e : fs.drop i = [] := List.drop_of_length_le (by omega)
    have e2 : ∀ a b : Int, (a == b) = decide (a = b) := fun _ _ => rfl
    simp -implicitDefEqProofs only [e, Int.lt_irrefl, rms.al.sq, rms.ev.sp, e2, and_self, decide_true, decide_false, Bool.and_self, Bool.or_self, Bool.and_true, Bool.true_and, Bool.and_false, Bool.false_and, Bool.or_true, Bool.true_or, Bool.or_false, Bool.false_or, Bool.not_true, Bool.not_false, cond_true, cond_false]
    generalize decide (Int.tmod (i : Int) 2 = 0) = b1
    generalize decide ((2 : Int) ≤ (i : Int)) = b2
    generalize decide ((i : Int) ≤ 8) = b3
    cases b1 <;> cases b2 <;> cases b3 <;> rfl
  | succ d ih =>
    intro i n  hi hn 
    obtain ⟨n, rfl⟩ : ∃ k, n = k + 1 := ⟨n - 1, by omega⟩
    have h1 : i < m := by omega
    have h4 : (0 : Int) ≤ (i : Int) := Int.natCast_nonneg _
    have h5 : (i : Int) < (m : Int) := by omega
    have h2 : i < fs.length := by omega
    rw [round]
    have hr := ih (i + 1) n (by omega) (by omega)
    have hl := short_get hs h2
    have w : IntKind.i64.wrap ((m : Int) - 1) = (m : Int) - 1 := IntWalk.i64_in _ (by omega)
    have e : ∀ a b : Int, (a != b) = !decide (a = b) := fun _ _ => rfl
    have ea : (fs[i].all fun x => decide (0 ≤ x) && decide (x ≤ (m : Int) - 1)) = fs[i].all (iw.sp 0 ((m : Int) - 1)) := rfl
    have eu : rk.sp (m : Int) fs[i] = (fs[i].all (iw.sp 0 ((m : Int) - 1)) && !tws.sq [] fs[i]) := uniq_tws _ _ _
    rw [List.drop_eq_getElem_cons h2]
    simp -implicitDefEqProofs only [rms.al.sq, rms.row.sp, h4, h5, h2, gr_eq h2, hl, w, e, ea, eu, Nat.le_refl, List.take_length, Int.toNat_natCast, wrap_nat i (by omega), and_self, decide_true, decide_false, Bool.and_self, Bool.or_self, Bool.and_true, Bool.true_and, Bool.and_false, Bool.false_and, Bool.or_true, Bool.true_or, Bool.or_false, Bool.false_or, Bool.not_true, Bool.not_false, cond_true, cond_false]
    generalize fs[i].all (iw.sp 0 ((m : Int) - 1)) = b1
    generalize tws.sq [] fs[i] = b2
    generalize fs[i].any (has.sp (i : Int)) = b3
    by_cases c : (fs[i].length : Int) = (m : Int) - 1
    · simp -implicitDefEqProofs only [c, and_self, decide_true, decide_false, Bool.and_self, Bool.or_self, Bool.and_true, Bool.true_and, Bool.and_false, Bool.false_and, Bool.or_true, Bool.true_or, Bool.or_false, Bool.false_or, Bool.not_true, Bool.not_false, cond_true, cond_false]
      cases b1
      · rfl
      · cases b2
        · cases b3
          · simp -implicitDefEqProofs only [and_self, decide_true, decide_false, Bool.and_self, Bool.or_self, Bool.and_true, Bool.true_and, Bool.and_false, Bool.false_and, Bool.or_true, Bool.true_or, Bool.or_false, Bool.false_or, Bool.not_true, Bool.not_false, cond_true, cond_false]; exact hr
          · rfl
        · rfl
    · simp -implicitDefEqProofs only [c, and_self, decide_true, decide_false, Bool.and_self, Bool.or_self, Bool.and_true, Bool.true_and, Bool.and_false, Bool.false_and, Bool.or_true, Bool.true_or, Bool.or_false, Bool.false_or, Bool.not_true, Bool.not_false, cond_true, cond_false]
theorem run : ∀ args v new, R args = some (true, v, new) → ∃ fuel, runFn Try.prog (orc [⟨96, areWithin.R⟩, ⟨97, hasTwice.R⟩, ⟨91, slContains.R⟩, ⟨98, within.R⟩]) hd Dr.std none fuel (bodyOf Try.f56) 44 [2] args [] = some (v, new) := by
  intro args v new h
  unfold R at h
  split at h
  · rename_i fs m
    simp only [Option.some.injEq, Prod.mk.injEq, Bool.and_eq_true, decide_eq_true_eq] at h
    obtain ⟨⟨⟨rfl, h1⟩, hs⟩, rfl, rfl⟩ := h
    obtain ⟨F, hF⟩ : ∃ F : Nat, F = fs.length + 1 := ⟨_, rfl⟩
    refine ⟨F, ?_⟩
    rw [start]
    have hl := loop fs fs.length F rfl h1 hs fs.length 0 F (by omega) (by omega)
    rw [List.drop_zero, Bool.and_comm] at hl
    exact hl
  · cases h
theorem ok : EntOk Try.prog ⟨56, R⟩ :=
  ent_okA mixed (A := (orc [⟨96, areWithin.R⟩, ⟨97, hasTwice.R⟩, ⟨91, slContains.R⟩, ⟨98, within.R⟩])) (orc_ok (by simp only [List.mem_cons, List.not_mem_nil, or_false, forall_eq_or_imp, forall_eq]; exact ⟨areWithin.ok, hasTwice.ok, slContains.ok, within.ok⟩)) Try.func56 (by kernel_rfl) (by kernel_rfl) (n := 44) (ts := [2]) (hd := hd) (dr := Dr.std) (cut := none) (by kernel_rfl) (by kernel_rfl) (by kernel_rfl) run
end areFriends

namespace l05Dearer
def R : List AVal → Option (Bool × AVal × List Blk)
  | [.ro (.ints .i64 xs) m 1, .int .i64 x, .int .i64 h] => some (decide (m = xs.length ∧ m ≤ 4611686018427387904), .bool (bif decide (h < 0) then true else decide (pl.sv x xs < pl.sv h xs)), [])
  | _ => none
theorem go (xs : List Int) (m : Nat) (x h : Int) :
  runFn Try.prog (orc [⟨103, l05Place.R⟩]) hd0 Dr.std none 0 (bodyOf Try.f115) 18 [6] [.ro (.ints .i64 xs) m 1, .int .i64 x, .int .i64 h] []
  = (bif decide (h < (0 : Int)) then some (AVal.bool true, []) else bif decide (m = xs.length ∧ m ≤ (4611686018427387904 : Nat)) && (true && (true && true) || true && true) then bif decide (m = xs.length ∧ m ≤ (4611686018427387904 : Nat)) && (true && (true && true) || true && true) then some (AVal.bool (decide (pl.sv x xs < pl.sv h xs)), []) else none else none) := by kernel_rfl
theorem run : ∀ args v new, R args = some (true, v, new) → ∃ fuel, runFn Try.prog (orc [⟨103, l05Place.R⟩]) hd0 Dr.std none fuel (bodyOf Try.f115) 18 [6] args [] = some (v, new) := by
  intro args v new h
  unfold R at h
  split at h
  · rename_i xs m x h0
    simp only [Option.some.injEq, Prod.mk.injEq, decide_eq_true_eq] at h
    obtain ⟨⟨rfl, h1⟩, rfl, rfl⟩ := h
    refine ⟨0, ?_⟩
    rw [go]
    simp -implicitDefEqProofs only [h1, and_self, decide_true, decide_false, Bool.and_self, Bool.or_self, Bool.and_true, Bool.true_and, Bool.and_false, Bool.false_and, Bool.or_true, Bool.true_or, Bool.or_false, Bool.false_or, Bool.not_true, Bool.not_false, cond_true, cond_false]
    cases decide (h0 < 0) <;> rfl
  · cases h
theorem ok : EntOk Try.prog ⟨115, R⟩ :=
  ent_okA mixed (A := (orc [⟨103, l05Place.R⟩])) (orc_ok (by simp only [List.mem_cons, List.not_mem_nil, or_false, forall_eq_or_imp, forall_eq]; exact l05Place.ok)) Try.func115 (by kernel_rfl) (by kernel_rfl) (n := 18) (ts := [6]) (hd := hd0) (dr := Dr.std) (cut := none) (by kernel_rfl) (by kernel_rfl) (by kernel_rfl) run
end l05Dearer

namespace l05Quiet
def R : List AVal → Option (Bool × AVal × List Blk)
  | [.ro (.rows .i64 fs) m 1, .ro (.ints .i64 rm) p 1] => some (decide (m = fs.length ∧ p = m) && (rms.va.sp fs && rms.rg.sp m 0 rm), .bool (rms.q.sp fs rm), [])
  | _ => none
def hd : Nat → Head := fun i => bif eqN i 0 then ⟨[0, 1, 4, 8, 9], none⟩ else ⟨[0, 1, 4, 5, 8, 9, 13, 14], none⟩
noncomputable def L1 (f n : Nat) (s : State) := loopAt Try.prog (orc [⟨115, l05Dearer.R⟩]) hd Dr.std 0 f (bodyOf Try.f95) 0 [true, false, true] (retK Try.prog [4] 0 none) n s
noncomputable def L2 (f n n2 : Nat) (s : State) := loopAt Try.prog (orc [⟨115, l05Dearer.R⟩]) hd Dr.std 0 f (bodyAt (bodyOf Try.f95) [true, false, true]) (curAt (bodyOf Try.f95) 0 [true, false, true]) [true, true, false, true, true] (iterK (normE 0 (hd (curAt (bodyOf Try.f95) 0 [true, false, true]))) (L1 f n) (contAt Try.prog (orc [⟨115, l05Dearer.R⟩]) hd Dr.std 0 f (bodyOf Try.f95) 0 [true, false, true] (retK Try.prog [4] 0 none))) n2 s
theorem start (fs : List (List Int)) (rm : List Int) (m p : Nat) (f : Nat) :
  runFn Try.prog (orc [⟨115, l05Dearer.R⟩]) hd Dr.std none f (bodyOf Try.f95) 52 [4] [.ro (.rows .i64 fs) m 1, .ro (.ints .i64 rm) p 1] []
  = (L1 f f (mkS (52 : Nat) [((0 : Nat), AVal.ro (Cont.rows IntKind.i64 fs) m (1 : Nat)), ((1 : Nat), AVal.ro (Cont.ints IntKind.i64 rm) p (1 : Nat)), ((4 : Nat), AVal.bool false), ((8 : Nat), AVal.int IntKind.i64 (↑p : Int)), ((9 : Nat), AVal.int IntKind.i64 (0 : Int))] [])) := by kernel_rfl
theorem round1 (fs : List (List Int)) (rm : List Int) (m p : Nat) (i f n : Nat) :
  L1 f (n + 1) (mkS 52 [(0, .ro (.rows .i64 fs) m 1), (1, .ro (.ints .i64 rm) p 1), (4, .bool false), (8, .int .i64 p), (9, .int .i64 i)] [])
  = (bif decide ((↑i : Int) < (↑p : Int)) then L2 f n f (mkS (52 : Nat) [((0 : Nat), AVal.ro (Cont.rows IntKind.i64 fs) m (1 : Nat)), ((1 : Nat), AVal.ro (Cont.ints IntKind.i64 rm) p (1 : Nat)), ((4 : Nat), AVal.bool false), ((5 : Nat), AVal.int IntKind.i64 (↑i : Int)), ((8 : Nat), AVal.int IntKind.i64 (↑p : Int)), ((9 : Nat), AVal.int IntKind.i64 (↑i : Int)), ((13 : Nat), AVal.int IntKind.i64 (↑p : Int)), ((14 : Nat), AVal.int IntKind.i64 (0 : Int))] []) else some (AVal.bool true, [])) := by kernel_rfl
theorem round2 (fs : List (List Int)) (rm : List Int) (m p : Nat) (i k f n n2 : Nat) :
  L2 f n (n2 + 1) (mkS 52 [(0, .ro (.rows .i64 fs) m 1), (1, .ro (.ints .i64 rm) p 1), (4, .bool false), (5, .int .i64 i), (8, .int .i64 p), (9, .int .i64 i), (13, .int .i64 p), (14, .int .i64 (k : Nat))] [])
  = (bif decide ((↑k : Int) < (↑p : Int)) then bif (↑i : Int) == (↑k : Int) then L2 f n n2 (mkS (52 : Nat) [((0 : Nat), AVal.ro (Cont.rows IntKind.i64 fs) m (1 : Nat)), ((1 : Nat), AVal.ro (Cont.ints IntKind.i64 rm) p (1 : Nat)), ((4 : Nat), AVal.bool false), ((5 : Nat), AVal.int IntKind.i64 (↑i : Int)), ((8 : Nat), AVal.int IntKind.i64 (↑p : Int)), ((9 : Nat), AVal.int IntKind.i64 (↑i : Int)), ((13 : Nat), AVal.int IntKind.i64 (↑p : Int)), ((14 : Nat), AVal.int IntKind.i64 (IntKind.i64.wrap ((↑k : Int) + (1 : Int))))] []) else bif true && (decide ((0 : Int) ≤ (↑i : Int)) && decide ((↑i : Int) < (↑p : Int))) then bif decide ((↑i : Int).toNat < rm.length) then bif gz rm (↑i : Int).toNat == (↑k : Int) then L2 f n n2 (mkS (52 : Nat) [((0 : Nat), AVal.ro (Cont.rows IntKind.i64 fs) m (1 : Nat)), ((1 : Nat), AVal.ro (Cont.ints IntKind.i64 rm) p (1 : Nat)), ((4 : Nat), AVal.bool false), ((5 : Nat), AVal.int IntKind.i64 (↑i : Int)), ((8 : Nat), AVal.int IntKind.i64 (↑p : Int)), ((9 : Nat), AVal.int IntKind.i64 (↑i : Int)), ((13 : Nat), AVal.int IntKind.i64 (↑p : Int)), ((14 : Nat), AVal.int IntKind.i64 (IntKind.i64.wrap ((↑k : Int) + (1 : Int))))] []) else bif true && (decide ((0 : Int) ≤ (↑i : Int)) && decide ((↑i : Int) < (↑m : Int))) then bif decide ((↑i : Int).toNat < fs.length) then bif true && (decide ((0 : Int) ≤ (↑i : Int)) && decide ((↑i : Int) < (↑p : Int))) then bif decide ((↑i : Int).toNat < rm.length) then bif decide ((gr fs (↑i : Int).toNat).length = (gr fs (↑i : Int).toNat).length ∧ (gr fs (↑i : Int).toNat).length ≤ (4611686018427387904 : Nat)) && (true && (true && (true && true)) || true && true) then bif bif decide (gz rm (↑i : Int).toNat < (0 : Int)) then true else decide (pl.sv (↑k : Int) (gr fs (↑i : Int).toNat) < pl.sv (gz rm (↑i : Int).toNat) (gr fs (↑i : Int).toNat)) then bif true && (decide ((0 : Int) ≤ (↑k : Int)) && decide ((↑k : Int) < (↑m : Int))) then bif decide ((↑k : Int).toNat < fs.length) then bif true && (decide ((0 : Int) ≤ (↑k : Int)) && decide ((↑k : Int) < (↑p : Int))) then bif decide ((↑k : Int).toNat < rm.length) then bif decide ((gr fs (↑k : Int).toNat).length = (gr fs (↑k : Int).toNat).length ∧ (gr fs (↑k : Int).toNat).length ≤ (4611686018427387904 : Nat)) && (true && (true && (true && true)) || true && true) then bif bif decide (gz rm (↑k : Int).toNat < (0 : Int)) then true else decide (pl.sv (↑i : Int) (gr fs (↑k : Int).toNat) < pl.sv (gz rm (↑k : Int).toNat) (gr fs (↑k : Int).toNat)) then some (AVal.bool false, []) else L2 f n n2 (mkS (52 : Nat) [((0 : Nat), AVal.ro (Cont.rows IntKind.i64 fs) m (1 : Nat)), ((1 : Nat), AVal.ro (Cont.ints IntKind.i64 rm) p (1 : Nat)), ((4 : Nat), AVal.bool false), ((5 : Nat), AVal.int IntKind.i64 (↑i : Int)), ((8 : Nat), AVal.int IntKind.i64 (↑p : Int)), ((9 : Nat), AVal.int IntKind.i64 (↑i : Int)), ((13 : Nat), AVal.int IntKind.i64 (↑p : Int)), ((14 : Nat), AVal.int IntKind.i64 (IntKind.i64.wrap ((↑k : Int) + (1 : Int))))] []) else none else none else none else none else none else L2 f n n2 (mkS (52 : Nat) [((0 : Nat), AVal.ro (Cont.rows IntKind.i64 fs) m (1 : Nat)), ((1 : Nat), AVal.ro (Cont.ints IntKind.i64 rm) p (1 : Nat)), ((4 : Nat), AVal.bool false), ((5 : Nat), AVal.int IntKind.i64 (↑i : Int)), ((8 : Nat), AVal.int IntKind.i64 (↑p : Int)), ((9 : Nat), AVal.int IntKind.i64 (↑i : Int)), ((13 : Nat), AVal.int IntKind.i64 (↑p : Int)), ((14 : Nat), AVal.int IntKind.i64 (IntKind.i64.wrap ((↑k : Int) + (1 : Int))))] []) else none else none else none else none else none else none else none else L1 f n (mkS (52 : Nat) [((0 : Nat), AVal.ro (Cont.rows IntKind.i64 fs) m (1 : Nat)), ((1 : Nat), AVal.ro (Cont.ints IntKind.i64 rm) p (1 : Nat)), ((4 : Nat), AVal.bool false), ((8 : Nat), AVal.int IntKind.i64 (↑p : Int)), ((9 : Nat), AVal.int IntKind.i64 (IntKind.i64.wrap ((↑i : Int) + (1 : Int))))] [])) := by kernel_rfl
theorem inner (fs : List (List Int)) (rm : List Int) (m p f n i : Nat) (hm : m = fs.length) (hp : p = m) (hv : rms.va.sp fs = true) (hg : rms.rg.sp fs.length 0 rm = true) (hi : i < m) : ∀ (d k n2 : Nat), k + d = m → d < n2 →
    L2 f n n2 (mkS 52 [(0, .ro (.rows .i64 fs) m 1), (1, .ro (.ints .i64 rm) p 1), (4, .bool false), (5, .int .i64 i), (8, .int .i64 p), (9, .int .i64 i), (13, .int .i64 p), (14, .int .i64 (k : Nat))] []) = bif ((cq.sv m).drop k).all (fun k => !rms.bl.sp fs rm (i : Int) k) then L1 f n (mkS 52 [(0, .ro (.rows .i64 fs) m 1), (1, .ro (.ints .i64 rm) p 1), (4, .bool false), (8, .int .i64 p), (9, .int .i64 ((i + 1 : Nat) : Int))] []) else some (.bool false, []) := by
  obtain ⟨hl, hg'⟩ := rms.rg_get hg
  obtain ⟨hn2, hn8⟩ := rms.va_len hv
  have h4 : (0 : Int) ≤ (i : Int) := Int.natCast_nonneg _
  have h5 : (i : Int) < (m : Int) := by omega
  have h2 : i < fs.length := by omega
  have h2' : i < rm.length := by omega
  have li := rms.row_len hv h2
  have li' : (gr fs i).length ≤ 4611686018427387904 := by omega
  have gi : ¬ (gz rm i < 0) := by have := (hg' i h2).1; omega
  have e : ∀ a b : Int, (a == b) = decide (a = b) := fun _ _ => rfl
  intro d
  induction d with
  | zero =>
    intro k n2 hk hn
    obtain ⟨n2, rfl⟩ : ∃ k, n2 = k + 1 := ⟨n2 - 1, by omega⟩
    subst hp
    obtain rfl : k = p := by omega
    have e0 : (cq.sv k).drop k = [] := List.drop_of_length_le (by rw [cq.sv_length]; omega)
    rw [round2, e0]
    simp -implicitDefEqProofs only [Int.lt_irrefl, List.all_nil, wrap_nat i (by omega), and_self, decide_true, decide_false, Bool.and_self, Bool.or_self, Bool.and_true, Bool.true_and, Bool.and_false, Bool.false_and, Bool.or_true, Bool.true_or, Bool.or_false, Bool.false_or, Bool.not_true, Bool.not_false, cond_true, cond_false]
  | succ d ih =>
    intro k n2 hk hn
    obtain ⟨n2, rfl⟩ : ∃ k, n2 = k + 1 := ⟨n2 - 1, by omega⟩
    subst hp
    have k1 : k < p := by omega
    have k4 : (0 : Int) ≤ (k : Int) := Int.natCast_nonneg _
    have k5 : (k : Int) < (p : Int) := by omega
    have k2 : k < fs.length := by omega
    have k2' : k < rm.length := by omega
    have lk := rms.row_len hv k2
    have lk' : (gr fs k).length ≤ 4611686018427387904 := by omega
    have gk : ¬ (gz rm k < 0) := by have := (hg' k k2).1; omega
    have hih := ih (k + 1) n2 (by omega) (by omega)
    rw [cq.sv_drop k1, List.all_cons, round2]
    by_cases c1 : (i : Int) = (k : Int)
    · have ck : i = k := by omega
      have hb : rms.bl.sp fs rm (i : Int) (k : Int) = false := by rw [← ck]; exact rms.bl_self hv h2
      have c1' : decide ((i : Int) = (k : Int)) = true := decide_eq_true c1
      simp -implicitDefEqProofs only [h4, h5, h2, h2', k4, k5, k2, k2', e, c1', hb, Int.toNat_natCast, wrap_nat k (by omega), and_self, decide_true, decide_false, Bool.and_self, Bool.or_self, Bool.and_true, Bool.true_and, Bool.and_false, Bool.false_and, Bool.or_true, Bool.true_or, Bool.or_false, Bool.false_or, Bool.not_true, Bool.not_false, cond_true, cond_false]
      exact hih
    · by_cases c2 : gz rm i = (k : Int)
      · have hb : rms.bl.sp fs rm (i : Int) (k : Int) = false := rms.bl_same (by rw [Int.toNat_natCast]; exact c2)
        simp -implicitDefEqProofs only [h4, h5, h2, h2', k4, k5, k2, k2', e, c1, c2, hb, Int.toNat_natCast, wrap_nat k (by omega), and_self, decide_true, decide_false, Bool.and_self, Bool.or_self, Bool.and_true, Bool.true_and, Bool.and_false, Bool.false_and, Bool.or_true, Bool.true_or, Bool.or_false, Bool.false_or, Bool.not_true, Bool.not_false, cond_true, cond_false]
        exact hih
      · have hb : rms.bl.sp fs rm (i : Int) (k : Int) = (decide (pl.sv (k : Int) (gr fs i) < pl.sv (gz rm i) (gr fs i)) && decide (pl.sv (i : Int) (gr fs k) < pl.sv (gz rm k) (gr fs k))) := by unfold rms.bl.sp; rw [Int.toNat_natCast, Int.toNat_natCast]
        rw [hb]
        simp -implicitDefEqProofs only [h4, h5, h2, h2', k4, k5, k2, k2', e, c1, c2, gi, gk, li', lk', Int.toNat_natCast, wrap_nat k (by omega), and_self, decide_true, decide_false, Bool.and_self, Bool.or_self, Bool.and_true, Bool.true_and, Bool.and_false, Bool.false_and, Bool.or_true, Bool.true_or, Bool.or_false, Bool.false_or, Bool.not_true, Bool.not_false, cond_true, cond_false]
        by_cases d1 : pl.sv (k : Int) (gr fs i) < pl.sv (gz rm i) (gr fs i)
        · by_cases d2 : pl.sv (i : Int) (gr fs k) < pl.sv (gz rm k) (gr fs k)
          · simp -implicitDefEqProofs only [d1, d2, and_self, decide_true, decide_false, Bool.and_self, Bool.or_self, Bool.and_true, Bool.true_and, Bool.and_false, Bool.false_and, Bool.or_true, Bool.true_or, Bool.or_false, Bool.false_or, Bool.not_true, Bool.not_false, cond_true, cond_false]
          · simp -implicitDefEqProofs only [d1, d2, and_self, decide_true, decide_false, Bool.and_self, Bool.or_self, Bool.and_true, Bool.true_and, Bool.and_false, Bool.false_and, Bool.or_true, Bool.true_or, Bool.or_false, Bool.false_or, Bool.not_true, Bool.not_false, cond_true, cond_false]; exact hih
        · simp -implicitDefEqProofs only [d1, and_self, decide_true, decide_false, Bool.and_self, Bool.or_self, Bool.and_true, Bool.true_and, Bool.and_false, Bool.false_and, Bool.or_true, Bool.true_or, Bool.or_false, Bool.false_or, Bool.not_true, Bool.not_false, cond_true, cond_false]; exact hih
theorem outer (fs : List (List Int)) (rm : List Int) (m p f : Nat) (hm : m = fs.length) (hp : p = m) (hv : rms.va.sp fs = true) (hg : rms.rg.sp fs.length 0 rm = true) (hf : m < f) : ∀ (d i n : Nat), i + d = m → d < n →
    L1 f n (mkS 52 [(0, .ro (.rows .i64 fs) m 1), (1, .ro (.ints .i64 rm) p 1), (4, .bool false), (8, .int .i64 p), (9, .int .i64 i)] []) = some (.bool (((cq.sv m).drop i).all fun i => rms.q1.sp fs rm i), []) := by
  intro d
  induction d with
  | zero =>
    intro i n hi hn
    obtain ⟨n, rfl⟩ : ∃ k, n = k + 1 := ⟨n - 1, by omega⟩
    subst hp
    obtain rfl : i = p := by omega
    have e0 : (cq.sv i).drop i = [] := List.drop_of_length_le (by rw [cq.sv_length]; omega)
    rw [round1, e0]
    simp -implicitDefEqProofs only [Int.lt_irrefl, List.all_nil, and_self, decide_true, decide_false, Bool.and_self, Bool.or_self, Bool.and_true, Bool.true_and, Bool.and_false, Bool.false_and, Bool.or_true, Bool.true_or, Bool.or_false, Bool.false_or, Bool.not_true, Bool.not_false, cond_true, cond_false]
  | succ d ih =>
    intro i n hi hn
    obtain ⟨n, rfl⟩ : ∃ k, n = k + 1 := ⟨n - 1, by omega⟩
    have h5 : (i : Int) < (p : Int) := by omega
    have hih := ih (i + 1) n (by omega) (by omega)
    have hin := inner fs rm m p f n i hm hp hv hg (by omega) m 0 f (by omega) hf
    rw [List.drop_zero] at hin
    have hq : ((cq.sv m).all fun k => !rms.bl.sp fs rm (i : Int) k) = rms.q1.sp fs rm (i : Int) := by unfold rms.q1.sp; rw [hm]
    rw [hq] at hin
    rw [round1, cq.sv_drop (by omega : i < m), List.all_cons]
    simp -implicitDefEqProofs only [h5, and_self, decide_true, decide_false, Bool.and_self, Bool.or_self, Bool.and_true, Bool.true_and, Bool.and_false, Bool.false_and, Bool.or_true, Bool.true_or, Bool.or_false, Bool.false_or, Bool.not_true, Bool.not_false, cond_true, cond_false]
    refine Eq.trans hin ?_
    rw [hih]
    cases rms.q1.sp fs rm (i : Int)
    · simp -implicitDefEqProofs only [and_self, decide_true, decide_false, Bool.and_self, Bool.or_self, Bool.and_true, Bool.true_and, Bool.and_false, Bool.false_and, Bool.or_true, Bool.true_or, Bool.or_false, Bool.false_or, Bool.not_true, Bool.not_false, cond_true, cond_false]
    · simp -implicitDefEqProofs only [and_self, decide_true, decide_false, Bool.and_self, Bool.or_self, Bool.and_true, Bool.true_and, Bool.and_false, Bool.false_and, Bool.or_true, Bool.true_or, Bool.or_false, Bool.false_or, Bool.not_true, Bool.not_false, cond_true, cond_false]
theorem run : ∀ args v new, R args = some (true, v, new) → ∃ fuel, runFn Try.prog (orc [⟨115, l05Dearer.R⟩]) hd Dr.std none fuel (bodyOf Try.f95) 52 [4] args [] = some (v, new) := by
  intro args v new h
  unfold R at h
  split at h
  · rename_i fs m rm p
    simp only [Option.some.injEq, Prod.mk.injEq, Bool.and_eq_true, decide_eq_true_eq] at h
    obtain ⟨⟨⟨rfl, rfl⟩, hv, hg⟩, rfl, rfl⟩ := h
    obtain ⟨F, hF⟩ : ∃ F : Nat, F = fs.length + 1 := ⟨_, rfl⟩
    refine ⟨F, ?_⟩
    rw [start]
    have hl := outer fs rm fs.length fs.length F rfl rfl hv hg (by omega) fs.length 0 F (by omega) (by omega)
    rw [List.drop_zero] at hl
    exact hl
  · cases h
theorem ok : EntOk Try.prog ⟨95, R⟩ :=
  ent_okA mixed (A := (orc [⟨115, l05Dearer.R⟩])) (orc_ok (by simp only [List.mem_cons, List.not_mem_nil, or_false, forall_eq_or_imp, forall_eq]; exact l05Dearer.ok)) Try.func95 (by kernel_rfl) (by kernel_rfl) (n := 52) (ts := [4]) (hd := hd) (dr := Dr.std) (cut := none) (by kernel_rfl) (by kernel_rfl) (by kernel_rfl) run
end l05Quiet

namespace keepRooms
def R : List AVal → Option (Bool × AVal × List Blk)
  | [.ro (.rows .i64 fs) m 1, .ro (.ints .i64 rm) p 1] => some (decide (m = fs.length ∧ p = m) && (rms.va.sp fs && rms.rg.sp m 0 rm), .bool (rms.q.sp fs rm), [])
  | _ => none
def hd : Nat → Head := fun i => bif eqN i 0 then ⟨[0, 1, 4, 9, 10, 11], none⟩ else ⟨[0, 1, 4, 5, 6, 9, 10, 11, 16, 17, 18], none⟩
noncomputable def L1 (f n : Nat) (s : State) := loopAt Try.prog (orc [⟨86, iDearer.R⟩]) hd Dr.std 0 f (bodyOf Try.f60) 0 [true, false, true] (retK Try.prog [4] 0 none) n s
noncomputable def L2 (f n n2 : Nat) (s : State) := loopAt Try.prog (orc [⟨86, iDearer.R⟩]) hd Dr.std 0 f (bodyAt (bodyOf Try.f60) [true, false, true]) (curAt (bodyOf Try.f60) 0 [true, false, true]) [true, true, false, true, true] (iterK (normE 0 (hd (curAt (bodyOf Try.f60) 0 [true, false, true]))) (L1 f n) (contAt Try.prog (orc [⟨86, iDearer.R⟩]) hd Dr.std 0 f (bodyOf Try.f60) 0 [true, false, true] (retK Try.prog [4] 0 none))) n2 s
theorem start (fs : List (List Int)) (rm : List Int) (m p : Nat) (f : Nat) :
  runFn Try.prog (orc [⟨86, iDearer.R⟩]) hd Dr.std none f (bodyOf Try.f60) 43 [4] [.ro (.rows .i64 fs) m 1, .ro (.ints .i64 rm) p 1] []
  = (L1 f f (mkS (43 : Nat) [((0 : Nat), AVal.ro (Cont.rows IntKind.i64 fs) m (1 : Nat)), ((1 : Nat), AVal.ro (Cont.ints IntKind.i64 rm) p (1 : Nat)), ((4 : Nat), AVal.bool false), ((9 : Nat), AVal.ro (Cont.rows IntKind.i64 fs) m (1 : Nat)), ((10 : Nat), AVal.int IntKind.i64 (↑m : Int)), ((11 : Nat), AVal.int IntKind.i64 (0 : Int))] [])) := by kernel_rfl
theorem round1 (fs : List (List Int)) (rm : List Int) (m p : Nat) (i f n : Nat) :
  L1 f (n + 1) (mkS 43 [(0, .ro (.rows .i64 fs) m 1), (1, .ro (.ints .i64 rm) p 1), (4, .bool false), (9, .ro (.rows .i64 fs) m 1), (10, .int .i64 m), (11, .int .i64 i)] [])
  = (bif decide ((↑i : Int) < (↑m : Int)) then bif true && (decide ((0 : Int) ≤ (↑i : Int)) && decide ((↑i : Int) < (↑m : Int))) then bif decide ((↑i : Int).toNat < fs.length) then L2 f n f (mkS (43 : Nat) [((0 : Nat), AVal.ro (Cont.rows IntKind.i64 fs) m (1 : Nat)), ((1 : Nat), AVal.ro (Cont.ints IntKind.i64 rm) p (1 : Nat)), ((4 : Nat), AVal.bool false), ((5 : Nat), AVal.int IntKind.i64 (↑i : Int)), ((6 : Nat), AVal.ro (Cont.ints IntKind.i64 (gr fs (↑i : Int).toNat)) (gr fs (↑i : Int).toNat).length (1 : Nat)), ((9 : Nat), AVal.ro (Cont.rows IntKind.i64 fs) m (1 : Nat)), ((10 : Nat), AVal.int IntKind.i64 (↑m : Int)), ((11 : Nat), AVal.int IntKind.i64 (↑i : Int)), ((16 : Nat), AVal.ro (Cont.ints IntKind.i64 (gr fs (↑i : Int).toNat)) (gr fs (↑i : Int).toNat).length (1 : Nat)), ((17 : Nat), AVal.int IntKind.i64 (↑(gr fs (↑i : Int).toNat).length : Int)), ((18 : Nat), AVal.int IntKind.i64 (0 : Int))] []) else none else none else some (AVal.bool true, [])) := by kernel_rfl
theorem round2 (fs : List (List Int)) (rm : List Int) (m p : Nat) (xs : List Int) (z i k f n n2 : Nat) :
  L2 f n (n2 + 1) (mkS 43 [(0, .ro (.rows .i64 fs) m 1), (1, .ro (.ints .i64 rm) p 1), (4, .bool false), (5, .int .i64 i), (6, .ro (.ints .i64 xs) z 1), (9, .ro (.rows .i64 fs) m 1), (10, .int .i64 m), (11, .int .i64 i), (16, .ro (.ints .i64 xs) z 1), (17, .int .i64 z), (18, .int .i64 (k : Nat))] [])
  = (bif decide ((↑k : Int) < (↑z : Int)) then bif true && (decide ((0 : Int) ≤ (↑k : Int)) && decide ((↑k : Int) < (↑z : Int))) then bif decide ((↑k : Int).toNat < xs.length) then bif true && (decide ((0 : Int) ≤ (↑i : Int)) && decide ((↑i : Int) < (↑p : Int))) then bif decide ((↑i : Int).toNat < rm.length) then bif decide (z = xs.length ∧ z ≤ (4611686018427387904 : Nat)) && (true && (true && (true && true)) || true && true) then bif decide (pl.sv (gz xs (↑k : Int).toNat) xs < pl.sv (gz rm (↑i : Int).toNat) xs) then bif true && (decide ((0 : Int) ≤ gz xs (↑k : Int).toNat) && decide (gz xs (↑k : Int).toNat < (↑m : Int))) then bif decide ((gz xs (↑k : Int).toNat).toNat < fs.length) then bif true && (decide ((0 : Int) ≤ gz xs (↑k : Int).toNat) && decide (gz xs (↑k : Int).toNat < (↑p : Int))) then bif decide ((gz xs (↑k : Int).toNat).toNat < rm.length) then bif decide ((gr fs (gz xs (↑k : Int).toNat).toNat).length = (gr fs (gz xs (↑k : Int).toNat).toNat).length ∧ (gr fs (gz xs (↑k : Int).toNat).toNat).length ≤ (4611686018427387904 : Nat)) && (true && (true && (true && true)) || true && true) then bif decide (pl.sv (↑i : Int) (gr fs (gz xs (↑k : Int).toNat).toNat) < pl.sv (gz rm (gz xs (↑k : Int).toNat).toNat) (gr fs (gz xs (↑k : Int).toNat).toNat)) then some (AVal.bool false, []) else L2 f n n2 (mkS (43 : Nat) [((0 : Nat), AVal.ro (Cont.rows IntKind.i64 fs) m (1 : Nat)), ((1 : Nat), AVal.ro (Cont.ints IntKind.i64 rm) p (1 : Nat)), ((4 : Nat), AVal.bool false), ((5 : Nat), AVal.int IntKind.i64 (↑i : Int)), ((6 : Nat), AVal.ro (Cont.ints IntKind.i64 xs) z (1 : Nat)), ((9 : Nat), AVal.ro (Cont.rows IntKind.i64 fs) m (1 : Nat)), ((10 : Nat), AVal.int IntKind.i64 (↑m : Int)), ((11 : Nat), AVal.int IntKind.i64 (↑i : Int)), ((16 : Nat), AVal.ro (Cont.ints IntKind.i64 xs) z (1 : Nat)), ((17 : Nat), AVal.int IntKind.i64 (↑z : Int)), ((18 : Nat), AVal.int IntKind.i64 (IntKind.i64.wrap ((↑k : Int) + (1 : Int))))] []) else none else none else none else none else none else L2 f n n2 (mkS (43 : Nat) [((0 : Nat), AVal.ro (Cont.rows IntKind.i64 fs) m (1 : Nat)), ((1 : Nat), AVal.ro (Cont.ints IntKind.i64 rm) p (1 : Nat)), ((4 : Nat), AVal.bool false), ((5 : Nat), AVal.int IntKind.i64 (↑i : Int)), ((6 : Nat), AVal.ro (Cont.ints IntKind.i64 xs) z (1 : Nat)), ((9 : Nat), AVal.ro (Cont.rows IntKind.i64 fs) m (1 : Nat)), ((10 : Nat), AVal.int IntKind.i64 (↑m : Int)), ((11 : Nat), AVal.int IntKind.i64 (↑i : Int)), ((16 : Nat), AVal.ro (Cont.ints IntKind.i64 xs) z (1 : Nat)), ((17 : Nat), AVal.int IntKind.i64 (↑z : Int)), ((18 : Nat), AVal.int IntKind.i64 (IntKind.i64.wrap ((↑k : Int) + (1 : Int))))] []) else none else none else none else none else none else L1 f n (mkS (43 : Nat) [((0 : Nat), AVal.ro (Cont.rows IntKind.i64 fs) m (1 : Nat)), ((1 : Nat), AVal.ro (Cont.ints IntKind.i64 rm) p (1 : Nat)), ((4 : Nat), AVal.bool false), ((9 : Nat), AVal.ro (Cont.rows IntKind.i64 fs) m (1 : Nat)), ((10 : Nat), AVal.int IntKind.i64 (↑m : Int)), ((11 : Nat), AVal.int IntKind.i64 (IntKind.i64.wrap ((↑i : Int) + (1 : Int))))] [])) := by kernel_rfl
theorem inner (fs : List (List Int)) (rm : List Int) (m p f n i : Nat) (hm : m = fs.length) (hp : p = m) (hv : rms.va.sp fs = true) (hg : rms.rg.sp fs.length 0 rm = true) (hi : i < m) : ∀ (d k n2 : Nat), k + d = (gr fs i).length → d < n2 →
    L2 f n n2 (mkS 43 [(0, .ro (.rows .i64 fs) m 1), (1, .ro (.ints .i64 rm) p 1), (4, .bool false), (5, .int .i64 i), (6, .ro (.ints .i64 (gr fs i)) (gr fs i).length 1), (9, .ro (.rows .i64 fs) m 1), (10, .int .i64 m), (11, .int .i64 i), (16, .ro (.ints .i64 (gr fs i)) (gr fs i).length 1), (17, .int .i64 (gr fs i).length), (18, .int .i64 (k : Nat))] []) = bif ((gr fs i).drop k).all (fun k => !rms.bl.sp fs rm (i : Int) k) then L1 f n (mkS 43 [(0, .ro (.rows .i64 fs) m 1), (1, .ro (.ints .i64 rm) p 1), (4, .bool false), (9, .ro (.rows .i64 fs) m 1), (10, .int .i64 m), (11, .int .i64 ((i + 1 : Nat) : Int))] []) else some (.bool false, []) := by
  obtain ⟨hl, hg'⟩ := rms.rg_get hg
  obtain ⟨hn2, hn8⟩ := rms.va_len hv
  have h4 : (0 : Int) ≤ (i : Int) := Int.natCast_nonneg _
  have h5 : (i : Int) < (p : Int) := by omega
  have h2 : i < fs.length := by omega
  have h2' : i < rm.length := by omega
  have li := rms.row_len hv h2
  have li' : (gr fs i).length ≤ 4611686018427387904 := by omega
  intro d
  induction d with
  | zero =>
    intro k n2 hk hn
    obtain ⟨n2, rfl⟩ : ∃ k, n2 = k + 1 := ⟨n2 - 1, by omega⟩
    obtain rfl : k = (gr fs i).length := by omega
    have e0 : (gr fs i).drop (gr fs i).length = [] := List.drop_of_length_le (Nat.le_refl _)
    rw [round2, e0]
    simp -implicitDefEqProofs only [Int.lt_irrefl, List.all_nil, wrap_nat i (by omega), and_self, decide_true, decide_false, Bool.and_self, Bool.or_self, Bool.and_true, Bool.true_and, Bool.and_false, Bool.false_and, Bool.or_true, Bool.true_or, Bool.or_false, Bool.false_or, Bool.not_true, Bool.not_false, cond_true, cond_false]
  | succ d ih =>
    intro k n2 hk hn
    obtain ⟨n2, rfl⟩ : ∃ k, n2 = k + 1 := ⟨n2 - 1, by omega⟩
    have k1 : k < (gr fs i).length := by omega
    have k4 : (0 : Int) ≤ (k : Int) := Int.natCast_nonneg _
    have k5 : (k : Int) < ((gr fs i).length : Int) := by omega
    obtain ⟨b0, b1⟩ := rms.row_in hv h2 k k1
    obtain ⟨j, hj⟩ : ∃ j : Nat, gz (gr fs i) k = (j : Int) := ⟨(gz (gr fs i) k).toNat, by omega⟩
    rw [hj] at b0 b1
    have j2 : j < fs.length := by omega
    have j2' : j < rm.length := by omega
    have j5 : (j : Int) < (p : Int) := by omega
    have j6 : (j : Int) < (m : Int) := by omega
    have lj := rms.row_len hv j2
    have lj' : (gr fs j).length ≤ 4611686018427387904 := by omega
    have hih := ih (k + 1) n2 (by omega) (by omega)
    have hdr : (gr fs i).drop k = (j : Int) :: (gr fs i).drop (k + 1) := by rw [← hj, gz_eq k1]; exact List.drop_eq_getElem_cons k1
    have hb : rms.bl.sp fs rm (i : Int) (j : Int) = (decide (pl.sv (j : Int) (gr fs i) < pl.sv (gz rm i) (gr fs i)) && decide (pl.sv (i : Int) (gr fs j) < pl.sv (gz rm j) (gr fs j))) := by unfold rms.bl.sp; rw [Int.toNat_natCast, Int.toNat_natCast]
    rw [hdr, List.all_cons, round2, hb]
    simp -implicitDefEqProofs only [h4, h5, h2, h2', k4, k5, k1, hj, b0, j2, j2', j5, j6, li', lj', Int.toNat_natCast, wrap_nat k (by omega), and_self, decide_true, decide_false, Bool.and_self, Bool.or_self, Bool.and_true, Bool.true_and, Bool.and_false, Bool.false_and, Bool.or_true, Bool.true_or, Bool.or_false, Bool.false_or, Bool.not_true, Bool.not_false, cond_true, cond_false]
    by_cases d1 : pl.sv (j : Int) (gr fs i) < pl.sv (gz rm i) (gr fs i)
    · by_cases d2 : pl.sv (i : Int) (gr fs j) < pl.sv (gz rm j) (gr fs j)
      · simp -implicitDefEqProofs only [d1, d2, and_self, decide_true, decide_false, Bool.and_self, Bool.or_self, Bool.and_true, Bool.true_and, Bool.and_false, Bool.false_and, Bool.or_true, Bool.true_or, Bool.or_false, Bool.false_or, Bool.not_true, Bool.not_false, cond_true, cond_false]
      · simp -implicitDefEqProofs only [d1, d2, and_self, decide_true, decide_false, Bool.and_self, Bool.or_self, Bool.and_true, Bool.true_and, Bool.and_false, Bool.false_and, Bool.or_true, Bool.true_or, Bool.or_false, Bool.false_or, Bool.not_true, Bool.not_false, cond_true, cond_false]; exact hih
    · simp -implicitDefEqProofs only [d1, and_self, decide_true, decide_false, Bool.and_self, Bool.or_self, Bool.and_true, Bool.true_and, Bool.and_false, Bool.false_and, Bool.or_true, Bool.true_or, Bool.or_false, Bool.false_or, Bool.not_true, Bool.not_false, cond_true, cond_false]; exact hih
theorem outer (fs : List (List Int)) (rm : List Int) (m p f : Nat) (hm : m = fs.length) (hp : p = m) (hv : rms.va.sp fs = true) (hg : rms.rg.sp fs.length 0 rm = true) (hf : m < f) : ∀ (d i n : Nat), i + d = m → d < n →
    L1 f n (mkS 43 [(0, .ro (.rows .i64 fs) m 1), (1, .ro (.ints .i64 rm) p 1), (4, .bool false), (9, .ro (.rows .i64 fs) m 1), (10, .int .i64 m), (11, .int .i64 i)] []) = some (.bool (((cq.sv m).drop i).all fun i => rms.q1.sp fs rm i), []) := by
  intro d
  induction d with
  | zero =>
    intro i n hi hn
    obtain ⟨n, rfl⟩ : ∃ k, n = k + 1 := ⟨n - 1, by omega⟩
    obtain rfl : i = m := by omega
    have e0 : (cq.sv i).drop i = [] := List.drop_of_length_le (by rw [cq.sv_length]; omega)
    rw [round1, e0]
    simp -implicitDefEqProofs only [Int.lt_irrefl, List.all_nil, and_self, decide_true, decide_false, Bool.and_self, Bool.or_self, Bool.and_true, Bool.true_and, Bool.and_false, Bool.false_and, Bool.or_true, Bool.true_or, Bool.or_false, Bool.false_or, Bool.not_true, Bool.not_false, cond_true, cond_false]
  | succ d ih =>
    intro i n hi hn
    obtain ⟨n, rfl⟩ : ∃ k, n = k + 1 := ⟨n - 1, by omega⟩
    have h4 : (0 : Int) ≤ (i : Int) := Int.natCast_nonneg _
    have h5 : (i : Int) < (m : Int) := by omega
    have h2 : i < fs.length := by omega
    have li := rms.row_len hv h2
    have hih := ih (i + 1) n (by omega) (by omega)
    have hin := inner fs rm m p f n i hm hp hv hg (by omega) (gr fs i).length 0 f (by omega) (by omega)
    rw [List.drop_zero, rms.q1_row hv rm h2] at hin
    rw [round1, cq.sv_drop (by omega : i < m), List.all_cons]
    simp -implicitDefEqProofs only [h4, h5, h2, Int.toNat_natCast, and_self, decide_true, decide_false, Bool.and_self, Bool.or_self, Bool.and_true, Bool.true_and, Bool.and_false, Bool.false_and, Bool.or_true, Bool.true_or, Bool.or_false, Bool.false_or, Bool.not_true, Bool.not_false, cond_true, cond_false]
    refine Eq.trans hin ?_
    rw [hih]
    cases rms.q1.sp fs rm (i : Int)
    · simp -implicitDefEqProofs only [and_self, decide_true, decide_false, Bool.and_self, Bool.or_self, Bool.and_true, Bool.true_and, Bool.and_false, Bool.false_and, Bool.or_true, Bool.true_or, Bool.or_false, Bool.false_or, Bool.not_true, Bool.not_false, cond_true, cond_false]
    · simp -implicitDefEqProofs only [and_self, decide_true, decide_false, Bool.and_self, Bool.or_self, Bool.and_true, Bool.true_and, Bool.and_false, Bool.false_and, Bool.or_true, Bool.true_or, Bool.or_false, Bool.false_or, Bool.not_true, Bool.not_false, cond_true, cond_false]
theorem run : ∀ args v new, R args = some (true, v, new) → ∃ fuel, runFn Try.prog (orc [⟨86, iDearer.R⟩]) hd Dr.std none fuel (bodyOf Try.f60) 43 [4] args [] = some (v, new) := by
  intro args v new h
  unfold R at h
  split at h
  · rename_i fs m rm p
    simp only [Option.some.injEq, Prod.mk.injEq, Bool.and_eq_true, decide_eq_true_eq] at h
    obtain ⟨⟨⟨rfl, rfl⟩, hv, hg⟩, rfl, rfl⟩ := h
    obtain ⟨F, hF⟩ : ∃ F : Nat, F = fs.length + 1 := ⟨_, rfl⟩
    refine ⟨F, ?_⟩
    rw [start]
    have hl := outer fs rm fs.length fs.length F rfl rfl hv hg (by omega) fs.length 0 F (by omega) (by omega)
    rw [List.drop_zero] at hl
    exact hl
  · cases h
theorem ok : EntOk Try.prog ⟨60, R⟩ :=
  ent_okA mixed (A := (orc [⟨86, iDearer.R⟩])) (orc_ok (by simp only [List.mem_cons, List.not_mem_nil, or_false, forall_eq_or_imp, forall_eq]; exact iDearer.ok)) Try.func60 (by kernel_rfl) (by kernel_rfl) (n := 43) (ts := [4]) (hd := hd) (dr := Dr.std) (cut := none) (by kernel_rfl) (by kernel_rfl) (by kernel_rfl) run
end keepRooms

end Go.Proofs.Ytchebdconomdoaa.Ab
