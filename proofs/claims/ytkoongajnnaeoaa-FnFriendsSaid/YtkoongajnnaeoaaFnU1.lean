/-
  Functions: friends: what is valid, what is quiet.
-/
import Derived.Test.YtkoongajnnaeoaaFnUM
import Derived.Test.YtkoongajnnaeoaaFnTt
import Derived.Test.YtkoongajnnaeoaaAbLaw
namespace Go.Proofs.Ytkoongajnnaeoaa.Ab
open Go
set_option linter.unusedVariables false
set_option linter.unusedSimpArgs false
set_option maxRecDepth 100000

set_option maxRecDepth 100000
namespace l05Friends
def R : List AVal → Option (Bool × AVal × List Blk)
  | [.ro (.rows .i64 fs) m 1] => some (decide (m = fs.length ∧ m ≤ 4611686018427387904) && short.sp 4611686018427387904 fs, .bool (rms.va.sp fs), [])
  | _ => none
def hd : Nat → Head := fun _ => ⟨[0, 2, 3, 25, 26], none⟩
noncomputable def L (f n : Nat) (s : State) := loopAt Try.prog (orc [⟨135, l05Lists.R⟩, ⟨149, l00Has.R⟩]) hd Dr.std 0 f (bodyOf Try.f111) 0 [true, true, true, false, true] (retK Try.prog [2] 0 none) n s
theorem start (fs : List (List Int)) (m : Nat) (f : Nat) :
  runFn Try.prog (orc [⟨135, l05Lists.R⟩, ⟨149, l00Has.R⟩]) hd Dr.std none f (bodyOf Try.f111) 46 [2] [.ro (.rows .i64 fs) m 1] []
  = (bif decide ((↑m : Int) < (2 : Int)) then some (AVal.bool false, []) else bif decide ((8 : Int) < (↑m : Int)) then some (AVal.bool false, []) else bif (↑m : Int).tmod (2 : Int) != (0 : Int) then some (AVal.bool false, []) else bif decide (m = fs.length ∧ m ≤ (4611686018427387904 : Nat) ∧ (0 : Int) ≤ (↑m : Int) ∧ (↑m : Int) ≤ (4611686018427387904 : Int)) && short.sp (4611686018427387904 : Nat) fs && (true && (true && true) || true && true) then bif !(lo.sp (↑m : Int) fs && decide ((↑m : Int) = (↑m : Int))) then some (AVal.bool false, []) else L f f (mkS (46 : Nat) [((0 : Nat), AVal.ro (Cont.rows IntKind.i64 fs) m (1 : Nat)), ((2 : Nat), AVal.bool false), ((3 : Nat), AVal.int IntKind.i64 (↑m : Int)), ((25 : Nat), AVal.int IntKind.i64 (↑m : Int)), ((26 : Nat), AVal.int IntKind.i64 (0 : Int))] []) else none) := by kernel_rfl
theorem round (fs : List (List Int)) (m i f n : Nat) :
  L f (n + 1) (mkS 46 [(0, .ro (.rows .i64 fs) m 1), (2, .bool false), (3, .int .i64 m), (25, .int .i64 m), (26, .int .i64 i)] [])
  = (bif decide ((↑i : Int) < (↑m : Int)) then bif true && (decide ((0 : Int) ≤ (↑i : Int)) && decide ((↑i : Int) < (↑m : Int))) then bif decide ((↑i : Int).toNat < fs.length) then bif (↑(gr fs (↑i : Int).toNat).length : Int) != IntKind.i64.wrap ((↑m : Int) - (1 : Int)) then some (AVal.bool false, []) else bif true && (decide ((0 : Int) ≤ (↑i : Int)) && decide ((↑i : Int) < (↑m : Int))) then bif decide ((↑i : Int).toNat < fs.length) then bif decide ((gr fs (↑i : Int).toNat).length ≤ (gr fs (↑i : Int).toNat).length ∧ (gr fs (↑i : Int).toNat).length ≤ (4611686018427387904 : Nat)) && (true && (true && true) || true && true) then bif (List.take (gr fs (↑i : Int).toNat).length (gr fs (↑i : Int).toNat)).any (has.sp (↑i : Int)) then some (AVal.bool false, []) else L f n (mkS (46 : Nat) [((0 : Nat), AVal.ro (Cont.rows IntKind.i64 fs) m (1 : Nat)), ((2 : Nat), AVal.bool false), ((3 : Nat), AVal.int IntKind.i64 (↑m : Int)), ((25 : Nat), AVal.int IntKind.i64 (↑m : Int)), ((26 : Nat), AVal.int IntKind.i64 (IntKind.i64.wrap ((↑i : Int) + (1 : Int))))] []) else none else none else none else none else none else some (AVal.bool true, [])) := by kernel_rfl
theorem loop (fs : List (List Int)) (m : Nat) (f : Nat) (hm : m = fs.length) (hb : m ≤ 1000) (hs : short.sp 4611686018427387904 fs = true) : ∀ (d i n : Nat) , i + d = m → d < n →
    L f n (mkS 46 [(0, .ro (.rows .i64 fs) m 1), (2, .bool false), (3, .int .i64 m), (25, .int .i64 m), (26, .int .i64 i)] []) = some (.bool (rms.al2.sq m (fs.drop i) i), []) := by
  intro d
  induction d with
  | zero =>
    intro i n  hi hn 
    obtain ⟨n, rfl⟩ : ∃ k, n = k + 1 := ⟨n - 1, by omega⟩
    obtain rfl : i = m := by omega
    rw [round]
    have e : fs.drop i = [] := List.drop_of_length_le (by omega)
    simp -implicitDefEqProofs only [e, Int.lt_irrefl, rms.al2.sq, and_self, decide_true, decide_false, Bool.and_self, Bool.or_self, Bool.and_true, Bool.true_and, Bool.and_false, Bool.false_and, Bool.or_true, Bool.true_or, Bool.or_false, Bool.false_or, Bool.not_true, Bool.not_false, cond_true, cond_false]
  | succ d ih =>
    intro i n  hi hn 
    obtain ⟨n, rfl⟩ : ∃ k, n = k + 1 := ⟨n - 1, by omega⟩
    have h1 : i < m := by omega
    have h4 : (0 : Int) ≤ (i : Int) := Int.natCast_nonneg _
    have h5 : (i : Int) < (m : Int) := by omega
    have h2 : i < fs.length := by omega
    rw [round]
    have hr := ih (i + 1) n (by omega) (by omega)
    have hl := short_get hs h2
    have w : IntKind.i64.wrap ((m : Int) - 1) = (m : Int) - 1 := IntWalk.i64_in _ (by omega)
    have e : ∀ a b : Int, (a != b) = !decide (a = b) := fun _ _ => rfl
    rw [List.drop_eq_getElem_cons h2]
    simp -implicitDefEqProofs only [rms.al2.sq, h4, h5, h2, gr_eq h2, hl, w, e, Nat.le_refl, List.take_length, Int.toNat_natCast, wrap_nat i (by omega), and_self, decide_true, decide_false, Bool.and_self, Bool.or_self, Bool.and_true, Bool.true_and, Bool.and_false, Bool.false_and, Bool.or_true, Bool.true_or, Bool.or_false, Bool.false_or, Bool.not_true, Bool.not_false, cond_true, cond_false]
    by_cases c : (fs[i].length : Int) = (m : Int) - 1
    · simp -implicitDefEqProofs only [c, and_self, decide_true, decide_false, Bool.and_self, Bool.or_self, Bool.and_true, Bool.true_and, Bool.and_false, Bool.false_and, Bool.or_true, Bool.true_or, Bool.or_false, Bool.false_or, Bool.not_true, Bool.not_false, cond_true, cond_false]
      cases fs[i].any (has.sp (i : Int))
      · simp -implicitDefEqProofs only [and_self, decide_true, decide_false, Bool.and_self, Bool.or_self, Bool.and_true, Bool.true_and, Bool.and_false, Bool.false_and, Bool.or_true, Bool.true_or, Bool.or_false, Bool.false_or, Bool.not_true, Bool.not_false, cond_true, cond_false]; exact hr
      · rfl
    · simp -implicitDefEqProofs only [c, and_self, decide_true, decide_false, Bool.and_self, Bool.or_self, Bool.and_true, Bool.true_and, Bool.and_false, Bool.false_and, Bool.or_true, Bool.true_or, Bool.or_false, Bool.false_or, Bool.not_true, Bool.not_false, cond_true, cond_false]
theorem run : ∀ args v new, R args = some (true, v, new) → ∃ fuel, runFn Try.prog (orc [⟨135, l05Lists.R⟩, ⟨149, l00Has.R⟩]) hd Dr.std none fuel (bodyOf Try.f111) 46 [2] args [] = some (v, new) := by
  intro args v new h
  unfold R at h
  split at h
  · rename_i fs m
    simp only [Option.some.injEq, Prod.mk.injEq, Bool.and_eq_true, decide_eq_true_eq] at h
    obtain ⟨⟨⟨rfl, h1⟩, hs⟩, rfl, rfl⟩ := h
    obtain ⟨F, hF⟩ : ∃ F : Nat, F = fs.length + 1 := ⟨_, rfl⟩
    refine ⟨F, ?_⟩
    rw [start]
    have e : ∀ a b : Int, (a != b) = !decide (a = b) := fun _ _ => rfl
    have g1 : (0 : Int) ≤ (fs.length : Int) := Int.natCast_nonneg _
    have g2 : (fs.length : Int) ≤ 4611686018427387904 := by omega
    unfold rms.va.sp rms.ev.sp
    rw [rms.al_al2]
    by_cases c1 : (fs.length : Int) < 2
    · have c1' : ¬ (2 ≤ (fs.length : Int)) := by omega
      simp -implicitDefEqProofs only [c1, c1', and_self, decide_true, decide_false, Bool.and_self, Bool.or_self, Bool.and_true, Bool.true_and, Bool.and_false, Bool.false_and, Bool.or_true, Bool.true_or, Bool.or_false, Bool.false_or, Bool.not_true, Bool.not_false, cond_true, cond_false]
    · have c1' : 2 ≤ (fs.length : Int) := by omega
      by_cases c2 : 8 < (fs.length : Int)
      · have c2' : ¬ ((fs.length : Int) ≤ 8) := by omega
        simp -implicitDefEqProofs only [c1, c1', c2, c2', and_self, decide_true, decide_false, Bool.and_self, Bool.or_self, Bool.and_true, Bool.true_and, Bool.and_false, Bool.false_and, Bool.or_true, Bool.true_or, Bool.or_false, Bool.false_or, Bool.not_true, Bool.not_false, cond_true, cond_false]
      · have c2' : (fs.length : Int) ≤ 8 := by omega
        by_cases c3 : Int.tmod (fs.length : Int) 2 = 0
        · have hl := loop fs fs.length F rfl (by omega) hs fs.length 0 F (by omega) (by omega)
          rw [List.drop_zero] at hl
          have hlo : (fs.all (rk.sp (fs.length : Int))) = lo.sp (fs.length : Int) fs := rfl
          rw [hlo]
          simp -implicitDefEqProofs only [c1, c1', c2, c2', c3, e, h1, hs, g1, g2, and_self, decide_true, decide_false, Bool.and_self, Bool.or_self, Bool.and_true, Bool.true_and, Bool.and_false, Bool.false_and, Bool.or_true, Bool.true_or, Bool.or_false, Bool.false_or, Bool.not_true, Bool.not_false, cond_true, cond_false]
          cases lo.sp (fs.length : Int) fs
          · simp -implicitDefEqProofs only [and_self, decide_true, decide_false, Bool.and_self, Bool.or_self, Bool.and_true, Bool.true_and, Bool.and_false, Bool.false_and, Bool.or_true, Bool.true_or, Bool.or_false, Bool.false_or, Bool.not_true, Bool.not_false, cond_true, cond_false]
          · simp -implicitDefEqProofs only [and_self, decide_true, decide_false, Bool.and_self, Bool.or_self, Bool.and_true, Bool.true_and, Bool.and_false, Bool.false_and, Bool.or_true, Bool.true_or, Bool.or_false, Bool.false_or, Bool.not_true, Bool.not_false, cond_true, cond_false]; exact hl
        · simp -implicitDefEqProofs only [c1, c1', c2, c2', c3, e, and_self, decide_true, decide_false, Bool.and_self, Bool.or_self, Bool.and_true, Bool.true_and, Bool.and_false, Bool.false_and, Bool.or_true, Bool.true_or, Bool.or_false, Bool.false_or, Bool.not_true, Bool.not_false, cond_true, cond_false]
  · cases h
theorem ok : EntOk Try.prog ⟨111, R⟩ :=
  ent_okA mixed (A := (orc [⟨135, l05Lists.R⟩, ⟨149, l00Has.R⟩])) (orc_ok (by simp only [List.mem_cons, List.not_mem_nil, or_false, forall_eq_or_imp, forall_eq]; exact ⟨l05Lists.ok, l00Has.ok⟩)) Try.func111 (by kernel_rfl) (by kernel_rfl) (n := 46) (ts := [2]) (hd := hd) (dr := Dr.std) (cut := none) (by kernel_rfl) (by kernel_rfl) (by kernel_rfl) run
end l05Friends

namespace areFriends
def R : List AVal → Option (Bool × AVal × List Blk)
  | [.ro (.rows .i64 fs) m 1] => some (decide (m = fs.length ∧ m ≤ 4611686018427387904) && short.sp 4611686018427387904 fs, .bool (rms.va.sp fs), [])
  | _ => none
def hd : Nat → Head := fun _ => ⟨[2, 3, 8, 9, 10], none⟩
noncomputable def L (f n : Nat) (s : State) := loopAt Try.prog (orc [⟨131, areWithin.R⟩, ⟨152, hasTwice.R⟩, ⟨116, slContains.R⟩, ⟨76, within.R⟩]) hd Dr.std 0 f (bodyOf Try.f107) 0 [true, true, false, true] (retK Try.prog [2] 0 none) n s
theorem start (fs : List (List Int)) (m : Nat) (f : Nat) :
  runFn Try.prog (orc [⟨131, areWithin.R⟩, ⟨152, hasTwice.R⟩, ⟨116, slContains.R⟩, ⟨76, within.R⟩]) hd Dr.std none f (bodyOf Try.f107) 44 [2] [.ro (.rows .i64 fs) m 1] []
  = (L f f (mkS (44 : Nat) [((2 : Nat), AVal.bool false), ((3 : Nat), AVal.int IntKind.i64 (↑m : Int)), ((8 : Nat), AVal.ro (Cont.rows IntKind.i64 fs) m (1 : Nat)), ((9 : Nat), AVal.int IntKind.i64 (↑m : Int)), ((10 : Nat), AVal.int IntKind.i64 (0 : Int))] [])) := by kernel_rfl
theorem round (fs : List (List Int)) (m i f n : Nat) :
  L f (n + 1) (mkS 44 [(2, .bool false), (3, .int .i64 m), (8, .ro (.rows .i64 fs) m 1), (9, .int .i64 m), (10, .int .i64 i)] [])
  = (bif decide ((↑i : Int) < (↑m : Int)) then bif true && (decide ((0 : Int) ≤ (↑i : Int)) && decide ((↑i : Int) < (↑m : Int))) then bif decide ((↑i : Int).toNat < fs.length) then bif (↑(gr fs (↑i : Int).toNat).length : Int) != IntKind.i64.wrap ((↑m : Int) - (1 : Int)) then some (AVal.bool false, []) else bif decide ((gr fs (↑i : Int).toNat).length ≤ (gr fs (↑i : Int).toNat).length ∧ (gr fs (↑i : Int).toNat).length ≤ (4611686018427387904 : Nat)) && (true && (true && (true && true)) || true && true) then bif !(List.take (gr fs (↑i : Int).toNat).length (gr fs (↑i : Int).toNat)).all fun x => decide ((0 : Int) ≤ x) && decide (x ≤ IntKind.i64.wrap ((↑m : Int) - (1 : Int))) then some (AVal.bool false, []) else bif decide ((gr fs (↑i : Int).toNat).length ≤ (gr fs (↑i : Int).toNat).length ∧ (gr fs (↑i : Int).toNat).length ≤ (4611686018427387904 : Nat)) && (true && true || true && true) then bif tws.sq [] (List.take (gr fs (↑i : Int).toNat).length (gr fs (↑i : Int).toNat)) then some (AVal.bool false, []) else bif decide ((gr fs (↑i : Int).toNat).length ≤ (gr fs (↑i : Int).toNat).length ∧ (gr fs (↑i : Int).toNat).length ≤ (4611686018427387904 : Nat)) && (true && (true && true) || true && true) then bif (List.take (gr fs (↑i : Int).toNat).length (gr fs (↑i : Int).toNat)).any (has.sp (↑i : Int)) then some (AVal.bool false, []) else L f n (mkS (44 : Nat) [((2 : Nat), AVal.bool false), ((3 : Nat), AVal.int IntKind.i64 (↑m : Int)), ((8 : Nat), AVal.ro (Cont.rows IntKind.i64 fs) m (1 : Nat)), ((9 : Nat), AVal.int IntKind.i64 (↑m : Int)), ((10 : Nat), AVal.int IntKind.i64 (IntKind.i64.wrap ((↑i : Int) + (1 : Int))))] []) else none else none else none else none else none else bif true && (true && true || true && true) then bif decide ((2 : Int) ≤ (↑m : Int)) && decide ((↑m : Int) ≤ (8 : Int)) then some (AVal.bool ((↑m : Int).tmod (2 : Int) == (0 : Int)), []) else some (AVal.bool false, []) else none) := by kernel_rfl
theorem loop (fs : List (List Int)) (m : Nat) (f : Nat) (hm : m = fs.length) (hb : m ≤ 4611686018427387904) (hs : short.sp 4611686018427387904 fs = true) : ∀ (d i n : Nat) , i + d = m → d < n →
    L f n (mkS 44 [(2, .bool false), (3, .int .i64 m), (8, .ro (.rows .i64 fs) m 1), (9, .int .i64 m), (10, .int .i64 i)] []) = some (.bool (rms.al.sq m (fs.drop i) i && rms.ev.sp m), []) := by
  intro d
  induction d with
  | zero =>
    intro i n  hi hn 
    obtain ⟨n, rfl⟩ : ∃ k, n = k + 1 := ⟨n - 1, by omega⟩
    obtain rfl : i = m := by omega
    rw [round]
    have e : fs.drop i = [] := List.drop_of_length_le (by omega)
    have e2 : ∀ a b : Int, (a == b) = decide (a = b) := fun _ _ => rfl
    simp -implicitDefEqProofs only [e, Int.lt_irrefl, rms.al.sq, rms.ev.sp, e2, and_self, decide_true, decide_false, Bool.and_self, Bool.or_self, Bool.and_true, Bool.true_and, Bool.and_false, Bool.false_and, Bool.or_true, Bool.true_or, Bool.or_false, Bool.false_or, Bool.not_true, Bool.not_false, cond_true, cond_false]
    generalize decide (Int.tmod (i : Int) 2 = 0) = b1
    generalize decide ((2 : Int) ≤ (i : Int)) = b2
    generalize decide ((i : Int) ≤ 8) = b3
    cases b1 <;> cases b2 <;> cases b3 <;> rfl
  | succ d ih =>
    intro i n  hi hn 
    obtain ⟨n, rfl⟩ : ∃ k, n = k + 1 := ⟨n - 1, by omega⟩
    have h1 : i < m := by omega
    have h4 : (0 : Int) ≤ (i : Int) := Int.natCast_nonneg _
    have h5 : (i : Int) < (m : Int) := by omega
    have h2 : i < fs.length := by omega
    rw [round]
    have hr := ih (i + 1) n (by omega) (by omega)
    have hl := short_get hs h2
    have w : IntKind.i64.wrap ((m : Int) - 1) = (m : Int) - 1 := IntWalk.i64_in _ (by omega)
    have e : ∀ a b : Int, (a != b) = !decide (a = b) := fun _ _ => rfl
    have ea : (fs[i].all fun x => decide (0 ≤ x) && decide (x ≤ (m : Int) - 1)) = fs[i].all (iw.sp 0 ((m : Int) - 1)) := rfl
    have eu : rk.sp (m : Int) fs[i] = (fs[i].all (iw.sp 0 ((m : Int) - 1)) && !tws.sq [] fs[i]) := uniq_tws _ _ _
    rw [List.drop_eq_getElem_cons h2]
    simp -implicitDefEqProofs only [rms.al.sq, rms.row.sp, h4, h5, h2, gr_eq h2, hl, w, e, ea, eu, Nat.le_refl, List.take_length, Int.toNat_natCast, wrap_nat i (by omega), and_self, decide_true, decide_false, Bool.and_self, Bool.or_self, Bool.and_true, Bool.true_and, Bool.and_false, Bool.false_and, Bool.or_true, Bool.true_or, Bool.or_false, Bool.false_or, Bool.not_true, Bool.not_false, cond_true, cond_false]
    generalize fs[i].all (iw.sp 0 ((m : Int) - 1)) = b1
    generalize tws.sq [] fs[i] = b2
    generalize fs[i].any (has.sp (i : Int)) = b3
    by_cases c : (fs[i].length : Int) = (m : Int) - 1
    · simp -implicitDefEqProofs only [c, and_self, decide_true, decide_false, Bool.and_self, Bool.or_self, Bool.and_true, Bool.true_and, Bool.and_false, Bool.false_and, Bool.or_true, Bool.true_or, Bool.or_false, Bool.false_or, Bool.not_true, Bool.not_false, cond_true, cond_false]
      cases b1
      · rfl
      · cases b2
        · cases b3
          · simp -implicitDefEqProofs only [and_self, decide_true, decide_false, Bool.and_self, Bool.or_self, Bool.and_true, Bool.true_and, Bool.and_false, Bool.false_and, Bool.or_true, Bool.true_or, Bool.or_false, Bool.false_or, Bool.not_true, Bool.not_false, cond_true, cond_false]; exact hr
          · rfl
        · rfl
    · simp -implicitDefEqProofs only [c, and_self, decide_true, decide_false, Bool.and_self, Bool.or_self, Bool.and_true, Bool.true_and, Bool.and_false, Bool.false_and, Bool.or_true, Bool.true_or, Bool.or_false, Bool.false_or, Bool.not_true, Bool.not_false, cond_true, cond_false]
theorem run : ∀ args v new, R args = some (true, v, new) → ∃ fuel, runFn Try.prog (orc [⟨131, areWithin.R⟩, ⟨152, hasTwice.R⟩, ⟨116, slContains.R⟩, ⟨76, within.R⟩]) hd Dr.std none fuel (bodyOf Try.f107) 44 [2] args [] = some (v, new) := by
  intro args v new h
  unfold R at h
  split at h
  · rename_i fs m
    simp only [Option.some.injEq, Prod.mk.injEq, Bool.and_eq_true, decide_eq_true_eq] at h
    obtain ⟨⟨⟨rfl, h1⟩, hs⟩, rfl, rfl⟩ := h
    obtain ⟨F, hF⟩ : ∃ F : Nat, F = fs.length + 1 := ⟨_, rfl⟩
    refine ⟨F, ?_⟩
    rw [start]
    have hl := loop fs fs.length F rfl h1 hs fs.length 0 F (by omega) (by omega)
    rw [List.drop_zero, Bool.and_comm] at hl
    exact hl
  · cases h
theorem ok : EntOk Try.prog ⟨107, R⟩ :=
  ent_okA mixed (A := (orc [⟨131, areWithin.R⟩, ⟨152, hasTwice.R⟩, ⟨116, slContains.R⟩, ⟨76, within.R⟩])) (orc_ok (by simp only [List.mem_cons, List.not_mem_nil, or_false, forall_eq_or_imp, forall_eq]; exact ⟨areWithin.ok, hasTwice.ok, slContains.ok, within.ok⟩)) Try.func107 (by kernel_rfl) (by kernel_rfl) (n := 44) (ts := [2]) (hd := hd) (dr := Dr.std) (cut := none) (by kernel_rfl) (by kernel_rfl) (by kernel_rfl) run
end areFriends

namespace l05Dearer
def R : List AVal → Option (Bool × AVal × List Blk)
  | [.ro (.ints .i64 xs) m 1, .int .i64 x, .int .i64 h] => some (decide (m = xs.length ∧ m ≤ 4611686018427387904), .bool (bif decide (h < 0) then true else decide (pl.sv x xs < pl.sv h xs)), [])
  | _ => none
theorem go (xs : List Int) (m : Nat) (x h : Int) :
  runFn Try.prog (orc [⟨151, l05Place.R⟩]) hd0 Dr.std none 0 (bodyOf Try.f172) 18 [6] [.ro (.ints .i64 xs) m 1, .int .i64 x, .int .i64 h] []
  = (bif decide (h < (0 : Int)) then some (AVal.bool true, []) else bif decide (m = xs.length ∧ m ≤ (4611686018427387904 : Nat)) && (true && (true && true) || true && true) then bif decide (m = xs.length ∧ m ≤ (4611686018427387904 : Nat)) && (true && (true && true) || true && true) then some (AVal.bool (decide (pl.sv x xs < pl.sv h xs)), []) else none else none) := by kernel_rfl
theorem run : ∀ args v new, R args = some (true, v, new) → ∃ fuel, runFn Try.prog (orc [⟨151, l05Place.R⟩]) hd0 Dr.std none fuel (bodyOf Try.f172) 18 [6] args [] = some (v, new) := by
  intro args v new h
  unfold R at h
  split at h
  · rename_i xs m x h0
    simp only [Option.some.injEq, Prod.mk.injEq, decide_eq_true_eq] at h
    obtain ⟨⟨rfl, h1⟩, rfl, rfl⟩ := h
    refine ⟨0, ?_⟩
    rw [go]
    simp -implicitDefEqProofs only [h1, and_self, decide_true, decide_false, Bool.and_self, Bool.or_self, Bool.and_true, Bool.true_and, Bool.and_false, Bool.false_and, Bool.or_true, Bool.true_or, Bool.or_false, Bool.false_or, Bool.not_true, Bool.not_false, cond_true, cond_false]
    cases decide (h0 < 0) <;> rfl
  · cases h
theorem ok : EntOk Try.prog ⟨172, R⟩ :=
  ent_okA mixed (A := (orc [⟨151, l05Place.R⟩])) (orc_ok (by simp only [List.mem_cons, List.not_mem_nil, or_false, forall_eq_or_imp, forall_eq]; exact l05Place.ok)) Try.func172 (by kernel_rfl) (by kernel_rfl) (n := 18) (ts := [6]) (hd := hd0) (dr := Dr.std) (cut := none) (by kernel_rfl) (by kernel_rfl) (by kernel_rfl) run
end l05Dearer

namespace l05Quiet
def R : List AVal → Option (Bool × AVal × List Blk)
  | [.ro (.rows .i64 fs) m 1, .ro (.ints .i64 rm) p 1] => some (decide (m = fs.length ∧ p = m) && (rms.va.sp fs && rms.rg.sp m 0 rm), .bool (rms.q.sp fs rm), [])
  | _ => none
def hd : Nat → Head := fun i => bif eqN i 0 then ⟨[0, 1, 4, 8, 9], none⟩ else ⟨[0, 1, 4, 5, 8, 9, 13, 14], none⟩
noncomputable def L1 (f n : Nat) (s : State) := loopAt Try.prog (orc [⟨172, l05Dearer.R⟩]) hd Dr.std 0 f (bodyOf Try.f153) 0 [true, false, true] (retK Try.prog [4] 0 none) n s
noncomputable def L2 (f n n2 : Nat) (s : State) := loopAt Try.prog (orc [⟨172, l05Dearer.R⟩]) hd Dr.std 0 f (bodyAt (bodyOf Try.f153) [true, false, true]) (curAt (bodyOf Try.f153) 0 [true, false, true]) [true, true, false, true, true] (iterK (normE 0 (hd (curAt (bodyOf Try.f153) 0 [true, false, true]))) (L1 f n) (contAt Try.prog (orc [⟨172, l05Dearer.R⟩]) hd Dr.std 0 f (bodyOf Try.f153) 0 [true, false, true] (retK Try.prog [4] 0 none))) n2 s
theorem start (fs : List (List Int)) (rm : List Int) (m p : Nat) (f : Nat) :
  runFn Try.prog (orc [⟨172, l05Dearer.R⟩]) hd Dr.std none f (bodyOf Try.f153) 52 [4] [.ro (.rows .i64 fs) m 1, .ro (.ints .i64 rm) p 1] []
  = (L1 f f (mkS (52 : Nat) [((0 : Nat), AVal.ro (Cont.rows IntKind.i64 fs) m (1 : Nat)), ((1 : Nat), AVal.ro (Cont.ints IntKind.i64 rm) p (1 : Nat)), ((4 : Nat), AVal.bool false), ((8 : Nat), AVal.int IntKind.i64 (↑p : Int)), ((9 : Nat), AVal.int IntKind.i64 (0 : Int))] [])) := by kernel_rfl
theorem round1 (fs : List (List Int)) (rm : List Int) (m p : Nat) (i f n : Nat) :
  L1 f (n + 1) (mkS 52 [(0, .ro (.rows .i64 fs) m 1), (1, .ro (.ints .i64 rm) p 1), (4, .bool false), (8, .int .i64 p), (9, .int .i64 i)] [])
  = (bif decide ((↑i : Int) < (↑p : Int)) then L2 f n f (mkS (52 : Nat) [((0 : Nat), AVal.ro (Cont.rows IntKind.i64 fs) m (1 : Nat)), ((1 : Nat), AVal.ro (Cont.ints IntKind.i64 rm) p (1 : Nat)), ((4 : Nat), AVal.bool false), ((5 : Nat), AVal.int IntKind.i64 (↑i : Int)), ((8 : Nat), AVal.int IntKind.i64 (↑p : Int)), ((9 : Nat), AVal.int IntKind.i64 (↑i : Int)), ((13 : Nat), AVal.int IntKind.i64 (↑p : Int)), ((14 : Nat), AVal.int IntKind.i64 (0 : Int))] []) else some (AVal.bool true, [])) := by kernel_rfl
theorem round2 (fs : List (List Int)) (rm : List Int) (m p : Nat) (i k f n n2 : Nat) :
  L2 f n (n2 + 1) (mkS 52 [(0, .ro (.rows .i64 fs) m 1), (1, .ro (.ints .i64 rm) p 1), (4, .bool false), (5, .int .i64 i), (8, .int .i64 p), (9, .int .i64 i), (13, .int .i64 p), (14, .int .i64 (k : Nat))] [])
  = (bif decide ((↑k : Int) < (↑p : Int)) then bif (↑i : Int) == (↑k : Int) then L2 f n n2 (mkS (52 : Nat) [((0 : Nat), AVal.ro (Cont.rows IntKind.i64 fs) m (1 : Nat)), ((1 : Nat), AVal.ro (Cont.ints IntKind.i64 rm) p (1 : Nat)), ((4 : Nat), AVal.bool false), ((5 : Nat), AVal.int IntKind.i64 (↑i : Int)), ((8 : Nat), AVal.int IntKind.i64 (↑p : Int)), ((9 : Nat), AVal.int IntKind.i64 (↑i : Int)), ((13 : Nat), AVal.int IntKind.i64 (↑p : Int)), ((14 : Nat), AVal.int IntKind.i64 (IntKind.i64.wrap ((↑k : Int) + (1 : Int))))] []) else bif true && (decide ((0 : Int) ≤ (↑i : Int)) && decide ((↑i : Int) < (↑p : Int))) then bif decide ((↑i : Int).toNat < rm.length) then bif gz rm (↑i : Int).toNat == (↑k : Int) then L2 f n n2 (mkS (52 : Nat) [((0 : Nat), AVal.ro (Cont.rows IntKind.i64 fs) m (1 : Nat)), ((1 : Nat), AVal.ro (Cont.ints IntKind.i64 rm) p (1 : Nat)), ((4 : Nat), AVal.bool false), ((5 : Nat), AVal.int IntKind.i64 (↑i : Int)), ((8 : Nat), AVal.int IntKind.i64 (↑p : Int)), ((9 : Nat), AVal.int IntKind.i64 (↑i : Int)), ((13 : Nat), AVal.int IntKind.i64 (↑p : Int)), ((14 : Nat), AVal.int IntKind.i64 (IntKind.i64.wrap ((↑k : Int) + (1 : Int))))] []) else bif true && (decide ((0 : Int) ≤ (↑i : Int)) && decide ((↑i : Int) < (↑m : Int))) then bif decide ((↑i : Int).toNat < fs.length) then bif true && (decide ((0 : Int) ≤ (↑i : Int)) && decide ((↑i : Int) < (↑p : Int))) then bif decide ((↑i : Int).toNat < rm.length) then bif decide ((gr fs (↑i : Int).toNat).length = (gr fs (↑i : Int).toNat).length ∧ (gr fs (↑i : Int).toNat).length ≤ (4611686018427387904 : Nat)) && (true && (true && (true && true)) || true && true) then bif bif decide (gz rm (↑i : Int).toNat < (0 : Int)) then true else decide (pl.sv (↑k : Int) (gr fs (↑i : Int).toNat) < pl.sv (gz rm (↑i : Int).toNat) (gr fs (↑i : Int).toNat)) then bif true && (decide ((0 : Int) ≤ (↑k : Int)) && decide ((↑k : Int) < (↑m : Int))) then bif decide ((↑k : Int).toNat < fs.length) then bif true && (decide ((0 : Int) ≤ (↑k : Int)) && decide ((↑k : Int) < (↑p : Int))) then bif decide ((↑k : Int).toNat < rm.length) then bif decide ((gr fs (↑k : Int).toNat).length = (gr fs (↑k : Int).toNat).length ∧ (gr fs (↑k : Int).toNat).length ≤ (4611686018427387904 : Nat)) && (true && (true && (true && true)) || true && true) then bif bif decide (gz rm (↑k : Int).toNat < (0 : Int)) then true else decide (pl.sv (↑i : Int) (gr fs (↑k : Int).toNat) < pl.sv (gz rm (↑k : Int).toNat) (gr fs (↑k : Int).toNat)) then some (AVal.bool false, []) else L2 f n n2 (mkS (52 : Nat) [((0 : Nat), AVal.ro (Cont.rows IntKind.i64 fs) m (1 : Nat)), ((1 : Nat), AVal.ro (Cont.ints IntKind.i64 rm) p (1 : Nat)), ((4 : Nat), AVal.bool false), ((5 : Nat), AVal.int IntKind.i64 (↑i : Int)), ((8 : Nat), AVal.int IntKind.i64 (↑p : Int)), ((9 : Nat), AVal.int IntKind.i64 (↑i : Int)), ((13 : Nat), AVal.int IntKind.i64 (↑p : Int)), ((14 : Nat), AVal.int IntKind.i64 (IntKind.i64.wrap ((↑k : Int) + (1 : Int))))] []) else none else none else none else none else none else L2 f n n2 (mkS (52 : Nat) [((0 : Nat), AVal.ro (Cont.rows IntKind.i64 fs) m (1 : Nat)), ((1 : Nat), AVal.ro (Cont.ints IntKind.i64 rm) p (1 : Nat)), ((4 : Nat), AVal.bool false), ((5 : Nat), AVal.int IntKind.i64 (↑i : Int)), ((8 : Nat), AVal.int IntKind.i64 (↑p : Int)), ((9 : Nat), AVal.int IntKind.i64 (↑i : Int)), ((13 : Nat), AVal.int IntKind.i64 (↑p : Int)), ((14 : Nat), AVal.int IntKind.i64 (IntKind.i64.wrap ((↑k : Int) + (1 : Int))))] []) else none else none else none else none else none else none else none else L1 f n (mkS (52 : Nat) [((0 : Nat), AVal.ro (Cont.rows IntKind.i64 fs) m (1 : Nat)), ((1 : Nat), AVal.ro (Cont.ints IntKind.i64 rm) p (1 : Nat)), ((4 : Nat), AVal.bool false), ((8 : Nat), AVal.int IntKind.i64 (↑p : Int)), ((9 : Nat), AVal.int IntKind.i64 (IntKind.i64.wrap ((↑i : Int) + (1 : Int))))] [])) := by kernel_rfl
theorem inner (fs : List (List Int)) (rm : List Int) (m p f n i : Nat) (hm : m = fs.length) (hp : p = m) (hv : rms.va.sp fs = true) (hg : rms.rg.sp fs.length 0 rm = true) (hi : i < m) : ∀ (d k n2 : Nat), k + d = m → d < n2 →
    L2 f n n2 (mkS 52 [(0, .ro (.rows .i64 fs) m 1), (1, .ro (.ints .i64 rm) p 1), (4, .bool false), (5, .int .i64 i), (8, .int .i64 p), (9, .int .i64 i), (13, .int .i64 p), (14, .int .i64 (k : Nat))] []) = bif ((cq.sv m).drop k).all (fun k => !rms.bl.sp fs rm (i : Int) k) then L1 f n (mkS 52 [(0, .ro (.rows .i64 fs) m 1), (1, .ro (.ints .i64 rm) p 1), (4, .bool false), (8, .int .i64 p), (9, .int .i64 ((i + 1 : Nat) : Int))] []) else some (.bool false, []) := by
  obtain ⟨hl, hg'⟩ := rms.rg_get hg
  obtain ⟨hn2, hn8⟩ := rms.va_len hv
  have h4 : (0 : Int) ≤ (i : Int) := Int.natCast_nonneg _
  have h5 : (i : Int) < (m : Int) := by omega
  have h2 : i < fs.length := by omega
  have h2' : i < rm.length := by omega
  have li := rms.row_len hv h2
  have li' : (gr fs i).length ≤ 4611686018427387904 := by omega
  have gi : ¬ (gz rm i < 0) := by have := (hg' i h2).1; omega
  have e : ∀ a b : Int, (a == b) = decide (a = b) := fun _ _ => rfl
  intro d
  induction d with
  | zero =>
    intro k n2 hk hn
    obtain ⟨n2, rfl⟩ : ∃ k, n2 = k + 1 := ⟨n2 - 1, by omega⟩
    subst hp
    obtain rfl : k = p := by omega
    have e0 : (cq.sv k).drop k = [] := List.drop_of_length_le (by rw [cq.sv_length]; omega)
    rw [round2, e0]
    simp -implicitDefEqProofs only [Int.lt_irrefl, List.all_nil, wrap_nat i (by omega), and_self, decide_true, decide_false, Bool.and_self, Bool.or_self, Bool.and_true, Bool.true_and, Bool.and_false, Bool.false_and, Bool.or_true, Bool.true_or, Bool.or_false, Bool.false_or, Bool.not_true, Bool.not_false, cond_true, cond_false]
  | succ d ih =>
    intro k n2 hk hn
    obtain ⟨n2, rfl⟩ : ∃ k, n2 = k + 1 := ⟨n2 - 1, by omega⟩
    subst hp
    have k1 : k < p := by omega
    have k4 : (0 : Int) ≤ (k : Int) := Int.natCast_nonneg _
    have k5 : (k : Int) < (p : Int) := by omega
    have k2 : k < fs.length := by omega
    have k2' : k < rm.length := by omega
    have lk := rms.row_len hv k2
    have lk' : (gr fs k).length ≤ 4611686018427387904 := by omega
    have gk : ¬ (gz rm k < 0) := by have := (hg' k k2).1; omega
    have hih := ih (k + 1) n2 (by omega) (by omega)
    rw [cq.sv_drop k1, List.all_cons, round2]
    by_cases c1 : (i : Int) = (k : Int)
    · have ck : i = k := by omega
      have hb : rms.bl.sp fs rm (i : Int) (k : Int) = false := by rw [← ck]; exact rms.bl_self hv h2
      have c1' : decide ((i : Int) = (k : Int)) = true := decide_eq_true c1
      simp -implicitDefEqProofs only [h4, h5, h2, h2', k4, k5, k2, k2', e, c1', hb, Int.toNat_natCast, wrap_nat k (by omega), and_self, decide_true, decide_false, Bool.and_self, Bool.or_self, Bool.and_true, Bool.true_and, Bool.and_false, Bool.false_and, Bool.or_true, Bool.true_or, Bool.or_false, Bool.false_or, Bool.not_true, Bool.not_false, cond_true, cond_false]
      exact hih
    · by_cases c2 : gz rm i = (k : Int)
      · have hb : rms.bl.sp fs rm (i : Int) (k : Int) = false := rms.bl_same (by rw [Int.toNat_natCast]; exact c2)
        simp -implicitDefEqProofs only [h4, h5, h2, h2', k4, k5, k2, k2', e, c1, c2, hb, Int.toNat_natCast, wrap_nat k (by omega), and_self, decide_true, decide_false, Bool.and_self, Bool.or_self, Bool.and_true, Bool.true_and, Bool.and_false, Bool.false_and, Bool.or_true, Bool.true_or, Bool.or_false, Bool.false_or, Bool.not_true, Bool.not_false, cond_true, cond_false]
        exact hih
      · have hb : rms.bl.sp fs rm (i : Int) (k : Int) = (decide (pl.sv (k : Int) (gr fs i) < pl.sv (gz rm i) (gr fs i)) && decide (pl.sv (i : Int) (gr fs k) < pl.sv (gz rm k) (gr fs k))) := by unfold rms.bl.sp; rw [Int.toNat_natCast, Int.toNat_natCast]
        rw [hb]
        simp -implicitDefEqProofs only [h4, h5, h2, h2', k4, k5, k2, k2', e, c1, c2, gi, gk, li', lk', Int.toNat_natCast, wrap_nat k (by omega), and_self, decide_true, decide_false, Bool.and_self, Bool.or_self, Bool.and_true, Bool.true_and, Bool.and_false, Bool.false_and, Bool.or_true, Bool.true_or, Bool.or_false, Bool.false_or, Bool.not_true, Bool.not_false, cond_true, cond_false]
        by_cases d1 : pl.sv (k : Int) (gr fs i) < pl.sv (gz rm i) (gr fs i)
        · by_cases d2 : pl.sv (i : Int) (gr fs k) < pl.sv (gz rm k) (gr fs k)
          · simp -implicitDefEqProofs only [d1, d2, and_self, decide_true, decide_false, Bool.and_self, Bool.or_self, Bool.and_true, Bool.true_and, Bool.and_false, Bool.false_and, Bool.or_true, Bool.true_or, Bool.or_false, Bool.false_or, Bool.not_true, Bool.not_false, cond_true, cond_false]
          · simp -implicitDefEqProofs only [d1, d2, and_self, decide_true, decide_false, Bool.and_self, Bool.or_self, Bool.and_true, Bool.true_and, Bool.and_false, Bool.false_and, Bool.or_true, Bool.true_or, Bool.or_false, Bool.false_or, Bool.not_true, Bool.not_false, cond_true, cond_false]; exact hih
        · simp -implicitDefEqProofs only [d1, and_self, decide_true, decide_false, Bool.and_self, Bool.or_self, Bool.and_true, Bool.true_and, Bool.and_false, Bool.false_and, Bool.or_true, Bool.true_or, Bool.or_false, Bool.false_or, Bool.not_true, Bool.not_false, cond_true, cond_false]; exact hih
theorem outer (fs : List (List Int)) (rm : List Int) (m p f : Nat) (hm : m = fs.length) (hp : p = m) (hv : rms.va.sp fs = true) (hg : rms.rg.sp fs.length 0 rm = true) (hf : m < f) : ∀ (d i n : Nat), i + d = m → d < n →
    L1 f n (mkS 52 [(0, .ro (.rows .i64 fs) m 1), (1, .ro (.ints .i64 rm) p 1), (4, .bool false), (8, .int .i64 p), (9, .int .i64 i)] []) = some (.bool (((cq.sv m).drop i).all fun i => rms.q1.sp fs rm i), []) := by
  intro d
  induction d with
  | zero =>
    intro i n hi hn
    obtain ⟨n, rfl⟩ : ∃ k, n = k + 1 := ⟨n - 1, by omega⟩
    subst hp
    obtain rfl : i = p := by omega
    have e0 : (cq.sv i).drop i = [] := List.drop_of_length_le (by rw [cq.sv_length]; omega)
    rw [round1, e0]
    simp -implicitDefEqProofs only [Int.lt_irrefl, List.all_nil, and_self, decide_true, decide_false, Bool.and_self, Bool.or_self, Bool.and_true, Bool.true_and, Bool.and_false, Bool.false_and, Bool.or_true, Bool.true_or, Bool.or_false, Bool.false_or, Bool.not_true, Bool.not_false, cond_true, cond_false]
  | succ d ih =>
    intro i n hi hn
    obtain ⟨n, rfl⟩ : ∃ k, n = k + 1 := ⟨n - 1, by omega⟩
    have h5 : (i : Int) < (p : Int) := by omega
    have hih := ih (i + 1) n (by omega) (by omega)
    have hin := inner fs rm m p f n i hm hp hv hg (by omega) m 0 f (by omega) hf
    rw [List.drop_zero] at hin
    have hq : ((cq.sv m).all fun k => !rms.bl.sp fs rm (i : Int) k) = rms.q1.sp fs rm (i : Int) := by unfold rms.q1.sp; rw [hm]
    rw [hq] at hin
    rw [round1, cq.sv_drop (by omega : i < m), List.all_cons]
    simp -implicitDefEqProofs only [h5, and_self, decide_true, decide_false, Bool.and_self, Bool.or_self, Bool.and_true, Bool.true_and, Bool.and_false, Bool.false_and, Bool.or_true, Bool.true_or, Bool.or_false, Bool.false_or, Bool.not_true, Bool.not_false, cond_true, cond_false]
    refine Eq.trans hin ?_
    rw [hih]
    cases rms.q1.sp fs rm (i : Int)
    · simp -implicitDefEqProofs only [and_self, decide_true, decide_false, Bool.and_self, Bool.or_self, Bool.and_true, Bool.true_and, Bool.and_false, Bool.false_and, Bool.or_true, Bool.true_or, Bool.or_false, Bool.false_or, Bool.not_true, Bool.not_false, cond_true, cond_false]
    · simp -implicitDefEqProofs only [and_self, decide_true, decide_false, Bool.and_self, Bool.or_self, Bool.and_true, Bool.true_and, Bool.and_false, Bool.false_and, Bool.or_true, Bool.true_or, Bool.or_false, Bool.false_or, Bool.not_true, Bool.not_false, cond_true, cond_false]
theorem run : ∀ args v new, R args = some (true, v, new) → ∃ fuel, runFn Try.prog (orc [⟨172, l05Dearer.R⟩]) hd Dr.std none fuel (bodyOf Try.f153) 52 [4] args [] = some (v, new) := by
  intro args v new h
  unfold R at h
  split at h
  · rename_i fs m rm p
    simp only [Option.some.injEq, Prod.mk.injEq, Bool.and_eq_true, decide_eq_true_eq] at h
    obtain ⟨⟨⟨rfl, rfl⟩, hv, hg⟩, rfl, rfl⟩ := h
    obtain ⟨F, hF⟩ : ∃ F : Nat, F = fs.length + 1 := ⟨_, rfl⟩
    refine ⟨F, ?_⟩
    rw [start]
    have hl := outer fs rm fs.length fs.length F rfl rfl hv hg (by omega) fs.length 0 F (by omega) (by omega)
    rw [List.drop_zero] at hl
    exact hl
  · cases h
theorem ok : EntOk Try.prog ⟨153, R⟩ :=
  ent_okA mixed (A := (orc [⟨172, l05Dearer.R⟩])) (orc_ok (by simp only [List.mem_cons, List.not_mem_nil, or_false, forall_eq_or_imp, forall_eq]; exact l05Dearer.ok)) Try.func153 (by kernel_rfl) (by kernel_rfl) (n := 52) (ts := [4]) (hd := hd) (dr := Dr.std) (cut := none) (by kernel_rfl) (by kernel_rfl) (by kernel_rfl) run
end l05Quiet

namespace keepRooms
def R : List AVal → Option (Bool × AVal × List Blk)
  | [.ro (.rows .i64 fs) m 1, .ro (.ints .i64 rm) p 1] => some (decide (m = fs.length ∧ p = m) && (rms.va.sp fs && rms.rg.sp m 0 rm), .bool (rms.q.sp fs rm), [])
  | _ => none
def hd : Nat → Head := fun i => bif eqN i 0 then ⟨[0, 1, 4, 9, 10, 11], none⟩ else ⟨[0, 1, 4, 5, 6, 9, 10, 11, 16, 17, 18], none⟩
noncomputable def L1 (f n : Nat) (s : State) := loopAt Try.prog (orc [⟨105, iDearer.R⟩]) hd Dr.std 0 f (bodyOf Try.f110) 0 [true, false, true] (retK Try.prog [4] 0 none) n s
noncomputable def L2 (f n n2 : Nat) (s : State) := loopAt Try.prog (orc [⟨105, iDearer.R⟩]) hd Dr.std 0 f (bodyAt (bodyOf Try.f110) [true, false, true]) (curAt (bodyOf Try.f110) 0 [true, false, true]) [true, true, false, true, true] (iterK (normE 0 (hd (curAt (bodyOf Try.f110) 0 [true, false, true]))) (L1 f n) (contAt Try.prog (orc [⟨105, iDearer.R⟩]) hd Dr.std 0 f (bodyOf Try.f110) 0 [true, false, true] (retK Try.prog [4] 0 none))) n2 s
theorem start (fs : List (List Int)) (rm : List Int) (m p : Nat) (f : Nat) :
  runFn Try.prog (orc [⟨105, iDearer.R⟩]) hd Dr.std none f (bodyOf Try.f110) 43 [4] [.ro (.rows .i64 fs) m 1, .ro (.ints .i64 rm) p 1] []
  = (L1 f f (mkS (43 : Nat) [((0 : Nat), AVal.ro (Cont.rows IntKind.i64 fs) m (1 : Nat)), ((1 : Nat), AVal.ro (Cont.ints IntKind.i64 rm) p (1 : Nat)), ((4 : Nat), AVal.bool false), ((9 : Nat), AVal.ro (Cont.rows IntKind.i64 fs) m (1 : Nat)), ((10 : Nat), AVal.int IntKind.i64 (↑m : Int)), ((11 : Nat), AVal.int IntKind.i64 (0 : Int))] [])) := by kernel_rfl
theorem round1 (fs : List (List Int)) (rm : List Int) (m p : Nat) (i f n : Nat) :
  L1 f (n + 1) (mkS 43 [(0, .ro (.rows .i64 fs) m 1), (1, .ro (.ints .i64 rm) p 1), (4, .bool false), (9, .ro (.rows .i64 fs) m 1), (10, .int .i64 m), (11, .int .i64 i)] [])
  = (bif decide ((↑i : Int) < (↑m : Int)) then bif true && (decide ((0 : Int) ≤ (↑i : Int)) && decide ((↑i : Int) < (↑m : Int))) then bif decide ((↑i : Int).toNat < fs.length) then L2 f n f (mkS (43 : Nat) [((0 : Nat), AVal.ro (Cont.rows IntKind.i64 fs) m (1 : Nat)), ((1 : Nat), AVal.ro (Cont.ints IntKind.i64 rm) p (1 : Nat)), ((4 : Nat), AVal.bool false), ((5 : Nat), AVal.int IntKind.i64 (↑i : Int)), ((6 : Nat), AVal.ro (Cont.ints IntKind.i64 (gr fs (↑i : Int).toNat)) (gr fs (↑i : Int).toNat).length (1 : Nat)), ((9 : Nat), AVal.ro (Cont.rows IntKind.i64 fs) m (1 : Nat)), ((10 : Nat), AVal.int IntKind.i64 (↑m : Int)), ((11 : Nat), AVal.int IntKind.i64 (↑i : Int)), ((16 : Nat), AVal.ro (Cont.ints IntKind.i64 (gr fs (↑i : Int).toNat)) (gr fs (↑i : Int).toNat).length (1 : Nat)), ((17 : Nat), AVal.int IntKind.i64 (↑(gr fs (↑i : Int).toNat).length : Int)), ((18 : Nat), AVal.int IntKind.i64 (0 : Int))] []) else none else none else some (AVal.bool true, [])) := by kernel_rfl
theorem round2 (fs : List (List Int)) (rm : List Int) (m p : Nat) (xs : List Int) (z i k f n n2 : Nat) :
  L2 f n (n2 + 1) (mkS 43 [(0, .ro (.rows .i64 fs) m 1), (1, .ro (.ints .i64 rm) p 1), (4, .bool false), (5, .int .i64 i), (6, .ro (.ints .i64 xs) z 1), (9, .ro (.rows .i64 fs) m 1), (10, .int .i64 m), (11, .int .i64 i), (16, .ro (.ints .i64 xs) z 1), (17, .int .i64 z), (18, .int .i64 (k : Nat))] [])
  = (bif decide ((↑k : Int) < (↑z : Int)) then bif true && (decide ((0 : Int) ≤ (↑k : Int)) && decide ((↑k : Int) < (↑z : Int))) then bif decide ((↑k : Int).toNat < xs.length) then bif true && (decide ((0 : Int) ≤ (↑i : Int)) && decide ((↑i : Int) < (↑p : Int))) then bif decide ((↑i : Int).toNat < rm.length) then bif decide (z = xs.length ∧ z ≤ (4611686018427387904 : Nat)) && (true && (true && (true && true)) || true && true) then bif decide (pl.sv (gz xs (↑k : Int).toNat) xs < pl.sv (gz rm (↑i : Int).toNat) xs) then bif true && (decide ((0 : Int) ≤ gz xs (↑k : Int).toNat) && decide (gz xs (↑k : Int).toNat < (↑m : Int))) then bif decide ((gz xs (↑k : Int).toNat).toNat < fs.length) then bif true && (decide ((0 : Int) ≤ gz xs (↑k : Int).toNat) && decide (gz xs (↑k : Int).toNat < (↑p : Int))) then bif decide ((gz xs (↑k : Int).toNat).toNat < rm.length) then bif decide ((gr fs (gz xs (↑k : Int).toNat).toNat).length = (gr fs (gz xs (↑k : Int).toNat).toNat).length ∧ (gr fs (gz xs (↑k : Int).toNat).toNat).length ≤ (4611686018427387904 : Nat)) && (true && (true && (true && true)) || true && true) then bif decide (pl.sv (↑i : Int) (gr fs (gz xs (↑k : Int).toNat).toNat) < pl.sv (gz rm (gz xs (↑k : Int).toNat).toNat) (gr fs (gz xs (↑k : Int).toNat).toNat)) then some (AVal.bool false, []) else L2 f n n2 (mkS (43 : Nat) [((0 : Nat), AVal.ro (Cont.rows IntKind.i64 fs) m (1 : Nat)), ((1 : Nat), AVal.ro (Cont.ints IntKind.i64 rm) p (1 : Nat)), ((4 : Nat), AVal.bool false), ((5 : Nat), AVal.int IntKind.i64 (↑i : Int)), ((6 : Nat), AVal.ro (Cont.ints IntKind.i64 xs) z (1 : Nat)), ((9 : Nat), AVal.ro (Cont.rows IntKind.i64 fs) m (1 : Nat)), ((10 : Nat), AVal.int IntKind.i64 (↑m : Int)), ((11 : Nat), AVal.int IntKind.i64 (↑i : Int)), ((16 : Nat), AVal.ro (Cont.ints IntKind.i64 xs) z (1 : Nat)), ((17 : Nat), AVal.int IntKind.i64 (↑z : Int)), ((18 : Nat), AVal.int IntKind.i64 (IntKind.i64.wrap ((↑k : Int) + (1 : Int))))] []) else none else none else none else none else none else L2 f n n2 (mkS (43 : Nat) [((0 : Nat), AVal.ro (Cont.rows IntKind.i64 fs) m (1 : Nat)), ((1 : Nat), AVal.ro (Cont.ints IntKind.i64 rm) p (1 : Nat)), ((4 : Nat), AVal.bool false), ((5 : Nat), AVal.int IntKind.i64 (↑i : Int)), ((6 : Nat), AVal.ro (Cont.ints IntKind.i64 xs) z (1 : Nat)), ((9 : Nat), AVal.ro (Cont.rows IntKind.i64 fs) m (1 : Nat)), ((10 : Nat), AVal.int IntKind.i64 (↑m : Int)), ((11 : Nat), AVal.int IntKind.i64 (↑i : Int)), ((16 : Nat), AVal.ro (Cont.ints IntKind.i64 xs) z (1 : Nat)), ((17 : Nat), AVal.int IntKind.i64 (↑z : Int)), ((18 : Nat), AVal.int IntKind.i64 (IntKind.i64.wrap ((↑k : Int) + (1 : Int))))] []) else none else none else none else none else none else L1 f n (mkS (43 : Nat) [((0 : Nat), AVal.ro (Cont.rows IntKind.i64 fs) m (1 : Nat)), ((1 : Nat), AVal.ro (Cont.ints IntKind.i64 rm) p (1 : Nat)), ((4 : Nat), AVal.bool false), ((9 : Nat), AVal.ro (Cont.rows IntKind.i64 fs) m (1 : Nat)), ((10 : Nat), AVal.int IntKind.i64 (↑m : Int)), ((11 : Nat), AVal.int IntKind.i64 (IntKind.i64.wrap ((↑i : Int) + (1 : Int))))] [])) := by kernel_rfl
theorem inner (fs : List (List Int)) (rm : List Int) (m p f n i : Nat) (hm : m = fs.length) (hp : p = m) (hv : rms.va.sp fs = true) (hg : rms.rg.sp fs.length 0 rm = true) (hi : i < m) : ∀ (d k n2 : Nat), k + d = (gr fs i).length → d < n2 →
    L2 f n n2 (mkS 43 [(0, .ro (.rows .i64 fs) m 1), (1, .ro (.ints .i64 rm) p 1), (4, .bool false), (5, .int .i64 i), (6, .ro (.ints .i64 (gr fs i)) (gr fs i).length 1), (9, .ro (.rows .i64 fs) m 1), (10, .int .i64 m), (11, .int .i64 i), (16, .ro (.ints .i64 (gr fs i)) (gr fs i).length 1), (17, .int .i64 (gr fs i).length), (18, .int .i64 (k : Nat))] []) = bif ((gr fs i).drop k).all (fun k => !rms.bl.sp fs rm (i : Int) k) then L1 f n (mkS 43 [(0, .ro (.rows .i64 fs) m 1), (1, .ro (.ints .i64 rm) p 1), (4, .bool false), (9, .ro (.rows .i64 fs) m 1), (10, .int .i64 m), (11, .int .i64 ((i + 1 : Nat) : Int))] []) else some (.bool false, []) := by
  obtain ⟨hl, hg'⟩ := rms.rg_get hg
  obtain ⟨hn2, hn8⟩ := rms.va_len hv
  have h4 : (0 : Int) ≤ (i : Int) := Int.natCast_nonneg _
  have h5 : (i : Int) < (p : Int) := by omega
  have h2 : i < fs.length := by omega
  have h2' : i < rm.length := by omega
  have li := rms.row_len hv h2
  have li' : (gr fs i).length ≤ 4611686018427387904 := by omega
  intro d
  induction d with
  | zero =>
    intro k n2 hk hn
    obtain ⟨n2, rfl⟩ : ∃ k, n2 = k + 1 := ⟨n2 - 1, by omega⟩
    obtain rfl : k = (gr fs i).length := by omega
    have e0 : (gr fs i).drop (gr fs i).length = [] := List.drop_of_length_le (Nat.le_refl _)
    rw [round2, e0]
    simp -implicitDefEqProofs only [Int.lt_irrefl, List.all_nil, wrap_nat i (by omega), and_self, decide_true, decide_false, Bool.and_self, Bool.or_self, Bool.and_true, Bool.true_and, Bool.and_false, Bool.false_and, Bool.or_true, Bool.true_or, Bool.or_false, Bool.false_or, Bool.not_true, Bool.not_false, cond_true, cond_false]
  | succ d ih =>
    intro k n2 hk hn
    obtain ⟨n2, rfl⟩ : ∃ k, n2 = k + 1 := ⟨n2 - 1, by omega⟩
    have k1 : k < (gr fs i).length := by omega
    have k4 : (0 : Int) ≤ (k : Int) := Int.natCast_nonneg _
    have k5 : (k : Int) < ((gr fs i).length : Int) := by omega
    obtain ⟨b0, b1⟩ := rms.row_in hv h2 k k1
    obtain ⟨j, hj⟩ : ∃ j : Nat, gz (gr fs i) k = (j : Int) := ⟨(gz (gr fs i) k).toNat, by omega⟩
    rw [hj] at b0 b1
    have j2 : j < fs.length := by omega
    have j2' : j < rm.length := by omega
    have j5 : (j : Int) < (p : Int) := by omega
    have j6 : (j : Int) < (m : Int) := by omega
    have lj := rms.row_len hv j2
    have lj' : (gr fs j).length ≤ 4611686018427387904 := by omega
    have hih := ih (k + 1) n2 (by omega) (by omega)
    have hdr : (gr fs i).drop k = (j : Int) :: (gr fs i).drop (k + 1) := by rw [← hj, gz_eq k1]; exact List.drop_eq_getElem_cons k1
    have hb : rms.bl.sp fs rm (i : Int) (j : Int) = (decide (pl.sv (j : Int) (gr fs i) < pl.sv (gz rm i) (gr fs i)) && decide (pl.sv (i : Int) (gr fs j) < pl.sv (gz rm j) (gr fs j))) := by unfold rms.bl.sp; rw [Int.toNat_natCast, Int.toNat_natCast]
    rw [hdr, List.all_cons, round2, hb]
    simp -implicitDefEqProofs only [h4, h5, h2, h2', k4, k5, k1, hj, b0, j2, j2', j5, j6, li', lj', Int.toNat_natCast, wrap_nat k (by omega), and_self, decide_true, decide_false, Bool.and_self, Bool.or_self, Bool.and_true, Bool.true_and, Bool.and_false, Bool.false_and, Bool.or_true, Bool.true_or, Bool.or_false, Bool.false_or, Bool.not_true, Bool.not_false, cond_true, cond_false]
    by_cases d1 : pl.sv (j : Int) (gr fs i) < pl.sv (gz rm i) (gr fs i)
    · by_cases d2 : pl.sv (i : Int) (gr fs j) < pl.sv (gz rm j) (gr fs j)
      · simp -implicitDefEqProofs only [d1, d2, and_self, decide_true, decide_false, Bool.and_self, Bool.or_self, Bool.and_true, Bool.true_and, Bool.and_false, Bool.false_and, Bool.or_true, Bool.true_or, Bool.or_false, Bool.false_or, Bool.not_true, Bool.not_false, cond_true, cond_false]
      · simp -implicitDefEqProofs only [d1, d2, and_self, decide_true, decide_false, Bool.and_self, Bool.or_self, Bool.and_true, Bool.true_and, Bool.and_false, Bool.false_and, Bool.or_true, Bool.true_or, Bool.or_false, Bool.false_or, Bool.not_true, Bool.not_false, cond_true, cond_false]; exact hih
    · simp -implicitDefEqProofs only [d1, and_self, decide_true, decide_false, Bool.and_self, Bool.or_self, Bool.and_true, Bool.true_and, Bool.and_false, Bool.false_and, Bool.or_true, Bool.true_or, Bool.or_false, Bool.false_or, Bool.not_true, Bool.not_false, cond_true, cond_false]; exact hih
theorem outer (fs : List (List Int)) (rm : List Int) (m p f : Nat) (hm : m = fs.length) (hp : p = m) (hv : rms.va.sp fs = true) (hg : rms.rg.sp fs.length 0 rm = true) (hf : m < f) : ∀ (d i n : Nat), i + d = m → d < n →
    L1 f n (mkS 43 [(0, .ro (.rows .i64 fs) m 1), (1, .ro (.ints .i64 rm) p 1), (4, .bool false), (9, .ro (.rows .i64 fs) m 1), (10, .int .i64 m), (11, .int .i64 i)] []) = some (.bool (((cq.sv m).drop i).all fun i => rms.q1.sp fs rm i), []) := by
  intro d
  induction d with
  | zero =>
    intro i n hi hn
    obtain ⟨n, rfl⟩ : ∃ k, n = k + 1 := ⟨n - 1, by omega⟩
    obtain rfl : i = m := by omega
    have e0 : (cq.sv i).drop i = [] := List.drop_of_length_le (by rw [cq.sv_length]; omega)
    rw [round1, e0]
    simp -implicitDefEqProofs only [Int.lt_irrefl, List.all_nil, and_self, decide_true, decide_false, Bool.and_self, Bool.or_self, Bool.and_true, Bool.true_and, Bool.and_false, Bool.false_and, Bool.or_true, Bool.true_or, Bool.or_false, Bool.false_or, Bool.not_true, Bool.not_false, cond_true, cond_false]
  | succ d ih =>
    intro i n hi hn
    obtain ⟨n, rfl⟩ : ∃ k, n = k + 1 := ⟨n - 1, by omega⟩
    have h4 : (0 : Int) ≤ (i : Int) := Int.natCast_nonneg _
    have h5 : (i : Int) < (m : Int) := by omega
    have h2 : i < fs.length := by omega
    have li := rms.row_len hv h2
    have hih := ih (i + 1) n (by omega) (by omega)
    have hin := inner fs rm m p f n i hm hp hv hg (by omega) (gr fs i).length 0 f (by omega) (by omega)
    rw [List.drop_zero, rms.q1_row hv rm h2] at hin
    rw [round1, cq.sv_drop (by omega : i < m), List.all_cons]
    simp -implicitDefEqProofs only [h4, h5, h2, Int.toNat_natCast, and_self, decide_true, decide_false, Bool.and_self, Bool.or_self, Bool.and_true, Bool.true_and, Bool.and_false, Bool.false_and, Bool.or_true, Bool.true_or, Bool.or_false, Bool.false_or, Bool.not_true, Bool.not_false, cond_true, cond_false]
    refine Eq.trans hin ?_
    rw [hih]
    cases rms.q1.sp fs rm (i : Int)
    · simp -implicitDefEqProofs only [and_self, decide_true, decide_false, Bool.and_self, Bool.or_self, Bool.and_true, Bool.true_and, Bool.and_false, Bool.false_and, Bool.or_true, Bool.true_or, Bool.or_false, Bool.false_or, Bool.not_true, Bool.not_false, cond_true, cond_false]
    · simp -implicitDefEqProofs only [and_self, decide_true, decide_false, Bool.and_self, Bool.or_self, Bool.and_true, Bool.true_and, Bool.and_false, Bool.false_and, Bool.or_true, Bool.true_or, Bool.or_false, Bool.false_or, Bool.not_true, Bool.not_false, cond_true, cond_false]
theorem run : ∀ args v new, R args = some (true, v, new) → ∃ fuel, runFn Try.prog (orc [⟨105, iDearer.R⟩]) hd Dr.std none fuel (bodyOf Try.f110) 43 [4] args [] = some (v, new) := by
  intro args v new h
  unfold R at h
  split at h
  · rename_i fs m rm p
    simp only [Option.some.injEq, Prod.mk.injEq, Bool.and_eq_true, decide_eq_true_eq] at h
    obtain ⟨⟨⟨rfl, rfl⟩, hv, hg⟩, rfl, rfl⟩ := h
    obtain ⟨F, hF⟩ : ∃ F : Nat, F = fs.length + 1 := ⟨_, rfl⟩
    refine ⟨F, ?_⟩
    rw [start]
    have hl := outer fs rm fs.length fs.length F rfl rfl hv hg (by omega) fs.length 0 F (by omega) (by omega)
    rw [List.drop_zero] at hl
    exact hl
  · cases h
theorem ok : EntOk Try.prog ⟨110, R⟩ :=
  ent_okA mixed (A := (orc [⟨105, iDearer.R⟩])) (orc_ok (by simp only [List.mem_cons, List.not_mem_nil, or_false, forall_eq_or_imp, forall_eq]; exact iDearer.ok)) Try.func110 (by kernel_rfl) (by kernel_rfl) (n := 43) (ts := [4]) (hd := hd) (dr := Dr.std) (cut := none) (by kernel_rfl) (by kernel_rfl) (by kernel_rfl) run
end keepRooms


namespace l05Rooms
def R (N : Nat) : List AVal → Heap → Option (Bool × AVal × Heap)
  | [.ro (.rows .i64 fs) m 1, .own 0 0 p 0 1], [⟨.typ (.ints .i64 rm), 0⟩] => some (decide (m = fs.length ∧ p = m ∧ rms.ng.sv rm < N) && (rms.va.sp fs && rms.rg.sp m (-1) rm), .bool (rms.rf.sp fs N rm), [⟨.typ (.ints .i64 (rms.ro.sv fs N rm)), 0⟩])
  | _, _ => none
def hd : Nat → Head := fun i => bif eqN i 0 then ⟨[0, 1, 4, 5, 9, 10], some 0⟩ else ⟨[0, 1, 4, 5, 7], some 0⟩
noncomputable def LA (N f n : Nat) (s : State) := loopAt Try.prog (orcW [⟨112, R N⟩] [⟨153, l05Quiet.R⟩]) hd Dr.std 1 f (bodyOf Try.f112) 0 [true, true, false, true] (retK Try.prog [4] 1 none) n s
noncomputable def LB (N f n : Nat) (s : State) := loopAt Try.prog (orcW [⟨112, R N⟩] [⟨153, l05Quiet.R⟩]) hd Dr.std 1 f (bodyOf Try.f112) 0 [true, true, true, true, false, true] (retK Try.prog [4] 1 none) n s
theorem start (fs : List (List Int)) (rm : List Int) (m p : Nat) (N f : Nat) :
  runFn Try.prog (orcW [⟨112, R N⟩] [⟨153, l05Quiet.R⟩]) hd Dr.std none f (bodyOf Try.f112) 59 [4] [.ro (.rows .i64 fs) m 1, .own 0 0 p 0 1] [⟨.typ (.ints .i64 rm), 0⟩]
  = (bif true && true then LA N f f (mkS (59 : Nat) [((0 : Nat), AVal.ro (Cont.rows IntKind.i64 fs) m (1 : Nat)), ((1 : Nat), AVal.own (0 : Nat) (0 : Nat) p (0 : Nat) (1 : Nat)), ((4 : Nat), AVal.bool false), ((5 : Nat), AVal.int IntKind.i64 (-1 : Int)), ((9 : Nat), AVal.int IntKind.i64 (↑p : Int)), ((10 : Nat), AVal.int IntKind.i64 (0 : Int))] [{ c := BC.typ (Cont.ints IntKind.i64 rm), ver := (0 : Nat) }]) else none) := by kernel_rfl
theorem roundA (fs : List (List Int)) (rm : List Int) (m p : Nat) (a : Int) (i N f n : Nat) :
  LA N f (n + 1) (mkS 59 [(0, .ro (.rows .i64 fs) m 1), (1, .own 0 0 p 0 1), (4, .bool false), (5, .int .i64 a), (9, .int .i64 p), (10, .int .i64 (i : Nat))] [⟨.typ (.ints .i64 rm), 0⟩])
  = (bif decide ((↑i : Int) < (↑p : Int)) then bif decide (a < (0 : Int)) then bif true && (decide ((0 : Int) ≤ (↑i : Int)) && decide ((↑i : Int) < (↑p : Int))) then bif true && decide ((↑i : Int).toNat < rm.length) then bif decide (gz rm (↑i : Int).toNat < (0 : Int)) then LA N f n (mkS (59 : Nat) [((0 : Nat), AVal.ro (Cont.rows IntKind.i64 fs) m (1 : Nat)), ((1 : Nat), AVal.own (0 : Nat) (0 : Nat) p (0 : Nat) (1 : Nat)), ((4 : Nat), AVal.bool false), ((5 : Nat), AVal.int IntKind.i64 (↑i : Int)), ((9 : Nat), AVal.int IntKind.i64 (↑p : Int)), ((10 : Nat), AVal.int IntKind.i64 (IntKind.i64.wrap ((↑i : Int) + (1 : Int))))] [{ c := BC.typ (Cont.ints IntKind.i64 rm), ver := (0 : Nat) }]) else LA N f n (mkS (59 : Nat) [((0 : Nat), AVal.ro (Cont.rows IntKind.i64 fs) m (1 : Nat)), ((1 : Nat), AVal.own (0 : Nat) (0 : Nat) p (0 : Nat) (1 : Nat)), ((4 : Nat), AVal.bool false), ((5 : Nat), AVal.int IntKind.i64 a), ((9 : Nat), AVal.int IntKind.i64 (↑p : Int)), ((10 : Nat), AVal.int IntKind.i64 (IntKind.i64.wrap ((↑i : Int) + (1 : Int))))] [{ c := BC.typ (Cont.ints IntKind.i64 rm), ver := (0 : Nat) }]) else none else none else LA N f n (mkS (59 : Nat) [((0 : Nat), AVal.ro (Cont.rows IntKind.i64 fs) m (1 : Nat)), ((1 : Nat), AVal.own (0 : Nat) (0 : Nat) p (0 : Nat) (1 : Nat)), ((4 : Nat), AVal.bool false), ((5 : Nat), AVal.int IntKind.i64 a), ((9 : Nat), AVal.int IntKind.i64 (↑p : Int)), ((10 : Nat), AVal.int IntKind.i64 (IntKind.i64.wrap ((↑i : Int) + (1 : Int))))] [{ c := BC.typ (Cont.ints IntKind.i64 rm), ver := (0 : Nat) }]) else bif decide (a < (0 : Int)) then bif decide (m = fs.length ∧ p = m) && (rms.va.sp fs && rms.rg.sp m (0 : Int) rm) && (true && (false && true) || true && true) then some (AVal.bool (rms.q.sp fs rm), [{ c := BC.typ (Cont.ints IntKind.i64 rm), ver := (0 : Nat) }]) else none else LB N f f (mkS (59 : Nat) [((0 : Nat), AVal.ro (Cont.rows IntKind.i64 fs) m (1 : Nat)), ((1 : Nat), AVal.own (0 : Nat) (0 : Nat) p (0 : Nat) (1 : Nat)), ((4 : Nat), AVal.bool false), ((5 : Nat), AVal.int IntKind.i64 a), ((7 : Nat), AVal.int IntKind.i64 (IntKind.i64.wrap (a + (1 : Int))))] [{ c := BC.typ (Cont.ints IntKind.i64 rm), ver := (0 : Nat) }])) := by kernel_rfl
theorem roundB (fs : List (List Int)) (rm : List Int) (m p : Nat) (a : Int) (k N f n : Nat) :
  LB N f (n + 1) (mkS 59 [(0, .ro (.rows .i64 fs) m 1), (1, .own 0 0 p 0 1), (4, .bool false), (5, .int .i64 a), (7, .int .i64 (k : Nat))] [⟨.typ (.ints .i64 rm), 0⟩])
  = (bif decide ((↑k : Int) < (↑p : Int)) then bif true && (decide ((0 : Int) ≤ (↑k : Int)) && decide ((↑k : Int) < (↑p : Int))) then bif true && decide ((↑k : Int).toNat < rm.length) then bif decide ((0 : Int) ≤ gz rm (↑k : Int).toNat) then LB N f n (mkS (59 : Nat) [((0 : Nat), AVal.ro (Cont.rows IntKind.i64 fs) m (1 : Nat)), ((1 : Nat), AVal.own (0 : Nat) (0 : Nat) p (0 : Nat) (1 : Nat)), ((4 : Nat), AVal.bool false), ((5 : Nat), AVal.int IntKind.i64 a), ((7 : Nat), AVal.int IntKind.i64 (IntKind.i64.wrap ((↑k : Int) + (1 : Int))))] [{ c := BC.typ (Cont.ints IntKind.i64 rm), ver := (0 : Nat) }]) else bif true && (decide ((0 : Int) ≤ a) && decide (a < (↑p : Int))) then bif true && (true && (decide (a.toNat < rm.length) && true)) then bif true && (decide ((0 : Int) ≤ (↑k : Int)) && decide ((↑k : Int) < (↑p : Int))) then bif true && (true && (decide ((↑k : Int).toNat < (rm.set a.toNat (↑k : Int)).length) && true)) then bif decide (m = fs.length ∧ p = m ∧ rms.ng.sv ((rm.set a.toNat (↑k : Int)).set (↑k : Int).toNat a) < N) && (rms.va.sp fs && rms.rg.sp m (-1 : Int) ((rm.set a.toNat (↑k : Int)).set (↑k : Int).toNat a)) && (true && (true && true)) then bif rms.rf.sp fs N ((rm.set a.toNat (↑k : Int)).set (↑k : Int).toNat a) then some (AVal.bool true, [{ c := BC.typ (Cont.ints IntKind.i64 (rms.ro.sv fs N ((rm.set a.toNat (↑k : Int)).set (↑k : Int).toNat a))), ver := (0 : Nat) }]) else bif true && (decide ((0 : Int) ≤ a) && decide (a < (↑p : Int))) then bif true && (true && (decide (a.toNat < (rms.ro.sv fs N ((rm.set a.toNat (↑k : Int)).set (↑k : Int).toNat a)).length) && true)) then bif true && (decide ((0 : Int) ≤ (↑k : Int)) && decide ((↑k : Int) < (↑p : Int))) then bif true && (true && (decide ((↑k : Int).toNat < ((rms.ro.sv fs N ((rm.set a.toNat (↑k : Int)).set (↑k : Int).toNat a)).set a.toNat (-1 : Int)).length) && true)) then LB N f n (mkS (59 : Nat) [((0 : Nat), AVal.ro (Cont.rows IntKind.i64 fs) m (1 : Nat)), ((1 : Nat), AVal.own (0 : Nat) (0 : Nat) p (0 : Nat) (1 : Nat)), ((4 : Nat), AVal.bool false), ((5 : Nat), AVal.int IntKind.i64 a), ((7 : Nat), AVal.int IntKind.i64 (IntKind.i64.wrap ((↑k : Int) + (1 : Int))))] [{ c := BC.typ (Cont.ints IntKind.i64 (((rms.ro.sv fs N ((rm.set a.toNat (↑k : Int)).set (↑k : Int).toNat a)).set a.toNat (-1 : Int)).set (↑k : Int).toNat (-1 : Int))), ver := (0 : Nat) }]) else none else none else none else none else none else none else none else none else none else none else none else some (AVal.bool false, [{ c := BC.typ (Cont.ints IntKind.i64 rm), ver := (0 : Nat) }])) := by kernel_rfl
end l05Rooms
namespace iRooms
def dr : Nat → Dr := fun i => bif eqN i 8 then ⟨some [998, 0, 1, 2, 3, 4, 5, 6, 7, 8, 9], false⟩ else bif eqN i 11 then ⟨some [998, 0, 1, 2, 3, 4, 5, 6, 7], false⟩ else ⟨none, false⟩
def R (N : Nat) : List AVal → Heap → Option (Bool × AVal × Heap)
  | [.rom [.own 0 0 p 0 1] 0, .rom [.ro (.rows .i64 fs) m 1] 0, .ptr 1 0 0], [⟨.typ (.ints .i64 rm), 0⟩, ⟨.cells [.fn ff [.rom [.own 0 0 p' 0 1] 0, .rom [.ro (.rows .i64 gs) m' 1] 0, .ptr 1 0 0]], 0⟩] => some (decide (m = fs.length ∧ p = m ∧ rms.ng.sv rm < N ∧ ff = 108 ∧ p' = p ∧ m' = m ∧ gs = fs) && (rms.va.sp fs && rms.rg.sp m (-1) rm), .bool (rms.rf.sp fs N rm), [⟨.typ (.ints .i64 (rms.ro.sv fs N rm)), 0⟩, ⟨.cells [.fn ff [.rom [.own 0 0 p' 0 1] 0, .rom [.ro (.rows .i64 gs) m' 1] 0, .ptr 1 0 0]], 0⟩])
  | _, _ => none
def hd : Nat → Head := fun i => ⟨[0, 1, 2, 3, 4, 5], some 0⟩
noncomputable def LB (N f n : Nat) (s : State) := loopAt Try.prog (orcW [⟨108, R N⟩] [⟨109, slIndex.R⟩, ⟨110, keepRooms.R⟩]) hd dr 2 f (bodyOf Try.f108) 0 [true, true, true, false, true] (retK Try.prog [3] 2 none) n s
theorem start (fs : List (List Int)) (rm : List Int) (m p : Nat) (N f : Nat) :
  runFn Try.prog (orcW [⟨108, R N⟩] [⟨109, slIndex.R⟩, ⟨110, keepRooms.R⟩]) hd dr none f (bodyOf Try.f108) 42 [3] [.rom [.own 0 0 p 0 1] 0, .rom [.ro (.rows .i64 fs) m 1] 0, .ptr 1 0 0] [⟨.typ (.ints .i64 rm), 0⟩, ⟨.cells [.fn 108 [.rom [.own 0 0 p 0 1] 0, .rom [.ro (.rows .i64 fs) m 1] 0, .ptr 1 0 0]], 0⟩]
  = (bif true && (true && true) then bif decide (p ≤ rm.length ∧ p ≤ (4611686018427387904 : Nat)) && (false && true || true && true) then bif decide (fidx.sq (fun y => (-1 : Int) == y) (List.take p rm) (0 : Nat) < (0 : Int)) then bif decide (m = fs.length ∧ p = m) && (rms.va.sp fs && rms.rg.sp m (0 : Int) rm) && (true && (false && true) || true && true) then some (AVal.bool (rms.q.sp fs rm), [{ c := BC.typ (Cont.ints IntKind.i64 rm), ver := (0 : Nat) }, { c := BC.cells [AVal.fn (108 : Nat) [AVal.rom [AVal.own (0 : Nat) (0 : Nat) p (0 : Nat) (1 : Nat)] (0 : Nat), AVal.rom [AVal.ro (Cont.rows IntKind.i64 fs) m (1 : Nat)] (0 : Nat), AVal.ptr (1 : Nat) (0 : Nat) (0 : Nat)]], ver := (0 : Nat) }]) else none else LB N f f (mkS (42 : Nat) [((0 : Nat), AVal.rom [AVal.own (0 : Nat) (0 : Nat) p (0 : Nat) (1 : Nat)] (0 : Nat)), ((1 : Nat), AVal.rom [AVal.ro (Cont.rows IntKind.i64 fs) m (1 : Nat)] (0 : Nat)), ((2 : Nat), AVal.ptr (1 : Nat) (0 : Nat) (0 : Nat)), ((3 : Nat), AVal.bool false), ((4 : Nat), AVal.int IntKind.i64 (fidx.sq (fun y => (-1 : Int) == y) (List.take p rm) (0 : Nat))), ((5 : Nat), AVal.int IntKind.i64 (IntKind.i64.wrap (fidx.sq (fun y => (-1 : Int) == y) (List.take p rm) (0 : Nat) + (1 : Int))))] [{ c := BC.typ (Cont.ints IntKind.i64 rm), ver := (0 : Nat) }, { c := BC.cells [AVal.fn (108 : Nat) [AVal.rom [AVal.own (0 : Nat) (0 : Nat) p (0 : Nat) (1 : Nat)] (0 : Nat), AVal.rom [AVal.ro (Cont.rows IntKind.i64 fs) m (1 : Nat)] (0 : Nat), AVal.ptr (1 : Nat) (0 : Nat) (0 : Nat)]], ver := (0 : Nat) }]) else none else none) := by kernel_rfl
theorem roundB (fs : List (List Int)) (rm : List Int) (m p : Nat) (a : Int) (k N f n : Nat) :
  LB N f (n + 1) (mkS 42 [(0, .rom [.own 0 0 p 0 1] 0), (1, .rom [.ro (.rows .i64 fs) m 1] 0), (2, .ptr 1 0 0), (3, .bool false), (4, .int .i64 a), (5, .int .i64 (k : Nat))] [⟨.typ (.ints .i64 rm), 0⟩, ⟨.cells [.fn 108 [.rom [.own 0 0 p 0 1] 0, .rom [.ro (.rows .i64 fs) m 1] 0, .ptr 1 0 0]], 0⟩])
  = (bif decide ((↑k : Int) < (↑p : Int)) then bif true && (decide ((0 : Int) ≤ (↑k : Int)) && decide ((↑k : Int) < (↑p : Int))) then bif true && decide ((↑k : Int).toNat < rm.length) then bif decide ((0 : Int) ≤ gz rm (↑k : Int).toNat) then LB N f n (mkS (42 : Nat) [((0 : Nat), AVal.rom [AVal.own (0 : Nat) (0 : Nat) p (0 : Nat) (1 : Nat)] (0 : Nat)), ((1 : Nat), AVal.rom [AVal.ro (Cont.rows IntKind.i64 fs) m (1 : Nat)] (0 : Nat)), ((2 : Nat), AVal.ptr (1 : Nat) (0 : Nat) (0 : Nat)), ((3 : Nat), AVal.bool false), ((4 : Nat), AVal.int IntKind.i64 a), ((5 : Nat), AVal.int IntKind.i64 (IntKind.i64.wrap ((↑k : Int) + (1 : Int))))] [{ c := BC.typ (Cont.ints IntKind.i64 rm), ver := (0 : Nat) }, { c := BC.cells [AVal.fn (108 : Nat) [AVal.rom [AVal.own (0 : Nat) (0 : Nat) p (0 : Nat) (1 : Nat)] (0 : Nat), AVal.rom [AVal.ro (Cont.rows IntKind.i64 fs) m (1 : Nat)] (0 : Nat), AVal.ptr (1 : Nat) (0 : Nat) (0 : Nat)]], ver := (0 : Nat) }]) else bif true && (decide ((0 : Int) ≤ a) && decide (a < (↑p : Int))) then bif true && (true && (decide (a.toNat < rm.length) && true)) then bif true && (decide ((0 : Int) ≤ (↑k : Int)) && decide ((↑k : Int) < (↑p : Int))) then bif true && (true && (decide ((↑k : Int).toNat < (rm.set a.toNat (↑k : Int)).length) && true)) then bif true && true then bif decide (m = fs.length ∧ p = m ∧ rms.ng.sv ((rm.set a.toNat (↑k : Int)).set (↑k : Int).toNat a) < N ∧ (108 : FuncId) = (108 : FuncId) ∧ p = p ∧ m = m ∧ fs = fs) && (rms.va.sp fs && rms.rg.sp m (-1 : Int) ((rm.set a.toNat (↑k : Int)).set (↑k : Int).toNat a)) && (true && (true && (true && true))) then bif rms.rf.sp fs N ((rm.set a.toNat (↑k : Int)).set (↑k : Int).toNat a) then some (AVal.bool true, [{ c := BC.typ (Cont.ints IntKind.i64 (rms.ro.sv fs N ((rm.set a.toNat (↑k : Int)).set (↑k : Int).toNat a))), ver := (0 : Nat) }, { c := BC.cells [AVal.fn (108 : Nat) [AVal.rom [AVal.own (0 : Nat) (0 : Nat) p (0 : Nat) (1 : Nat)] (0 : Nat), AVal.rom [AVal.ro (Cont.rows IntKind.i64 fs) m (1 : Nat)] (0 : Nat), AVal.ptr (1 : Nat) (0 : Nat) (0 : Nat)]], ver := (0 : Nat) }]) else bif true && (decide ((0 : Int) ≤ a) && decide (a < (↑p : Int))) then bif true && (true && (decide (a.toNat < (rms.ro.sv fs N ((rm.set a.toNat (↑k : Int)).set (↑k : Int).toNat a)).length) && true)) then bif true && (decide ((0 : Int) ≤ (↑k : Int)) && decide ((↑k : Int) < (↑p : Int))) then bif true && (true && (decide ((↑k : Int).toNat < ((rms.ro.sv fs N ((rm.set a.toNat (↑k : Int)).set (↑k : Int).toNat a)).set a.toNat (-1 : Int)).length) && true)) then LB N f n (mkS (42 : Nat) [((0 : Nat), AVal.rom [AVal.own (0 : Nat) (0 : Nat) p (0 : Nat) (1 : Nat)] (0 : Nat)), ((1 : Nat), AVal.rom [AVal.ro (Cont.rows IntKind.i64 fs) m (1 : Nat)] (0 : Nat)), ((2 : Nat), AVal.ptr (1 : Nat) (0 : Nat) (0 : Nat)), ((3 : Nat), AVal.bool false), ((4 : Nat), AVal.int IntKind.i64 a), ((5 : Nat), AVal.int IntKind.i64 (IntKind.i64.wrap ((↑k : Int) + (1 : Int))))] [{ c := BC.typ (Cont.ints IntKind.i64 (((rms.ro.sv fs N ((rm.set a.toNat (↑k : Int)).set (↑k : Int).toNat a)).set a.toNat (-1 : Int)).set (↑k : Int).toNat (-1 : Int))), ver := (0 : Nat) }, { c := BC.cells [AVal.fn (108 : Nat) [AVal.rom [AVal.own (0 : Nat) (0 : Nat) p (0 : Nat) (1 : Nat)] (0 : Nat), AVal.rom [AVal.ro (Cont.rows IntKind.i64 fs) m (1 : Nat)] (0 : Nat), AVal.ptr (1 : Nat) (0 : Nat) (0 : Nat)]], ver := (0 : Nat) }]) else none else none else none else none else none else none else none else none else none else none else none else none else some (AVal.bool false, [{ c := BC.typ (Cont.ints IntKind.i64 rm), ver := (0 : Nat) }, { c := BC.cells [AVal.fn (108 : Nat) [AVal.rom [AVal.own (0 : Nat) (0 : Nat) p (0 : Nat) (1 : Nat)] (0 : Nat), AVal.rom [AVal.ro (Cont.rows IntKind.i64 fs) m (1 : Nat)] (0 : Nat), AVal.ptr (1 : Nat) (0 : Nat) (0 : Nat)]], ver := (0 : Nat) }])) := by kernel_rfl
end iRooms

namespace rms
theorem full_out {fs : List (List Int)} {N : Nat} {rm : List Int} (h : ft.sv rm = -1) : rf.sp fs (N + 1) rm = q.sp fs rm ∧ ro.sv fs (N + 1) rm = rm := by
  have hn : ((-1 : Int) < 0) := by decide
  unfold rf.sp ro.sv
  simp only [rc, h, hn, decide_true, cond_true]
  cases q.sp fs rm <;> exact ⟨rfl, rfl⟩
theorem some_out {fs : List (List Int)} {N j : Nat} {rm : List Int} (h : ft.sv rm = (j : Int)) : rc fs (N + 1) rm = lp (rc fs N) j rm (rm.length - (j + 1)) (j + 1) := by
  have hn : ¬ ((j : Int) < 0) := by omega
  simp only [rc, h, hn, decide_false, cond_false, Int.toNat_natCast]
end rms
namespace l05Rooms
theorem loopA (fs : List (List Int)) (rm : List Int) (N f : Nat) (hl : rm.length = fs.length) (h8 : fs.length ≤ 1000) : ∀ (d i n : Nat) (a : Int), (a = -1 ∨ 0 ≤ a) → i + d = fs.length → d < n →
    LA N f n (mkS 59 [(0, .ro (.rows .i64 fs) fs.length 1), (1, .own 0 0 fs.length 0 1), (4, .bool false), (5, .int .i64 (a)), (9, .int .i64 fs.length), (10, .int .i64 (i : Nat))] [⟨.typ (.ints .i64 rm), 0⟩]) = LA N f 1 (mkS 59 [(0, .ro (.rows .i64 fs) fs.length 1), (1, .own 0 0 fs.length 0 1), (4, .bool false), (5, .int .i64 (bif decide (a < 0) then fidx.sq (fun x : Int => decide (x < 0)) (rm.drop i) i else a)), (9, .int .i64 fs.length), (10, .int .i64 (fs.length : Nat))] [⟨.typ (.ints .i64 rm), 0⟩]) := by
  intro d
  induction d with
  | zero =>
    intro i n a ha hi hn
    obtain ⟨n, rfl⟩ : ∃ k, n = k + 1 := ⟨n - 1, by omega⟩
    obtain rfl : i = fs.length := by omega
    have e : rm.drop fs.length = [] := List.drop_of_length_le (by omega)
    have e2 : (bif decide (a < 0) then (-1) else a) = a := by
      rcases ha with rfl | ha
      · rfl
      · have : ¬ a < 0 := by omega
        simp -implicitDefEqProofs only [this, and_self, decide_true, decide_false, Bool.and_self, Bool.or_self, Bool.and_true, Bool.true_and, Bool.and_false, Bool.false_and, Bool.or_true, Bool.true_or, Bool.or_false, Bool.false_or, Bool.not_true, Bool.not_false, cond_true, cond_false]
    have h := roundA fs rm fs.length fs.length a fs.length N f n
    have h' := roundA fs rm fs.length fs.length a fs.length N f 0
    rw [e]
    simp -implicitDefEqProofs only [fidx.sq]
    rw [e2, h, h']
    simp -implicitDefEqProofs only [Int.lt_irrefl, and_self, decide_true, decide_false, Bool.and_self, Bool.or_self, Bool.and_true, Bool.true_and, Bool.and_false, Bool.false_and, Bool.or_true, Bool.true_or, Bool.or_false, Bool.false_or, Bool.not_true, Bool.not_false, cond_true, cond_false]
  | succ d ih =>
    intro i n a ha hi hn
    obtain ⟨n, rfl⟩ : ∃ k, n = k + 1 := ⟨n - 1, by omega⟩
    have h4 : (0 : Int) ≤ (i : Int) := Int.natCast_nonneg _
    have h5 : (i : Int) < (fs.length : Int) := by omega
    have x1 : i < rm.length := by omega
    have x4 : ¬ ((i : Int) < 0) := by omega
    have hd : rm.drop i = gz rm i :: rm.drop (i + 1) := by rw [gz_eq x1]; exact List.drop_eq_getElem_cons x1
    have h := roundA fs rm fs.length fs.length a i N f n
    rw [h, hd]
    simp -implicitDefEqProofs only [fidx.sq, h4, h5, x1, Int.toNat_natCast, wrap_nat i (by omega), and_self, decide_true, decide_false, Bool.and_self, Bool.or_self, Bool.and_true, Bool.true_and, Bool.and_false, Bool.false_and, Bool.or_true, Bool.true_or, Bool.or_false, Bool.false_or, Bool.not_true, Bool.not_false, cond_true, cond_false]
    rcases ha with rfl | ha
    · have hneg : ((-1 : Int) < 0) := by decide
      have hih := ih (i + 1) n (-1) (.inl rfl) (by omega) (by omega)
      have hih2 := ih (i + 1) n (i : Int) (.inr h4) (by omega) (by omega)
      simp -implicitDefEqProofs only [hneg, x4, and_self, decide_true, decide_false, Bool.and_self, Bool.or_self, Bool.and_true, Bool.true_and, Bool.and_false, Bool.false_and, Bool.or_true, Bool.true_or, Bool.or_false, Bool.false_or, Bool.not_true, Bool.not_false, cond_true, cond_false] at hih hih2
      simp -implicitDefEqProofs only [hneg, and_self, decide_true, decide_false, Bool.and_self, Bool.or_self, Bool.and_true, Bool.true_and, Bool.and_false, Bool.false_and, Bool.or_true, Bool.true_or, Bool.or_false, Bool.false_or, Bool.not_true, Bool.not_false, cond_true, cond_false]
      by_cases c1 : gz rm i < 0
      · simp -implicitDefEqProofs only [c1, and_self, decide_true, decide_false, Bool.and_self, Bool.or_self, Bool.and_true, Bool.true_and, Bool.and_false, Bool.false_and, Bool.or_true, Bool.true_or, Bool.or_false, Bool.false_or, Bool.not_true, Bool.not_false, cond_true, cond_false]; exact hih2
      · simp -implicitDefEqProofs only [c1, and_self, decide_true, decide_false, Bool.and_self, Bool.or_self, Bool.and_true, Bool.true_and, Bool.and_false, Bool.false_and, Bool.or_true, Bool.true_or, Bool.or_false, Bool.false_or, Bool.not_true, Bool.not_false, cond_true, cond_false]; exact hih
    · have hneg : ¬ (a < 0) := by omega
      have hih := ih (i + 1) n a (.inr ha) (by omega) (by omega)
      simp -implicitDefEqProofs only [hneg, and_self, decide_true, decide_false, Bool.and_self, Bool.or_self, Bool.and_true, Bool.true_and, Bool.and_false, Bool.false_and, Bool.or_true, Bool.true_or, Bool.or_false, Bool.false_or, Bool.not_true, Bool.not_false, cond_true, cond_false] at hih
      simp -implicitDefEqProofs only [hneg, and_self, decide_true, decide_false, Bool.and_self, Bool.or_self, Bool.and_true, Bool.true_and, Bool.and_false, Bool.false_and, Bool.or_true, Bool.true_or, Bool.or_false, Bool.false_or, Bool.not_true, Bool.not_false, cond_true, cond_false]
      exact hih
theorem loopB (fs : List (List Int)) (rm : List Int) (A N f : Nat) (hv : rms.va.sp fs = true) (hg : rms.rg.sp fs.length (-1) rm = true) (hN : rms.ng.sv rm < N + 1) (hA : A < fs.length) (hAn : gz rm A = -1) : ∀ (d k n : Nat), A < k → k + d = fs.length → d < n →
    LB N f n (mkS 59 [(0, .ro (.rows .i64 fs) fs.length 1), (1, .own 0 0 fs.length 0 1), (4, .bool false), (5, .int .i64 (A : Nat)), (7, .int .i64 (k : Nat))] [⟨.typ (.ints .i64 rm), 0⟩]) = some (.bool (rms.lp (rms.rc fs N) A rm d k).isSome, [⟨.typ (.ints .i64 ((rms.lp (rms.rc fs N) A rm d k).getD rm)), 0⟩]) := by
  obtain ⟨hl, hg'⟩ := rms.rg_get hg
  obtain ⟨hn2, hn8⟩ := rms.va_len hv
  have A0 : (0 : Int) ≤ (A : Int) := Int.natCast_nonneg _
  have A1 : (A : Int) < (fs.length : Int) := by omega
  intro d
  induction d with
  | zero =>
    intro k n hAk hk hn
    obtain ⟨n, rfl⟩ : ∃ k, n = k + 1 := ⟨n - 1, by omega⟩
    obtain rfl : k = fs.length := by omega
    rw [roundB]
    simp -implicitDefEqProofs only [Int.lt_irrefl, rms.lp, Option.isSome_none, Option.getD_none, and_self, decide_true, decide_false, Bool.and_self, Bool.or_self, Bool.and_true, Bool.true_and, Bool.and_false, Bool.false_and, Bool.or_true, Bool.true_or, Bool.or_false, Bool.false_or, Bool.not_true, Bool.not_false, cond_true, cond_false]
  | succ d ih =>
    intro k n hAk hk hn
    obtain ⟨n, rfl⟩ : ∃ k, n = k + 1 := ⟨n - 1, by omega⟩
    have k4 : (0 : Int) ≤ (k : Int) := Int.natCast_nonneg _
    have k5 : (k : Int) < (fs.length : Int) := by omega
    have k2 : k < fs.length := by omega
    have hih := ih (k + 1) n (by omega) (by omega) (by omega)
    rw [roundB]
    by_cases c : 0 ≤ gz rm k
    · simp -implicitDefEqProofs only [k4, k5, k2, hl, c, rms.lp, Int.toNat_natCast, wrap_nat k (by omega), and_self, decide_true, decide_false, Bool.and_self, Bool.or_self, Bool.and_true, Bool.true_and, Bool.and_false, Bool.false_and, Bool.or_true, Bool.true_or, Bool.or_false, Bool.false_or, Bool.not_true, Bool.not_false, cond_true, cond_false]
      exact hih
    · have gk : gz rm k = -1 := by have := (hg' k k2).1; omega
      have e2 : (rm.set A (k : Int)).set k (A : Int) = rms.two.sv rm A k := rfl
      have t1 := rms.two_ng (rm := rm) (a := A) (k := k) (by omega) (by omega)
      have t2 : rms.ng.sv (rms.two.sv rm A k) < N := by omega
      have t3 := rms.two_rg hg hA k2
      have t4 := rms.two_len rm A k
      have t5 := rms.back hAn gk (by omega) (by omega)
      cases hr : rms.rc fs N (rms.two.sv rm A k) with
      | some r =>
        have f1 : rms.rf.sp fs N (rms.two.sv rm A k) = true := by unfold rms.rf.sp; rw [hr]; rfl
        have f2 : rms.ro.sv fs N (rms.two.sv rm A k) = r := by unfold rms.ro.sv; rw [hr]; rfl
        simp -implicitDefEqProofs only [k4, k5, k2, hl, hA, A0, A1, c, e2, t2, t3, hv, f1, f2, hr, rms.lp, Option.isSome_some, Option.getD_some, List.length_set, Int.toNat_natCast, wrap_nat k (by omega), true_and, and_true, eq_self, and_self, decide_true, decide_false, Bool.and_self, Bool.or_self, Bool.and_true, Bool.true_and, Bool.and_false, Bool.false_and, Bool.or_true, Bool.true_or, Bool.or_false, Bool.false_or, Bool.not_true, Bool.not_false, cond_true, cond_false]
      | none =>
        have f1 : rms.rf.sp fs N (rms.two.sv rm A k) = false := by unfold rms.rf.sp; rw [hr]; rfl
        have f2 : rms.ro.sv fs N (rms.two.sv rm A k) = rms.two.sv rm A k := by unfold rms.ro.sv; rw [hr]; rfl
        simp -implicitDefEqProofs only [k4, k5, k2, hl, hA, A0, A1, c, e2, t2, t3, t4, t5, hv, f1, f2, hr, rms.lp, List.length_set, Int.toNat_natCast, wrap_nat k (by omega), true_and, and_true, eq_self, and_self, decide_true, decide_false, Bool.and_self, Bool.or_self, Bool.and_true, Bool.true_and, Bool.and_false, Bool.false_and, Bool.or_true, Bool.true_or, Bool.or_false, Bool.false_or, Bool.not_true, Bool.not_false, cond_true, cond_false]
        exact hih
theorem run (N : Nat) : ∀ args H v new, R (N + 1) args H = some (true, v, new) → ∃ fuel, runFn Try.prog (orcW [⟨112, R N⟩] [⟨153, l05Quiet.R⟩]) hd Dr.std none fuel (bodyOf Try.f112) 59 [4] args H = some (v, new) := by
  intro args H v new h
  unfold R at h
  split at h
  · rename_i fs m p rm
    simp only [Option.some.injEq, Prod.mk.injEq, decide_eq_true_eq, Bool.and_eq_true] at h
    obtain ⟨⟨⟨rfl, rfl, hN⟩, hv, hg⟩, rfl, rfl⟩ := h
    obtain ⟨hl, hg'⟩ := rms.rg_get hg
    obtain ⟨hn2, hn8⟩ := rms.va_len hv
    obtain ⟨F, hF⟩ : ∃ F : Nat, F = fs.length + 5 := ⟨_, rfl⟩
    refine ⟨F, ?_⟩
    rw [start]
    have hA := loopA fs rm N F hl (by omega) fs.length 0 F (-1) (.inl rfl) (by omega) (by omega)
    have hfi : (bif decide ((-1:Int) < 0) then fidx.sq (fun x : Int => decide (x < 0)) (rm.drop 0) 0 else -1) = rms.ft.sv rm := by rw [List.drop_zero]; rfl
    rw [hfi] at hA
    simp -implicitDefEqProofs only [and_self, decide_true, decide_false, Bool.and_self, Bool.or_self, Bool.and_true, Bool.true_and, Bool.and_false, Bool.false_and, Bool.or_true, Bool.true_or, Bool.or_false, Bool.false_or, Bool.not_true, Bool.not_false, cond_true, cond_false]
    refine Eq.trans hA ?_
    rcases rms.ft_cases rm with ⟨hf, h0⟩ | ⟨j, hj, hf, hjn⟩
    · obtain ⟨f1, f2⟩ := rms.full_out (fs := fs) (N := N) hf
      have hr := rms.rg_full hg h0
      have hneg : ((-1 : Int) < 0) := by decide
      rw [hf, f1, f2]
      rw [roundA]
      simp -implicitDefEqProofs only [Int.lt_irrefl, hneg, hv, hr, and_self, and_self, decide_true, decide_false, Bool.and_self, Bool.or_self, Bool.and_true, Bool.true_and, Bool.and_false, Bool.false_and, Bool.or_true, Bool.true_or, Bool.or_false, Bool.false_or, Bool.not_true, Bool.not_false, cond_true, cond_false]
    · have hj' : j < fs.length := by omega
      have hjn' : gz rm j = -1 := by have := (hg' j hj').1; omega
      have hb := loopB fs rm j N F hv hg hN hj' hjn' (fs.length - (j + 1)) (j + 1) F (by omega) (by omega) (by omega)
      have hnn : ¬ ((j : Int) < 0) := by omega
      have f1 : rms.rf.sp fs (N + 1) rm = (rms.lp (rms.rc fs N) j rm (fs.length - (j + 1)) (j + 1)).isSome := by unfold rms.rf.sp; rw [rms.some_out hf, hl]
      have f2 : rms.ro.sv fs (N + 1) rm = (rms.lp (rms.rc fs N) j rm (fs.length - (j + 1)) (j + 1)).getD rm := by unfold rms.ro.sv; rw [rms.some_out hf, hl]
      rw [hf, f1, f2]
      rw [roundA]
      simp -implicitDefEqProofs only [Int.lt_irrefl, hnn, wrap_nat j (by omega), and_self, decide_true, decide_false, Bool.and_self, Bool.or_self, Bool.and_true, Bool.true_and, Bool.and_false, Bool.false_and, Bool.or_true, Bool.true_or, Bool.or_false, Bool.false_or, Bool.not_true, Bool.not_false, cond_true, cond_false]
      exact hb

  · cases h
theorem run0 : ∀ args H v new, R 0 args H = some (true, v, new) → ∃ fuel, runFn Try.prog (orc [⟨153, l05Quiet.R⟩]) hd Dr.std none fuel (bodyOf Try.f112) 59 [4] args H = some (v, new) := by
  intro args H v new h
  unfold R at h
  split at h
  · simp only [Option.some.injEq, Prod.mk.injEq, decide_eq_true_eq, Bool.and_eq_true] at h
    obtain ⟨⟨h1, h2⟩, h3⟩ := h
    exact absurd h1.2.2 (by first | exact Nat.not_lt_zero _ | (intro hh; exact Nat.not_lt_zero _ hh.1))
  · cases h
theorem ok : ∀ N, EntWOk Try.prog ⟨112, R N⟩ := by
  intro N
  induction N with
  | zero => exact entw_ok mixed (A := (orc [⟨153, l05Quiet.R⟩])) (orc_ok (by simp only [List.mem_cons, List.not_mem_nil, or_false, forall_eq_or_imp, forall_eq]; exact l05Quiet.ok)) Try.func112 (by kernel_rfl) (by kernel_rfl) (n := 59) (ts := [4]) (hd := hd) (dr := Dr.std) (cut := none) (by kernel_rfl) (by kernel_rfl) (by kernel_rfl) run0
  | succ N ih => exact entw_ok mixed (A := (orcW [⟨112, R N⟩] [⟨153, l05Quiet.R⟩])) (orcW_ok (by simp only [List.mem_cons, List.not_mem_nil, or_false, forall_eq_or_imp, forall_eq]; exact ih) (by simp only [List.mem_cons, List.not_mem_nil, or_false, forall_eq_or_imp, forall_eq]; exact l05Quiet.ok)) Try.func112 (by kernel_rfl) (by kernel_rfl) (n := 59) (ts := [4]) (hd := hd) (dr := Dr.std) (cut := none) (by kernel_rfl) (by kernel_rfl) (by kernel_rfl) (run N)
end l05Rooms
namespace iRooms
theorem loopB (fs : List (List Int)) (rm : List Int) (A N f : Nat) (hv : rms.va.sp fs = true) (hg : rms.rg.sp fs.length (-1) rm = true) (hN : rms.ng.sv rm < N + 1) (hA : A < fs.length) (hAn : gz rm A = -1) : ∀ (d k n : Nat), A < k → k + d = fs.length → d < n →
    LB N f n (mkS 42 [(0, .rom [.own 0 0 fs.length 0 1] 0), (1, .rom [.ro (.rows .i64 fs) fs.length 1] 0), (2, .ptr 1 0 0), (3, .bool false), (4, .int .i64 (A : Nat)), (5, .int .i64 (k : Nat))] [⟨.typ (.ints .i64 rm), 0⟩, ⟨.cells [.fn 108 [.rom [.own 0 0 fs.length 0 1] 0, .rom [.ro (.rows .i64 fs) fs.length 1] 0, .ptr 1 0 0]], 0⟩]) = some (.bool (rms.lp (rms.rc fs N) A rm d k).isSome, [⟨.typ (.ints .i64 ((rms.lp (rms.rc fs N) A rm d k).getD rm)), 0⟩, ⟨.cells [.fn 108 [.rom [.own 0 0 fs.length 0 1] 0, .rom [.ro (.rows .i64 fs) fs.length 1] 0, .ptr 1 0 0]], 0⟩]) := by
  obtain ⟨hl, hg'⟩ := rms.rg_get hg
  obtain ⟨hn2, hn8⟩ := rms.va_len hv
  have A0 : (0 : Int) ≤ (A : Int) := Int.natCast_nonneg _
  have A1 : (A : Int) < (fs.length : Int) := by omega
  intro d
  induction d with
  | zero =>
    intro k n hAk hk hn
    obtain ⟨n, rfl⟩ : ∃ k, n = k + 1 := ⟨n - 1, by omega⟩
    obtain rfl : k = fs.length := by omega
    rw [roundB]
    simp -implicitDefEqProofs only [Int.lt_irrefl, rms.lp, Option.isSome_none, Option.getD_none, and_self, decide_true, decide_false, Bool.and_self, Bool.or_self, Bool.and_true, Bool.true_and, Bool.and_false, Bool.false_and, Bool.or_true, Bool.true_or, Bool.or_false, Bool.false_or, Bool.not_true, Bool.not_false, cond_true, cond_false]
  | succ d ih =>
    intro k n hAk hk hn
    obtain ⟨n, rfl⟩ : ∃ k, n = k + 1 := ⟨n - 1, by omega⟩
    have k4 : (0 : Int) ≤ (k : Int) := Int.natCast_nonneg _
    have k5 : (k : Int) < (fs.length : Int) := by omega
    have k2 : k < fs.length := by omega
    have hih := ih (k + 1) n (by omega) (by omega) (by omega)
    rw [roundB]
    by_cases c : 0 ≤ gz rm k
    · simp -implicitDefEqProofs only [k4, k5, k2, hl, c, rms.lp, Int.toNat_natCast, wrap_nat k (by omega), and_self, decide_true, decide_false, Bool.and_self, Bool.or_self, Bool.and_true, Bool.true_and, Bool.and_false, Bool.false_and, Bool.or_true, Bool.true_or, Bool.or_false, Bool.false_or, Bool.not_true, Bool.not_false, cond_true, cond_false]
      exact hih
    · have gk : gz rm k = -1 := by have := (hg' k k2).1; omega
      have e2 : (rm.set A (k : Int)).set k (A : Int) = rms.two.sv rm A k := rfl
      have t1 := rms.two_ng (rm := rm) (a := A) (k := k) (by omega) (by omega)
      have t2 : rms.ng.sv (rms.two.sv rm A k) < N := by omega
      have t3 := rms.two_rg hg hA k2
      have t4 := rms.two_len rm A k
      have t5 := rms.back hAn gk (by omega) (by omega)
      cases hr : rms.rc fs N (rms.two.sv rm A k) with
      | some r =>
        have f1 : rms.rf.sp fs N (rms.two.sv rm A k) = true := by unfold rms.rf.sp; rw [hr]; rfl
        have f2 : rms.ro.sv fs N (rms.two.sv rm A k) = r := by unfold rms.ro.sv; rw [hr]; rfl
        simp -implicitDefEqProofs only [k4, k5, k2, hl, hA, A0, A1, c, e2, t2, t3, hv, f1, f2, hr, rms.lp, Option.isSome_some, Option.getD_some, List.length_set, Int.toNat_natCast, wrap_nat k (by omega), true_and, and_true, eq_self, and_self, decide_true, decide_false, Bool.and_self, Bool.or_self, Bool.and_true, Bool.true_and, Bool.and_false, Bool.false_and, Bool.or_true, Bool.true_or, Bool.or_false, Bool.false_or, Bool.not_true, Bool.not_false, cond_true, cond_false]
      | none =>
        have f1 : rms.rf.sp fs N (rms.two.sv rm A k) = false := by unfold rms.rf.sp; rw [hr]; rfl
        have f2 : rms.ro.sv fs N (rms.two.sv rm A k) = rms.two.sv rm A k := by unfold rms.ro.sv; rw [hr]; rfl
        simp -implicitDefEqProofs only [k4, k5, k2, hl, hA, A0, A1, c, e2, t2, t3, t4, t5, hv, f1, f2, hr, rms.lp, List.length_set, Int.toNat_natCast, wrap_nat k (by omega), true_and, and_true, eq_self, and_self, decide_true, decide_false, Bool.and_self, Bool.or_self, Bool.and_true, Bool.true_and, Bool.and_false, Bool.false_and, Bool.or_true, Bool.true_or, Bool.or_false, Bool.false_or, Bool.not_true, Bool.not_false, cond_true, cond_false]
        exact hih
theorem run (N : Nat) : ∀ args H v new, R (N + 1) args H = some (true, v, new) → ∃ fuel, runFn Try.prog (orcW [⟨108, R N⟩] [⟨109, slIndex.R⟩, ⟨110, keepRooms.R⟩]) hd dr none fuel (bodyOf Try.f108) 42 [3] args H = some (v, new) := by
  intro args H v new h
  unfold R at h
  split at h
  · rename_i p fs m rm ff p' gs m'
    simp only [Option.some.injEq, Prod.mk.injEq, decide_eq_true_eq, Bool.and_eq_true] at h
    obtain ⟨⟨⟨g1, g2, hN, g3, g4, g5, g6⟩, hv, hg⟩, rfl, rfl⟩ := h
    subst gs m' p' ff p m
    obtain ⟨hl, hg'⟩ := rms.rg_get hg
    obtain ⟨hn2, hn8⟩ := rms.va_len hv
    obtain ⟨F, hF⟩ : ∃ F : Nat, F = fs.length + 5 := ⟨_, rfl⟩
    refine ⟨F, ?_⟩
    rw [start]
    have e1 : rm.take fs.length = rm := List.take_of_length_le (by omega)
    have e2 : fidx.sq (fun y : Int => (-1 : Int) == y) rm 0 = rms.ft.sv rm := by rw [has_comm]; exact rms.ft_has hg
    have e3 : fs.length ≤ rm.length := by omega
    have e4 : fs.length ≤ 4611686018427387904 := by omega
    rw [e1, e2]
    rcases rms.ft_cases rm with ⟨hf, h0⟩ | ⟨j, hj, hf, hjn⟩
    · obtain ⟨f1, f2⟩ := rms.full_out (fs := fs) (N := N) hf
      have hr := rms.rg_full hg h0
      have hneg : ((-1 : Int) < 0) := by decide
      rw [hf, f1, f2]
      simp -implicitDefEqProofs only [e3, e4, hneg, hv, hr, and_self, and_self, decide_true, decide_false, Bool.and_self, Bool.or_self, Bool.and_true, Bool.true_and, Bool.and_false, Bool.false_and, Bool.or_true, Bool.true_or, Bool.or_false, Bool.false_or, Bool.not_true, Bool.not_false, cond_true, cond_false]
    · have hj' : j < fs.length := by omega
      have hjn' : gz rm j = -1 := by have := (hg' j hj').1; omega
      have hb := loopB fs rm j N F hv hg hN hj' hjn' (fs.length - (j + 1)) (j + 1) F (by omega) (by omega) (by omega)
      have hnn : ¬ ((j : Int) < 0) := by omega
      have f1 : rms.rf.sp fs (N + 1) rm = (rms.lp (rms.rc fs N) j rm (fs.length - (j + 1)) (j + 1)).isSome := by unfold rms.rf.sp; rw [rms.some_out hf, hl]
      have f2 : rms.ro.sv fs (N + 1) rm = (rms.lp (rms.rc fs N) j rm (fs.length - (j + 1)) (j + 1)).getD rm := by unfold rms.ro.sv; rw [rms.some_out hf, hl]
      rw [hf, f1, f2]
      simp -implicitDefEqProofs only [e3, e4, hnn, wrap_nat j (by omega), and_self, and_self, decide_true, decide_false, Bool.and_self, Bool.or_self, Bool.and_true, Bool.true_and, Bool.and_false, Bool.false_and, Bool.or_true, Bool.true_or, Bool.or_false, Bool.false_or, Bool.not_true, Bool.not_false, cond_true, cond_false]
      exact hb

  · cases h
theorem run0 : ∀ args H v new, R 0 args H = some (true, v, new) → ∃ fuel, runFn Try.prog (orc [⟨109, slIndex.R⟩, ⟨110, keepRooms.R⟩]) hd dr none fuel (bodyOf Try.f108) 42 [3] args H = some (v, new) := by
  intro args H v new h
  unfold R at h
  split at h
  · simp only [Option.some.injEq, Prod.mk.injEq, decide_eq_true_eq, Bool.and_eq_true] at h
    obtain ⟨⟨h1, h2⟩, h3⟩ := h
    exact absurd h1.2.2 (by first | exact Nat.not_lt_zero _ | (intro hh; exact Nat.not_lt_zero _ hh.1))
  · cases h
theorem ok : ∀ N, EntWOk Try.prog ⟨108, R N⟩ := by
  intro N
  induction N with
  | zero => exact entw_ok mixed (A := (orc [⟨109, slIndex.R⟩, ⟨110, keepRooms.R⟩])) (orc_ok (by simp only [List.mem_cons, List.not_mem_nil, or_false, forall_eq_or_imp, forall_eq]; exact ⟨slIndex.ok, keepRooms.ok⟩)) Try.func108 (by kernel_rfl) (by kernel_rfl) (n := 42) (ts := [3]) (hd := hd) (dr := dr) (cut := none) (by kernel_rfl) (by kernel_rfl) (by kernel_rfl) run0
  | succ N ih => exact entw_ok mixed (A := (orcW [⟨108, R N⟩] [⟨109, slIndex.R⟩, ⟨110, keepRooms.R⟩])) (orcW_ok (by simp only [List.mem_cons, List.not_mem_nil, or_false, forall_eq_or_imp, forall_eq]; exact ih) (by simp only [List.mem_cons, List.not_mem_nil, or_false, forall_eq_or_imp, forall_eq]; exact ⟨slIndex.ok, keepRooms.ok⟩)) Try.func108 (by kernel_rfl) (by kernel_rfl) (n := 42) (ts := [3]) (hd := hd) (dr := dr) (cut := none) (by kernel_rfl) (by kernel_rfl) (by kernel_rfl) (run N)
end iRooms

namespace iRoomsP
def R (N : Nat) : List AVal → Heap → Option (Bool × AVal × Heap)
  | [.ptr 0 0 0, .ptr 2 0 0, .ptr 3 0 0], [⟨.cells [.own 1 0 p 0 1], 0⟩, ⟨.typ (.ints .i64 rm), 0⟩, ⟨.cells [.ro (.rows .i64 fs) m 1], 0⟩, ⟨.cells [.fn ff [.ptr 0 0 0, .ptr 2 0 0, .ptr 3 0 0]], 0⟩] => some (decide (m = fs.length ∧ p = m ∧ rms.ng.sv rm < N ∧ ff = 108) && (rms.va.sp fs && rms.rg.sp m (-1) rm), .bool (rms.rf.sp fs N rm), [⟨.cells [.own 1 0 p 0 1], 0⟩, ⟨.typ (.ints .i64 (rms.ro.sv fs N rm)), 0⟩, ⟨.cells [.top], 0⟩, ⟨.cells [.top], 0⟩])
  | _, _ => none
theorem ok (N : Nat) : EntWOk Try.prog ⟨108, R N⟩ := by
  refine ⟨(iRooms.ok N).1, fun args H v H' h0 => ?_⟩
  have h : R N args H = some (true, v, H') := h0
  unfold R at h
  split at h
  case h_2 => cases h
  rename_i p rm fs m ff
  simp only [Option.some.injEq, Prod.mk.injEq, decide_eq_true_eq, Bool.and_eq_true] at h
  obtain ⟨⟨⟨g1, g2, hN, g3⟩, hv, hg⟩, rfl, rfl⟩ := h
  subst g3 p
  obtain ⟨hl, _⟩ := rms.rg_get hg
  have hc : ACalls Try.prog 108 [.rom [.own 0 0 m 0 1] 0, .rom [.ro (.rows .i64 fs) m 1] 0, .ptr 1 0 0] [⟨.typ (.ints .i64 rm), 0⟩, ⟨.cells [.fn 108 [.rom [.own 0 0 m 0 1] 0, .rom [.ro (.rows .i64 fs) m 1] 0, .ptr 1 0 0]], 0⟩] (.bool (rms.rf.sp fs N rm)) [⟨.typ (.ints .i64 (rms.ro.sv fs N rm)), 0⟩, ⟨.cells [.fn 108 [.rom [.own 0 0 m 0 1] 0, .rom [.ro (.rows .i64 fs) m 1] 0, .ptr 1 0 0]], 0⟩] :=
    (iRooms.ok N).2 _ _ _ _ (by simp [iRooms.R, g1, hN, hv]; exact g1 ▸ hg)
  intro Fb ρ w cargs S V
  have hlen := S.len
  obtain ⟨b0, b1, b2, b3, rfl⟩ : ∃ b0 b1 b2 b3, ρ = [b0, b1, b2, b3] := by
    match ρ, hlen with
    | [b0, b1, b2, b3], _ => exact ⟨b0, b1, b2, b3, rfl⟩
  have hnd := S.nodup
  simp only [List.nodup_cons, List.mem_cons, List.not_mem_nil, or_false, not_or, List.nodup_nil, and_true, not_false_eq_true] at hnd
  obtain ⟨⟨n01, n02, n03⟩, ⟨n12, n13⟩, n23⟩ := hnd
  have hs : ∀ b, Stb [b0, b1, b2, b3] w b → Stb [b1, b3] w b := fun b ⟨h1, h2, h3⟩ => ⟨h1, fun hm => h2 (by simp only [List.mem_cons, List.not_mem_nil, or_false] at hm ⊢; rcases hm with rfl | rfl <;> simp), h3⟩
  obtain ⟨cs0, e0, w0, k0, B0⟩ := S.blk 0 b0 _ rfl rfl
  obtain ⟨cs1, e1, w1, k1, B1⟩ := S.blk 1 b1 _ rfl rfl
  obtain ⟨cs2, e2, w2, k2, B2⟩ := S.blk 2 b2 _ rfl rfl
  obtain ⟨cs3, e3, w3, k3, B3⟩ := S.blk 3 b3 _ rfl rfl
  obtain ⟨x0, hx0, v0⟩ := B0 0 _ rfl
  obtain ⟨x2, hx2, v2⟩ := B2 0 _ rfl
  obtain ⟨x3, hx3, v3⟩ := B3 0 _ rfl
  obtain ⟨y0, hy0, u0⟩ : ∃ y, cs0[0]? = some y ∧ ∃ (a : Addr) (cap : Nat), y = .slice (some a) m cap ∧ m ≤ cap ∧ a = ⟨b1, 0, none⟩ ∧ m ≤ rm.length ∧ cap ≤ cs1.size := by
    refine ⟨x0, hx0, ?_⟩
    cases v0 with
    | own _ _ _ _ _ a cap h hm =>
      obtain ⟨blk, q1, q2, q3⟩ := h
      simp only [List.getElem?_cons_succ, List.getElem?_cons_zero, Option.some.injEq] at q1
      subst q1
      obtain ⟨b, cs, t, r1, r2, r3, r4, r5⟩ := q3 rfl
      simp only [List.getElem?_cons_succ, List.getElem?_cons_zero, Option.some.injEq] at r1
      subst r1
      rw [w1] at r4
      simp only [Option.some.injEq, Obj.cells.injEq, and_true] at r4
      obtain ⟨rfl, rfl⟩ := r4
      refine ⟨a, cap, rfl, hm, r2, ?_, by omega⟩
      simpa [BC.len, Cont.len, hlen_eq] using r3
  obtain ⟨a, cap, rfl, hm, rfl, hmr, hcap⟩ := u0
  have hx : x0 = .slice (some ⟨b1, 0, none⟩) m cap := by rw [hx0] at hy0; exact Option.some.inj hy0
  have own1 : VR [b1, b3] [⟨.typ (.ints .i64 rm), 0⟩, ⟨.cells [.fn 108 [.rom [.own 0 0 m 0 1] 0, .rom [.ro (.rows .i64 fs) m 1] 0, .ptr 1 0 0]], 0⟩] w (.own 0 0 m 0 1) (.slice (some ⟨b1, 0, none⟩) m cap) :=
    .own 0 0 m 0 1 _ cap ⟨_, rfl, Nat.le_refl _, fun _ => ⟨b1, cs1, e1, rfl, rfl, by simpa [BC.len, Cont.len, hlen_eq] using hmr, w1, by omega⟩⟩ hm
  have ro1 : VR [b1, b3] [⟨.typ (.ints .i64 rm), 0⟩, ⟨.cells [.fn 108 [.rom [.own 0 0 m 0 1] 0, .rom [.ro (.rows .i64 fs) m 1] 0, .ptr 1 0 0]], 0⟩] w (.ro (.rows .i64 fs) m 1) x2 := by
    cases v2 with
    | ro c len z a cap h0 h hm hl => exact .ro _ _ _ a cap h0 (fun p hp => (h p hp).reforb hs) hm hl
  have cell0 : ∀ {b : Nat} {cs : Array Value} {e : TypeId} {x : Value}, w.heap[b]? = some (Obj.cells cs e (0, 0)) → cs[0]? = some x → w.cell? ⟨b, 0, none⟩ = some x := by
    intro b cs e x h1 h2
    simp [World.cell?, h1, h2]
  have stb : ∀ {b : Nat} {cs : Array Value} {e : TypeId}, w.heap[b]? = some (Obj.cells cs e (0, 0)) → b ≠ b1 → b ≠ b3 → b ∈ [b0, b1, b2, b3] → Stb [b1, b3] w b := fun {b cs e} h1 h2 h3 h4 =>
    ⟨(Array.getElem?_eq_some_iff.1 h1).1, by simp [h2, h3], fun hm => (S.forb b hm).2 h4⟩
  have p0 : ∀ c, VR [b0, b1, b2, b3] [⟨.cells [.own 1 0 m 0 1], 0⟩, ⟨.typ (.ints .i64 rm), 0⟩, ⟨.cells [.ro (.rows .i64 fs) m 1], 0⟩, ⟨.cells [.fn 108 [.ptr 0 0 0, .ptr 2 0 0, .ptr 3 0 0]], 0⟩] w (.ptr 0 0 0) c → VR [b1, b3] [⟨.typ (.ints .i64 rm), 0⟩, ⟨.cells [.fn 108 [.rom [.own 0 0 m 0 1] 0, .rom [.ro (.rows .i64 fs) m 1] 0, .ptr 1 0 0]], 0⟩] w (.rom [.own 0 0 m 0 1] 0) c := by
    intro c h
    cases h with
    | ptr _ _ _ a h =>
      obtain ⟨blk, q1, q2, q3⟩ := h
      simp only [List.getElem?_cons_zero, Option.some.injEq] at q1
      subst q1
      obtain ⟨b, r1, rfl⟩ := q3 rfl
      simp only [List.getElem?_cons_zero, Option.some.injEq] at r1
      subst r1
      refine .rom _ 0 _ #[.slice (some ⟨b1, 0, none⟩) m cap] rfl (fun i x hi => ?_) (fun i u hi => ?_)
      · match i, hi with
        | 0, hi =>
          simp only [Nat.add_zero, List.getElem?_toArray, List.getElem?_cons_zero, Option.some.injEq] at hi
          subst hi
          refine ⟨stb w0 n01 n03 (by simp), ?_⟩
          show w.cell? ⟨b0, 0 + 0, none⟩ = _
          exact cell0 w0 hy0
        | i + 1, hi => simp at hi
      · match i, hi with
        | 0, hi => simp only [List.getElem?_cons_zero, Option.some.injEq] at hi; subst hi; exact own1
        | i + 1, hi => simp at hi
  have p2 : ∀ c, VR [b0, b1, b2, b3] [⟨.cells [.own 1 0 m 0 1], 0⟩, ⟨.typ (.ints .i64 rm), 0⟩, ⟨.cells [.ro (.rows .i64 fs) m 1], 0⟩, ⟨.cells [.fn 108 [.ptr 0 0 0, .ptr 2 0 0, .ptr 3 0 0]], 0⟩] w (.ptr 2 0 0) c → VR [b1, b3] [⟨.typ (.ints .i64 rm), 0⟩, ⟨.cells [.fn 108 [.rom [.own 0 0 m 0 1] 0, .rom [.ro (.rows .i64 fs) m 1] 0, .ptr 1 0 0]], 0⟩] w (.rom [.ro (.rows .i64 fs) m 1] 0) c := by
    intro c h
    cases h with
    | ptr _ _ _ a h =>
      obtain ⟨blk, q1, q2, q3⟩ := h
      simp only [List.getElem?_cons_succ, List.getElem?_cons_zero, Option.some.injEq] at q1
      subst q1
      obtain ⟨b, r1, rfl⟩ := q3 rfl
      simp only [List.getElem?_cons_succ, List.getElem?_cons_zero, Option.some.injEq] at r1
      subst r1
      refine .rom _ 0 _ #[x2] rfl (fun i x hi => ?_) (fun i u hi => ?_)
      · match i, hi with
        | 0, hi =>
          simp only [Nat.add_zero, List.getElem?_toArray, List.getElem?_cons_zero, Option.some.injEq] at hi
          subst hi
          refine ⟨stb w2 (fun e => n12 e.symm) n23 (by simp), ?_⟩
          show w.cell? ⟨b2, 0 + 0, none⟩ = _
          exact cell0 w2 hx2
        | i + 1, hi => simp at hi
      · match i, hi with
        | 0, hi => simp only [List.getElem?_cons_zero, Option.some.injEq] at hi; subst hi; exact ro1
        | i + 1, hi => simp at hi
  have p3 : ∀ c, VR [b0, b1, b2, b3] [⟨.cells [.own 1 0 m 0 1], 0⟩, ⟨.typ (.ints .i64 rm), 0⟩, ⟨.cells [.ro (.rows .i64 fs) m 1], 0⟩, ⟨.cells [.fn 108 [.ptr 0 0 0, .ptr 2 0 0, .ptr 3 0 0]], 0⟩] w (.ptr 3 0 0) c → VR [b1, b3] [⟨.typ (.ints .i64 rm), 0⟩, ⟨.cells [.fn 108 [.rom [.own 0 0 m 0 1] 0, .rom [.ro (.rows .i64 fs) m 1] 0, .ptr 1 0 0]], 0⟩] w (.ptr 1 0 0) c := by
    intro c h
    cases h with
    | ptr _ _ _ a h =>
      obtain ⟨blk, q1, q2, q3⟩ := h
      simp only [List.getElem?_cons_succ, List.getElem?_cons_zero, Option.some.injEq] at q1
      subst q1
      obtain ⟨b, r1, rfl⟩ := q3 rfl
      exact .ptr 1 0 0 _ ⟨_, rfl, Nat.le_refl _, fun _ => ⟨b, r1, rfl⟩⟩
  have all3 : ∀ cs : List Value, VRs [b0, b1, b2, b3] [⟨.cells [.own 1 0 m 0 1], 0⟩, ⟨.typ (.ints .i64 rm), 0⟩, ⟨.cells [.ro (.rows .i64 fs) m 1], 0⟩, ⟨.cells [.fn 108 [.ptr 0 0 0, .ptr 2 0 0, .ptr 3 0 0]], 0⟩] w [.ptr 0 0 0, .ptr 2 0 0, .ptr 3 0 0] cs → VRs [b1, b3] [⟨.typ (.ints .i64 rm), 0⟩, ⟨.cells [.fn 108 [.rom [.own 0 0 m 0 1] 0, .rom [.ro (.rows .i64 fs) m 1] 0, .ptr 1 0 0]], 0⟩] w [.rom [.own 0 0 m 0 1] 0, .rom [.ro (.rows .i64 fs) m 1] 0, .ptr 1 0 0] cs := by
    intro cs hh
    obtain ⟨c1, t1, rfl, a1, h1⟩ := hh.inv_cons
    obtain ⟨c2, t2, rfl, a2, h2⟩ := h1.inv_cons
    obtain ⟨c3, t3, rfl, a3, h3⟩ := h2.inv_cons
    obtain rfl := h3.inv_nil
    exact VRs.cons (p0 _ a1) (VRs.cons (p2 _ a2) (VRs.cons (p3 _ a3) (VRs.nil _ _ _)))
  have f3 : VR [b1, b3] [⟨.typ (.ints .i64 rm), 0⟩, ⟨.cells [.fn 108 [.rom [.own 0 0 m 0 1] 0, .rom [.ro (.rows .i64 fs) m 1] 0, .ptr 1 0 0]], 0⟩] w (.fn 108 [.rom [.own 0 0 m 0 1] 0, .rom [.ro (.rows .i64 fs) m 1] 0, .ptr 1 0 0]) x3 := by
    cases v3 with
    | fn f vs cs hl h =>
      have h4 : VRs [b0, b1, b2, b3] [⟨.cells [.own 1 0 m 0 1], 0⟩, ⟨.typ (.ints .i64 rm), 0⟩, ⟨.cells [.ro (.rows .i64 fs) m 1], 0⟩, ⟨.cells [.fn 108 [.ptr 0 0 0, .ptr 2 0 0, .ptr 3 0 0]], 0⟩] w [.ptr 0 0 0, .ptr 2 0 0, .ptr 3 0 0] cs.toList := ⟨by simpa using hl, fun i u x hu hx => by
        have := h i u hu
        have hx' : cs[i]? = some x := by simpa using hx
        rwa [Array.getD_eq_getD_getElem?, hx', Option.getD_some] at this⟩
      obtain ⟨l1, l2⟩ := all3 _ h4
      refine .fn _ _ cs (by simpa using l1) fun i u hu => ?_
      have hi : i < cs.size := by
        have := (List.getElem?_eq_some_iff.1 hu).1
        have l1' : (3 : Nat) = cs.size := by simpa using l1
        have l3 : i < 3 := this
        omega
      have := l2 i u cs[i] hu (by simp [hi])
      simpa [Array.getD_eq_getD_getElem?, hi] using this
  have S1 : Sim [b1, b3] [⟨.typ (.ints .i64 rm), 0⟩, ⟨.cells [.fn 108 [.rom [.own 0 0 m 0 1] 0, .rom [.ro (.rows .i64 fs) m 1] 0, .ptr 1 0 0]], 0⟩] w := by
    refine ⟨rfl, by simp [n13], fun b hb => ⟨(S.forb b hb).1, fun hm => (S.forb b hb).2 (by simp only [List.mem_cons, List.not_mem_nil, or_false] at hm ⊢; rcases hm with rfl | rfl <;> simp)⟩, fun l b blk hlb hb => ?_⟩
    match l, hlb, hb with
    | 0, hlb, hb =>
      simp only [List.getElem?_cons_zero, Option.some.injEq] at hlb hb
      subst hlb hb
      refine ⟨cs1, e1, w1, k1, fun i u hu => ?_⟩
      obtain ⟨x, hx, vx⟩ := B1 i u hu
      simp only [BC.get?, Cont.get?] at hu
      split at hu
      · simp only [Option.some.injEq] at hu
        subst hu
        cases vx
        exact ⟨_, hx, .int _ _⟩
      · cases hu
    | 1, hlb, hb =>
      simp only [List.getElem?_cons_succ, List.getElem?_cons_zero, Option.some.injEq] at hlb hb
      subst hlb hb
      refine ⟨cs3, e3, w3, k3, fun i u hu => ?_⟩
      match i, hu with
      | 0, hu =>
        simp only [BC.get?, nth_eq, List.getElem?_cons_zero, Option.some.injEq] at hu
        subst hu
        exact ⟨x3, hx3, f3⟩
      | i + 1, hu => simp [BC.get?, nth_eq] at hu
    | l + 2, hlb, hb => simp at hlb
  refine (hc [b1, b3] w cargs S1 (all3 _ V)).mono fun e w' ⟨c, he, ρ1, Vc, S1', M1⟩ => ⟨c, he, [b0, b1, b2, b3], ?_, ?_, ?_⟩
  · cases Vc; exact .bool _
  all_goals
    obtain ⟨bk0, m1, m2, m3⟩ := M1.keep 0 _ rfl
    simp only [List.getElem?_cons_zero, Option.some.injEq] at m1
    subst m1
    obtain ⟨m4, m5, m6⟩ := m3 rfl
    obtain ⟨cs1', w1', z1⟩ := m6 b1 cs1 e1 rfl w1
    obtain ⟨bk1, m1, m2, m3⟩ := M1.keep 1 _ rfl
    simp only [List.getElem?_cons_succ, List.getElem?_cons_zero, Option.some.injEq] at m1
    subst m1
    obtain ⟨m7, m8, m9⟩ := m3 rfl
    obtain ⟨cs3', w3', z3⟩ := m9 b3 cs3 e3 rfl w3
    have w0' : w'.heap[b0]? = some (Obj.cells cs0 e0 (0, 0)) := ((M1.frame b0 (Array.getElem?_eq_some_iff.1 w0).1 (by simp [n01, n03])).1).trans w0
    have w2' : w'.heap[b2]? = some (Obj.cells cs2 e2 (0, 0)) := ((M1.frame b2 (Array.getElem?_eq_some_iff.1 w2).1 (by simp [n23]; exact fun e => n12 e.symm)).1).trans w2
    have hrl := rms.ro_len fs N rm
  · refine ⟨rfl, S.nodup, fun b hb => ⟨Nat.lt_of_lt_of_le (S.forb b hb).1 M1.size, (S.forb b hb).2⟩, fun l b blk hlb hb => ?_⟩
    match l, hlb, hb with
    | 0, hlb, hb =>
      simp only [List.getElem?_cons_zero, Option.some.injEq] at hlb hb
      subst hlb hb
      refine ⟨cs0, e0, w0', k0, fun i u hu => ?_⟩
      match i, hu with
      | 0, hu =>
        simp only [BC.get?, nth_eq, List.getElem?_cons_zero, Option.some.injEq] at hu
        subst hu
        exact ⟨_, hy0, .own 1 0 m 0 1 _ cap ⟨_, rfl, Nat.le_refl _, fun _ => ⟨b1, cs1', e1, rfl, rfl, by simp [BC.len, Cont.len, hlen_eq, hrl]; exact hmr, w1', by omega⟩⟩ hm⟩
      | i + 1, hu => simp [BC.get?, nth_eq] at hu
    | 1, hlb, hb =>
      simp only [List.getElem?_cons_succ, List.getElem?_cons_zero, Option.some.injEq] at hlb hb
      subst hlb hb
      obtain ⟨cs, t, q1, q2, q3⟩ := S1'.blk 0 b1 _ rfl m4
      rw [w1'] at q1
      simp only [Option.some.injEq, Obj.cells.injEq, and_true] at q1
      obtain ⟨rfl, rfl⟩ := q1
      refine ⟨cs1', e1, w1', q2, fun i u hu => ?_⟩
      obtain ⟨x, hx, vx⟩ := q3 i u hu
      simp only [BC.get?, Cont.get?] at hu
      split at hu
      · simp only [Option.some.injEq] at hu
        subst hu
        cases vx
        exact ⟨_, hx, .int _ _⟩
      · cases hu
    | 2, hlb, hb =>
      simp only [List.getElem?_cons_succ, List.getElem?_cons_zero, Option.some.injEq] at hlb hb
      subst hlb hb
      refine ⟨cs2, e2, w2', k2, fun i u hu => ?_⟩
      match i, hu with
      | 0, hu =>
        simp only [BC.get?, nth_eq, List.getElem?_cons_zero, Option.some.injEq] at hu
        subst hu
        exact ⟨x2, hx2, .top _⟩
      | i + 1, hu => simp [BC.get?, nth_eq] at hu
    | 3, hlb, hb =>
      simp only [List.getElem?_cons_succ, List.getElem?_cons_zero, Option.some.injEq] at hlb hb
      subst hlb hb
      have hsz : 0 < cs3'.size := by rw [z3]; exact (Array.getElem?_eq_some_iff.1 hx3).1
      refine ⟨cs3', e3, w3', by rw [z3]; exact k3, fun i u hu => ?_⟩
      match i, hu with
      | 0, hu =>
        simp only [BC.get?, nth_eq, List.getElem?_cons_zero, Option.some.injEq] at hu
        subst hu
        exact ⟨cs3'[0], Array.getElem?_eq_getElem hsz, .top _⟩
      | i + 1, hu => simp [BC.get?, nth_eq] at hu
    | l + 4, hlb, hb => simp at hlb
  · refine ⟨M1.os, M1.tape, M1.output, M1.size, fun b hb hn => ⟨(M1.frame b hb fun hm => hn (by simp only [List.mem_cons, List.not_mem_nil, or_false] at hm ⊢; rcases hm with rfl | rfl <;> simp)).1, hn⟩, fun l blk hlb => ?_⟩
    have same : ∀ {b : Nat} {cs0' cs' : Array Value} {e' : TypeId}, w.heap[b]? = some (Obj.cells cs0' e' (0, 0)) → w'.heap[b]? = some (Obj.cells cs' e' (0, 0)) → cs'.size = cs0'.size → ∀ (bb : Nat) (cs : Array Value) (e : TypeId), some b = some bb → w.heap[bb]? = some (Obj.cells cs e (0, 0)) → ∃ cs'', w'.heap[bb]? = some (Obj.cells cs'' e (0, 0)) ∧ cs''.size = cs.size := by
      intro b cs0' cs' e' q1 q2 q3 bb cs e hbb q4
      simp only [Option.some.injEq] at hbb
      subst hbb
      rw [q1] at q4
      simp only [Option.some.injEq, Obj.cells.injEq, and_true] at q4
      obtain ⟨rfl, rfl⟩ := q4
      exact ⟨cs', q2, q3⟩
    match l, hlb with
    | 0, hlb =>
      simp only [List.getElem?_cons_zero, Option.some.injEq] at hlb
      subst hlb
      exact ⟨_, rfl, Nat.le_refl _, fun _ => ⟨rfl, rfl, same w0 w0' rfl⟩⟩
    | 1, hlb =>
      simp only [List.getElem?_cons_succ, List.getElem?_cons_zero, Option.some.injEq] at hlb
      subst hlb
      exact ⟨_, rfl, Nat.le_refl _, fun _ => ⟨rfl, by simp [BC.len, Cont.len, hlen_eq, hrl], same w1 w1' z1⟩⟩
    | 2, hlb =>
      simp only [List.getElem?_cons_succ, List.getElem?_cons_zero, Option.some.injEq] at hlb
      subst hlb
      exact ⟨_, rfl, Nat.le_refl _, fun _ => ⟨rfl, rfl, same w2 w2' rfl⟩⟩
    | 3, hlb =>
      simp only [List.getElem?_cons_succ, List.getElem?_cons_zero, Option.some.injEq] at hlb
      subst hlb
      exact ⟨_, rfl, Nat.le_refl _, fun _ => ⟨rfl, rfl, same w3 w3' z3⟩⟩
    | l + 4, hlb => simp at hlb
end iRoomsP


namespace rms
def tp.sv : Nat := 9
def bg.sv (n : Nat) : List Int := List.replicate n (-1)
def ok.sp (fs : List (List Int)) : Bool := va.sp fs && rf.sp fs tp.sv (bg.sv fs.length)
def out.sv (fs : List (List Int)) : List Int := ro.sv fs tp.sv (bg.sv fs.length)
theorem bg_len (n : Nat) : (bg.sv n).length = n := List.length_replicate
theorem out_len (fs : List (List Int)) : (out.sv fs).length = fs.length := by unfold out.sv; rw [ro_len, bg_len]
theorem bg_rg (fs : List (List Int)) : rg.sp fs.length (-1) (bg.sv fs.length) = true := by
  simp only [rg.sp, bg.sv, List.length_replicate, decide_true, Bool.true_and, List.all_eq_true, iw.sp, Bool.and_eq_true, decide_eq_true_eq]
  intro x hx
  have := List.eq_of_mem_replicate hx
  omega
theorem bg_ng {fs : List (List Int)} (h : va.sp fs = true) : ng.sv (bg.sv fs.length) < tp.sv := by
  have h1 := ng_le (bg.sv fs.length)
  have h2 := (va_len h).2
  rw [bg_len] at h1
  have h3 : tp.sv = 9 := rfl
  omega
end rms
namespace sRoomsOf_t
def R : List AVal → Option (Bool × AVal × List Blk)
  | [.ro (.rows .i64 fs) m 1] => some (decide (m = fs.length ∧ m ≤ 4611686018427387904) && (short.sp 4611686018427387904 fs && rms.ok.sp fs), .tup [.own 0 0 m 0 1, .bool true], [⟨.typ (.ints .i64 (rms.out.sv fs)), 0⟩])
  | _ => none
def hd : Nat → Head := fun _ => ⟨[0, 2, 3, 4, 10, 11], some 1⟩
noncomputable def L (f n : Nat) (s : State) := loopAt Try.prog (orcW [⟨112, (l05Rooms.R rms.tp.sv)⟩] [⟨111, l05Friends.R⟩]) hd Dr.std 0 f (bodyOf Try.f49) 0 [true, true, true, false, true] (retK Try.prog [2, 3] 0 none) n s
theorem start (fs : List (List Int)) (m f : Nat) :
  runFn Try.prog (orcW [⟨112, (l05Rooms.R rms.tp.sv)⟩] [⟨111, l05Friends.R⟩]) hd Dr.std none f (bodyOf Try.f49) 22 [2, 3] [.ro (.rows .i64 fs) m 1] []
  = (bif decide (m = fs.length ∧ m ≤ (4611686018427387904 : Nat)) && short.sp (4611686018427387904 : Nat) fs && (true && true || true && true) then bif !rms.va.sp fs then some (AVal.tup [AVal.nils, AVal.bool false], []) else L f f (mkS (22 : Nat) [((0 : Nat), AVal.ro (Cont.rows IntKind.i64 fs) m (1 : Nat)), ((2 : Nat), AVal.nils), ((3 : Nat), AVal.bool false), ((4 : Nat), AVal.own (0 : Nat) (0 : Nat) (0 : Nat) (0 : Nat) (1 : Nat)), ((10 : Nat), AVal.int IntKind.i64 (↑m : Int)), ((11 : Nat), AVal.int IntKind.i64 (0 : Int))] [{ c := BC.typ (Cont.ints IntKind.i64 (List.replicate (0 : Nat) (0 : Int))), ver := (0 : Nat) }]) else none) := by kernel_rfl
theorem round (fs : List (List Int)) (rm : List Int) (m i f n : Nat) :
  L f (n + 1) (mkS 22 [(0, .ro (.rows .i64 fs) m 1), (2, .nils), (3, .bool false), (4, .own 0 0 rm.length 0 1), (10, .int .i64 m), (11, .int .i64 (i : Nat))] [⟨.typ (.ints .i64 rm), 0⟩])
  = (bif decide ((↑i : Int) < (↑m : Int)) then bif (1 : Nat) == (1 : Nat) && (1 : Nat) == (1 : Nat) && (true && (true && true) && (true && true && (decide (rm.length + (1 : Nat) ≤ (4611686018427387904 : Nat)) && decide ((rm.length + (1 : Nat)) * (8 : Nat) ≤ (140737488355328 : Nat))))) then L f n (mkS (22 : Nat) [((0 : Nat), AVal.ro (Cont.rows IntKind.i64 fs) m (1 : Nat)), ((2 : Nat), AVal.nils), ((3 : Nat), AVal.bool false), ((4 : Nat), AVal.own (0 : Nat) (0 : Nat) (rm.length + (1 : Nat)) (0 : Nat) (1 : Nat)), ((10 : Nat), AVal.int IntKind.i64 (↑m : Int)), ((11 : Nat), AVal.int IntKind.i64 (IntKind.i64.wrap ((↑i : Int) + (1 : Int))))] [{ c := BC.typ (Cont.ints IntKind.i64 (List.take rm.length rm ++ List.take (1 : Nat) (List.drop (0 : Nat) ((List.replicate (1 : Nat) (0 : Int)).set (0 : Nat) (-1 : Int))))), ver := (0 : Nat) }]) else none else bif decide (m = fs.length ∧ rm.length = m ∧ rms.ng.sv rm < rms.tp.sv) && (rms.va.sp fs && rms.rg.sp m (-1 : Int) rm) && (true && (true && true)) then bif !rms.rf.sp fs (9 : Nat) rm then some (AVal.tup [AVal.nils, AVal.bool false], [{ c := BC.typ (Cont.ints IntKind.i64 (rms.ro.sv fs (9 : Nat) rm)), ver := (0 : Nat) }]) else some (AVal.tup [AVal.own (0 : Nat) (0 : Nat) rm.length (0 : Nat) (1 : Nat), AVal.bool true], [{ c := BC.typ (Cont.ints IntKind.i64 (rms.ro.sv fs (9 : Nat) rm)), ver := (0 : Nat) }]) else none) := by kernel_rfl
theorem loop (fs : List (List Int)) (f : Nat) (h8 : fs.length ≤ 1000) : ∀ (d i n : Nat), i + d = fs.length → d < n →
    L f n (mkS 22 [(0, .ro (.rows .i64 fs) fs.length 1), (2, .nils), (3, .bool false), (4, .own 0 0 i 0 1), (10, .int .i64 fs.length), (11, .int .i64 (i : Nat))] [⟨.typ (.ints .i64 (rms.bg.sv i)), 0⟩]) = L f 1 (mkS 22 [(0, .ro (.rows .i64 fs) fs.length 1), (2, .nils), (3, .bool false), (4, .own 0 0 fs.length 0 1), (10, .int .i64 fs.length), (11, .int .i64 (fs.length : Nat))] [⟨.typ (.ints .i64 (rms.bg.sv fs.length)), 0⟩]) := by
  intro d
  induction d with
  | zero =>
    intro i n hi hn
    obtain ⟨n, rfl⟩ : ∃ k, n = k + 1 := ⟨n - 1, by omega⟩
    obtain rfl : i = fs.length := by omega
    have h := round fs (rms.bg.sv fs.length) fs.length fs.length f n
    have h' := round fs (rms.bg.sv fs.length) fs.length fs.length f 0
    rw [rms.bg_len] at h h'
    rw [h, h']
    simp -implicitDefEqProofs only [Int.lt_irrefl, and_self, decide_true, decide_false, Bool.and_self, Bool.or_self, Bool.and_true, Bool.true_and, Bool.and_false, Bool.false_and, Bool.or_true, Bool.true_or, Bool.or_false, Bool.false_or, Bool.not_true, Bool.not_false, cond_true, cond_false]
  | succ d ih =>
    intro i n hi hn
    obtain ⟨n, rfl⟩ : ∃ k, n = k + 1 := ⟨n - 1, by omega⟩
    have h5 : (i : Int) < (fs.length : Int) := by omega
    have hih := ih (i + 1) n (by omega) (by omega)
    have e : rms.bg.sv (i + 1) = rms.bg.sv i ++ [-1] := by unfold rms.bg.sv; rw [List.replicate_succ']
    have one : (List.replicate 1 (0 : Int)).set 0 (-1) = [-1] := rfl
    have k0 : i + 1 ≤ 4611686018427387904 := by omega
    have k1 : (i + 1) * 8 ≤ 140737488355328 := by omega
    have tk : List.take i (rms.bg.sv i) = rms.bg.sv i := List.take_of_length_le (by rw [rms.bg_len]; exact Nat.le_refl i)
    have h := round fs (rms.bg.sv i) fs.length i f n
    rw [rms.bg_len] at h
    rw [e] at hih
    rw [← hih, h]
    simp -implicitDefEqProofs only [h5, tk, k0, k1, one, List.drop_zero, List.take_succ_cons, List.take_zero, Nat.reduceBEq, wrap_nat i (by omega), and_self, decide_true, decide_false, Bool.and_self, Bool.or_self, Bool.and_true, Bool.true_and, Bool.and_false, Bool.false_and, Bool.or_true, Bool.true_or, Bool.or_false, Bool.false_or, Bool.not_true, Bool.not_false, cond_true, cond_false]
theorem run : ∀ args v new, R args = some (true, v, new) → ∃ fuel, regc [0] (runFn Try.prog (orcW [⟨112, (l05Rooms.R rms.tp.sv)⟩] [⟨111, l05Friends.R⟩]) hd Dr.std none fuel (bodyOf Try.f49) 22 [2, 3] args []) = some (v, new) := by
  intro args v new h
  unfold R at h
  split at h
  · rename_i fs m
    simp only [Option.some.injEq, Prod.mk.injEq, Bool.and_eq_true, decide_eq_true_eq, Bool.not_eq_true'] at h
    obtain ⟨⟨⟨rfl, h1⟩, hs, ho⟩, rfl, rfl⟩ := h
    simp only [rms.ok.sp, Bool.and_eq_true] at ho
    obtain ⟨hv, hf⟩ := ho
    obtain ⟨hn2, hn8⟩ := rms.va_len hv
    have e9 : rms.tp.sv = 9 := rfl
    have hng := rms.bg_ng hv
    rw [e9] at hng hf
    have hrg := rms.bg_rg fs
    obtain ⟨F, hF⟩ : ∃ F : Nat, F = fs.length + 5 := ⟨_, rfl⟩
    refine ⟨F, ?_⟩
    have hl := loop fs F (by omega) fs.length 0 F (by omega) (by omega)
    have h := round fs (rms.bg.sv fs.length) fs.length fs.length F 0
    rw [rms.bg_len] at h
    have e0 : (0 : Nat) + 1 = 1 := rfl
    rw [e0] at h
    rw [start]
    simp -implicitDefEqProofs only [h1, hs, hv, and_self, and_self, decide_true, decide_false, Bool.and_self, Bool.or_self, Bool.and_true, Bool.true_and, Bool.and_false, Bool.false_and, Bool.or_true, Bool.true_or, Bool.or_false, Bool.false_or, Bool.not_true, Bool.not_false, cond_true, cond_false]
    refine Eq.trans (congrArg (regc [0]) hl) ?_
    rw [h]
    simp -implicitDefEqProofs only [Int.lt_irrefl, e9, hv, hng, hrg, hf, rms.out.sv, and_self, eq_self, true_and, and_self, decide_true, decide_false, Bool.and_self, Bool.or_self, Bool.and_true, Bool.true_and, Bool.and_false, Bool.false_and, Bool.or_true, Bool.true_or, Bool.or_false, Bool.false_or, Bool.not_true, Bool.not_false, cond_true, cond_false]
    try rfl

  · cases h
theorem ok : EntOk Try.prog ⟨49, R⟩ :=
  ent_okAG (ks := [0]) mixed (A := (orcW [⟨112, (l05Rooms.R rms.tp.sv)⟩] [⟨111, l05Friends.R⟩])) (orcW_ok (by simp only [List.mem_cons, List.not_mem_nil, or_false, forall_eq_or_imp, forall_eq]; exact l05Rooms.ok rms.tp.sv) (by simp only [List.mem_cons, List.not_mem_nil, or_false, forall_eq_or_imp, forall_eq]; exact l05Friends.ok)) Try.func49 (by kernel_rfl) (by kernel_rfl) (n := 22) (ts := [2, 3]) (hd := hd) (dr := Dr.std) (cut := none) (by kernel_rfl) (by kernel_rfl) (by kernel_rfl) run
end sRoomsOf_t

namespace sRoomsOf_f
def R : List AVal → Option (Bool × AVal × List Blk)
  | [.ro (.rows .i64 fs) m 1] => some (decide (m = fs.length ∧ m ≤ 4611686018427387904) && (short.sp 4611686018427387904 fs && !rms.ok.sp fs), .tup [.nils, .bool false], [])
  | _ => none
def hd : Nat → Head := fun _ => ⟨[0, 2, 3, 4, 10, 11], some 1⟩
noncomputable def L (f n : Nat) (s : State) := loopAt Try.prog (orcW [⟨112, (l05Rooms.R rms.tp.sv)⟩] [⟨111, l05Friends.R⟩]) hd Dr.std 0 f (bodyOf Try.f49) 0 [true, true, true, false, true] (retK Try.prog [2, 3] 0 (some 0)) n s
theorem start (fs : List (List Int)) (m f : Nat) :
  runFn Try.prog (orcW [⟨112, (l05Rooms.R rms.tp.sv)⟩] [⟨111, l05Friends.R⟩]) hd Dr.std (some 0) f (bodyOf Try.f49) 22 [2, 3] [.ro (.rows .i64 fs) m 1] []
  = (bif decide (m = fs.length ∧ m ≤ (4611686018427387904 : Nat)) && short.sp (4611686018427387904 : Nat) fs && (true && true || true && true) then bif !rms.va.sp fs then some (AVal.tup [AVal.nils, AVal.bool false], []) else L f f (mkS (22 : Nat) [((0 : Nat), AVal.ro (Cont.rows IntKind.i64 fs) m (1 : Nat)), ((2 : Nat), AVal.nils), ((3 : Nat), AVal.bool false), ((4 : Nat), AVal.own (0 : Nat) (0 : Nat) (0 : Nat) (0 : Nat) (1 : Nat)), ((10 : Nat), AVal.int IntKind.i64 (↑m : Int)), ((11 : Nat), AVal.int IntKind.i64 (0 : Int))] [{ c := BC.typ (Cont.ints IntKind.i64 (List.replicate (0 : Nat) (0 : Int))), ver := (0 : Nat) }]) else none) := by kernel_rfl
theorem round (fs : List (List Int)) (rm : List Int) (m i f n : Nat) :
  L f (n + 1) (mkS 22 [(0, .ro (.rows .i64 fs) m 1), (2, .nils), (3, .bool false), (4, .own 0 0 rm.length 0 1), (10, .int .i64 m), (11, .int .i64 (i : Nat))] [⟨.typ (.ints .i64 rm), 0⟩])
  = (bif decide ((↑i : Int) < (↑m : Int)) then bif (1 : Nat) == (1 : Nat) && (1 : Nat) == (1 : Nat) && (true && (true && true) && (true && true && (decide (rm.length + (1 : Nat) ≤ (4611686018427387904 : Nat)) && decide ((rm.length + (1 : Nat)) * (8 : Nat) ≤ (140737488355328 : Nat))))) then L f n (mkS (22 : Nat) [((0 : Nat), AVal.ro (Cont.rows IntKind.i64 fs) m (1 : Nat)), ((2 : Nat), AVal.nils), ((3 : Nat), AVal.bool false), ((4 : Nat), AVal.own (0 : Nat) (0 : Nat) (rm.length + (1 : Nat)) (0 : Nat) (1 : Nat)), ((10 : Nat), AVal.int IntKind.i64 (↑m : Int)), ((11 : Nat), AVal.int IntKind.i64 (IntKind.i64.wrap ((↑i : Int) + (1 : Int))))] [{ c := BC.typ (Cont.ints IntKind.i64 (List.take rm.length rm ++ List.take (1 : Nat) (List.drop (0 : Nat) ((List.replicate (1 : Nat) (0 : Int)).set (0 : Nat) (-1 : Int))))), ver := (0 : Nat) }]) else none else bif decide (m = fs.length ∧ rm.length = m ∧ rms.ng.sv rm < rms.tp.sv) && (rms.va.sp fs && rms.rg.sp m (-1 : Int) rm) && (true && (true && true)) then bif !rms.rf.sp fs (9 : Nat) rm then some (AVal.tup [AVal.nils, AVal.bool false], []) else some (AVal.tup [AVal.ro (Cont.ints IntKind.i64 (rms.ro.sv fs (9 : Nat) rm)) rm.length (1 : Nat), AVal.bool true], []) else none) := by kernel_rfl
theorem loop (fs : List (List Int)) (f : Nat) (h8 : fs.length ≤ 1000) : ∀ (d i n : Nat), i + d = fs.length → d < n →
    L f n (mkS 22 [(0, .ro (.rows .i64 fs) fs.length 1), (2, .nils), (3, .bool false), (4, .own 0 0 i 0 1), (10, .int .i64 fs.length), (11, .int .i64 (i : Nat))] [⟨.typ (.ints .i64 (rms.bg.sv i)), 0⟩]) = L f 1 (mkS 22 [(0, .ro (.rows .i64 fs) fs.length 1), (2, .nils), (3, .bool false), (4, .own 0 0 fs.length 0 1), (10, .int .i64 fs.length), (11, .int .i64 (fs.length : Nat))] [⟨.typ (.ints .i64 (rms.bg.sv fs.length)), 0⟩]) := by
  intro d
  induction d with
  | zero =>
    intro i n hi hn
    obtain ⟨n, rfl⟩ : ∃ k, n = k + 1 := ⟨n - 1, by omega⟩
    obtain rfl : i = fs.length := by omega
    have h := round fs (rms.bg.sv fs.length) fs.length fs.length f n
    have h' := round fs (rms.bg.sv fs.length) fs.length fs.length f 0
    rw [rms.bg_len] at h h'
    rw [h, h']
    simp -implicitDefEqProofs only [Int.lt_irrefl, and_self, decide_true, decide_false, Bool.and_self, Bool.or_self, Bool.and_true, Bool.true_and, Bool.and_false, Bool.false_and, Bool.or_true, Bool.true_or, Bool.or_false, Bool.false_or, Bool.not_true, Bool.not_false, cond_true, cond_false]
  | succ d ih =>
    intro i n hi hn
    obtain ⟨n, rfl⟩ : ∃ k, n = k + 1 := ⟨n - 1, by omega⟩
    have h5 : (i : Int) < (fs.length : Int) := by omega
    have hih := ih (i + 1) n (by omega) (by omega)
    have e : rms.bg.sv (i + 1) = rms.bg.sv i ++ [-1] := by unfold rms.bg.sv; rw [List.replicate_succ']
    have one : (List.replicate 1 (0 : Int)).set 0 (-1) = [-1] := rfl
    have k0 : i + 1 ≤ 4611686018427387904 := by omega
    have k1 : (i + 1) * 8 ≤ 140737488355328 := by omega
    have tk : List.take i (rms.bg.sv i) = rms.bg.sv i := List.take_of_length_le (by rw [rms.bg_len]; exact Nat.le_refl i)
    have h := round fs (rms.bg.sv i) fs.length i f n
    rw [rms.bg_len] at h
    rw [e] at hih
    rw [← hih, h]
    simp -implicitDefEqProofs only [h5, tk, k0, k1, one, List.drop_zero, List.take_succ_cons, List.take_zero, Nat.reduceBEq, wrap_nat i (by omega), and_self, decide_true, decide_false, Bool.and_self, Bool.or_self, Bool.and_true, Bool.true_and, Bool.and_false, Bool.false_and, Bool.or_true, Bool.true_or, Bool.or_false, Bool.false_or, Bool.not_true, Bool.not_false, cond_true, cond_false]
theorem run : ∀ args v new, R args = some (true, v, new) → ∃ fuel, runFn Try.prog (orcW [⟨112, (l05Rooms.R rms.tp.sv)⟩] [⟨111, l05Friends.R⟩]) hd Dr.std (some 0) fuel (bodyOf Try.f49) 22 [2, 3] args [] = some (v, new) := by
  intro args v new h
  unfold R at h
  split at h
  · rename_i fs m
    simp only [Option.some.injEq, Prod.mk.injEq, Bool.and_eq_true, decide_eq_true_eq, Bool.not_eq_true'] at h
    obtain ⟨⟨⟨rfl, h1⟩, hs, ho⟩, rfl, rfl⟩ := h
    obtain ⟨F, hF⟩ : ∃ F : Nat, F = fs.length + 5 := ⟨_, rfl⟩
    refine ⟨F, ?_⟩
    rw [start]
    rcases Bool.eq_false_or_eq_true (rms.va.sp fs) with hv | hv
    · obtain ⟨hn2, hn8⟩ := rms.va_len hv
      have e9 : rms.tp.sv = 9 := rfl
      have hng := rms.bg_ng hv
      rw [e9] at hng
      have hrg := rms.bg_rg fs
      have hf : rms.rf.sp fs 9 (rms.bg.sv fs.length) = false := by simpa only [rms.ok.sp, hv, Bool.true_and, e9] using ho
      have hl := loop fs F (by omega) fs.length 0 F (by omega) (by omega)
      have h := round fs (rms.bg.sv fs.length) fs.length fs.length F 0
      rw [rms.bg_len] at h
      have e0 : (0 : Nat) + 1 = 1 := rfl
      rw [e0] at h
      simp -implicitDefEqProofs only [h1, hs, hv, and_self, and_self, decide_true, decide_false, Bool.and_self, Bool.or_self, Bool.and_true, Bool.true_and, Bool.and_false, Bool.false_and, Bool.or_true, Bool.true_or, Bool.or_false, Bool.false_or, Bool.not_true, Bool.not_false, cond_true, cond_false]
      refine Eq.trans hl ?_
      rw [h]
      simp -implicitDefEqProofs only [Int.lt_irrefl, e9, hv, hng, hrg, hf, and_self, eq_self, true_and, and_self, decide_true, decide_false, Bool.and_self, Bool.or_self, Bool.and_true, Bool.true_and, Bool.and_false, Bool.false_and, Bool.or_true, Bool.true_or, Bool.or_false, Bool.false_or, Bool.not_true, Bool.not_false, cond_true, cond_false]
      try rfl
    · simp -implicitDefEqProofs only [h1, hs, hv, and_self, and_self, decide_true, decide_false, Bool.and_self, Bool.or_self, Bool.and_true, Bool.true_and, Bool.and_false, Bool.false_and, Bool.or_true, Bool.true_or, Bool.or_false, Bool.false_or, Bool.not_true, Bool.not_false, cond_true, cond_false]
      try rfl

  · cases h
theorem ok : EntOk Try.prog ⟨49, R⟩ :=
  ent_okA mixed (A := (orcW [⟨112, (l05Rooms.R rms.tp.sv)⟩] [⟨111, l05Friends.R⟩])) (orcW_ok (by simp only [List.mem_cons, List.not_mem_nil, or_false, forall_eq_or_imp, forall_eq]; exact l05Rooms.ok rms.tp.sv) (by simp only [List.mem_cons, List.not_mem_nil, or_false, forall_eq_or_imp, forall_eq]; exact l05Friends.ok)) Try.func49 (by kernel_rfl) (by kernel_rfl) (n := 22) (ts := [2, 3]) (hd := hd) (dr := Dr.std) (cut := (some 0)) (by kernel_rfl) (by kernel_rfl) (by kernel_rfl) run
end sRoomsOf_f

namespace sRoomsOf
def Rt := sRoomsOf_t.R
def Rf := sRoomsOf_f.R
theorem okt : EntOk Try.prog ⟨49, Rt⟩ := sRoomsOf_t.ok
theorem okf : EntOk Try.prog ⟨49, Rf⟩ := sRoomsOf_f.ok
end sRoomsOf

namespace iRoomsOf_t
def R : List AVal → Option (Bool × AVal × List Blk)
  | [.ro (.rows .i64 fs) m 1] => some (decide (m = fs.length ∧ m ≤ 4611686018427387904) && (short.sp 4611686018427387904 fs && rms.ok.sp fs), .tup [.own 0 0 m 0 1, .bool true], [⟨.typ (.ints .i64 (rms.out.sv fs)), 0⟩])
  | _ => none
theorem go (fs : List (List Int)) (m : Nat) :
  regc [1] (runFn Try.prog (orcW [⟨108, (iRoomsP.R rms.tp.sv)⟩] [⟨107, areFriends.R⟩, ⟨95, iNone.R⟩]) hd0 Dr.std none 0 (bodyOf Try.f48) 17 [2, 3] [.ro (.rows .i64 fs) m 1] [])
  = (match bif true && true then bif decide (m = fs.length ∧ m ≤ (4611686018427387904 : Nat)) && short.sp (4611686018427387904 : Nat) fs && (true && true || true && true) then bif !rms.va.sp fs then some (AVal.tup [AVal.nils, AVal.bool false], [{ c := BC.cells [AVal.ro (Cont.rows IntKind.i64 fs) m (1 : Nat)], ver := (0 : Nat) }]) else bif true && true then bif decide ((1 : Int) ≤ (↑m : Int) ∧ (↑m : Int) ≤ (8 : Int)) && (true && true || true && (true && true)) then bif true && (true && (true && decide ((0 : Nat) < (1 : Nat)) && true)) then bif true && (true && (true && decide ((0 : Nat) < (1 : Nat)) && true)) then bif true && true then bif decide (m = fs.length ∧ (↑m : Int).toNat = m ∧ rms.ng.sv (List.replicate (↑m : Int).toNat (-1 : Int)) < rms.tp.sv ∧ (108 : Nat) = (108 : FuncId)) && (rms.va.sp fs && rms.rg.sp m (-1 : Int) (List.replicate (↑m : Int).toNat (-1 : Int))) && (true && (true && (true && (true && true))) && (true && (true && (true && (true && true))))) then bif !rms.rf.sp fs (9 : Nat) (List.replicate (↑m : Int).toNat (-1 : Int)) then some (AVal.tup [AVal.nils, AVal.bool false], [{ c := BC.cells [AVal.top], ver := (0 : Nat) }, { c := BC.typ (Cont.ints IntKind.i64 (rms.ro.sv fs (9 : Nat) (List.replicate (↑m : Int).toNat (-1 : Int)))), ver := (0 : Nat) }, { c := BC.cells [AVal.own (1 : Nat) (0 : Nat) (↑m : Int).toNat (0 : Nat) (1 : Nat)], ver := (0 : Nat) }, { c := BC.cells [AVal.top], ver := (0 : Nat) }]) else bif true && true then some (AVal.tup [AVal.own (1 : Nat) (0 : Nat) (↑m : Int).toNat (0 : Nat) (1 : Nat), AVal.bool true], [{ c := BC.cells [AVal.top], ver := (0 : Nat) }, { c := BC.typ (Cont.ints IntKind.i64 (rms.ro.sv fs (9 : Nat) (List.replicate (↑m : Int).toNat (-1 : Int)))), ver := (0 : Nat) }, { c := BC.cells [AVal.own (1 : Nat) (0 : Nat) (↑m : Int).toNat (0 : Nat) (1 : Nat)], ver := (0 : Nat) }, { c := BC.cells [AVal.top], ver := (0 : Nat) }]) else none else none else none else none else none else none else none else none else none with
| some (v, h) =>
  bif true && (ltN (1 : Nat) (hlen h) && true) then
    some
      (AVal.re [(1 : Nat)] h v,
        match nth h (1 : Nat) with
        | some b => { c := BC.re [(1 : Nat)] h b.c, ver := b.ver } :: reB [(1 : Nat)] h []
        | none => { c := BC.cells [], ver := (0 : Nat) } :: reB [(1 : Nat)] h [])
  else none
| none => none) := by kernel_rfl
theorem run : ∀ args v new, R args = some (true, v, new) → ∃ fuel, regc [1] (runFn Try.prog (orcW [⟨108, (iRoomsP.R rms.tp.sv)⟩] [⟨107, areFriends.R⟩, ⟨95, iNone.R⟩]) hd0 Dr.std none fuel (bodyOf Try.f48) 17 [2, 3] args []) = some (v, new) := by
  intro args v new h
  unfold R at h
  split at h
  · rename_i fs m
    simp only [Option.some.injEq, Prod.mk.injEq, Bool.and_eq_true, decide_eq_true_eq, Bool.not_eq_true'] at h
    obtain ⟨⟨⟨rfl, h1⟩, hs, ho⟩, rfl, rfl⟩ := h
    simp only [rms.ok.sp, Bool.and_eq_true] at ho
    obtain ⟨hv, hf⟩ := ho
    obtain ⟨hn2, hn8⟩ := rms.va_len hv
    have e9 : rms.tp.sv = 9 := rfl
    have hng := rms.bg_ng hv
    rw [e9] at hng hf
    have hrg := rms.bg_rg fs
    have eb : List.replicate fs.length (-1 : Int) = rms.bg.sv fs.length := rfl
    have a1 : (1 : Int) ≤ (fs.length : Int) := by omega
    have a2 : (fs.length : Int) ≤ 8 := by omega
    have a3 : (0 : Nat) < 1 := by omega
    refine ⟨0, ?_⟩
    rw [go]
    simp -implicitDefEqProofs only [h1, hs, e9, hv, a1, a2, a3, eb, hng, hrg, hf, rms.out.sv, Int.toNat_natCast, and_self, eq_self, true_and, and_true, and_self, decide_true, decide_false, Bool.and_self, Bool.or_self, Bool.and_true, Bool.true_and, Bool.and_false, Bool.false_and, Bool.or_true, Bool.true_or, Bool.or_false, Bool.false_or, Bool.not_true, Bool.not_false, cond_true, cond_false]
    try rfl

  · cases h
theorem ok : EntOk Try.prog ⟨48, R⟩ :=
  ent_okAG (ks := [1]) mixed (A := (orcW [⟨108, (iRoomsP.R rms.tp.sv)⟩] [⟨107, areFriends.R⟩, ⟨95, iNone.R⟩])) (orcW_ok (by simp only [List.mem_cons, List.not_mem_nil, or_false, forall_eq_or_imp, forall_eq]; exact iRoomsP.ok rms.tp.sv) (by simp only [List.mem_cons, List.not_mem_nil, or_false, forall_eq_or_imp, forall_eq]; exact ⟨areFriends.ok, iNone.ok⟩)) Try.func48 (by kernel_rfl) (by kernel_rfl) (n := 17) (ts := [2, 3]) (hd := hd0) (dr := Dr.std) (cut := none) (by kernel_rfl) (by kernel_rfl) (by kernel_rfl) run
end iRoomsOf_t

namespace iRoomsOf_f
def R : List AVal → Option (Bool × AVal × List Blk)
  | [.ro (.rows .i64 fs) m 1] => some (decide (m = fs.length ∧ m ≤ 4611686018427387904) && (short.sp 4611686018427387904 fs && !rms.ok.sp fs), .tup [.nils, .bool false], [])
  | _ => none
theorem go (fs : List (List Int)) (m : Nat) :
  runFn Try.prog (orcW [⟨108, (iRoomsP.R rms.tp.sv)⟩] [⟨107, areFriends.R⟩, ⟨95, iNone.R⟩]) hd0 Dr.std (some 0) 0 (bodyOf Try.f48) 17 [2, 3] [.ro (.rows .i64 fs) m 1] []
  = (bif true && true then bif decide (m = fs.length ∧ m ≤ (4611686018427387904 : Nat)) && short.sp (4611686018427387904 : Nat) fs && (true && true || true && true) then bif !rms.va.sp fs then some (AVal.tup [AVal.nils, AVal.bool false], []) else bif true && true then bif decide ((1 : Int) ≤ (↑m : Int) ∧ (↑m : Int) ≤ (8 : Int)) && (true && true || true && (true && true)) then bif true && true then bif decide (m = fs.length ∧ (↑m : Int).toNat = m ∧ rms.ng.sv (List.replicate (↑m : Int).toNat (-1 : Int)) < rms.tp.sv ∧ (108 : Nat) = (108 : FuncId)) && (rms.va.sp fs && rms.rg.sp m (-1 : Int) (List.replicate (↑m : Int).toNat (-1 : Int))) && (true && (true && (true && (true && true))) && (true && (true && (true && (true && true))))) then bif !rms.rf.sp fs (9 : Nat) (List.replicate (↑m : Int).toNat (-1 : Int)) then some (AVal.tup [AVal.nils, AVal.bool false], []) else bif true && true then some (AVal.tup [AVal.ro (Cont.ints IntKind.i64 (rms.ro.sv fs (9 : Nat) (List.replicate (↑m : Int).toNat (-1 : Int)))) (↑m : Int).toNat (1 : Nat), AVal.bool true], []) else none else none else none else none else none else none else none) := by kernel_rfl
theorem run : ∀ args v new, R args = some (true, v, new) → ∃ fuel, runFn Try.prog (orcW [⟨108, (iRoomsP.R rms.tp.sv)⟩] [⟨107, areFriends.R⟩, ⟨95, iNone.R⟩]) hd0 Dr.std (some 0) fuel (bodyOf Try.f48) 17 [2, 3] args [] = some (v, new) := by
  intro args v new h
  unfold R at h
  split at h
  · rename_i fs m
    simp only [Option.some.injEq, Prod.mk.injEq, Bool.and_eq_true, decide_eq_true_eq, Bool.not_eq_true'] at h
    obtain ⟨⟨⟨rfl, h1⟩, hs, ho⟩, rfl, rfl⟩ := h
    refine ⟨0, ?_⟩
    rw [go]
    rcases Bool.eq_false_or_eq_true (rms.va.sp fs) with hv | hv
    · obtain ⟨hn2, hn8⟩ := rms.va_len hv
      have e9 : rms.tp.sv = 9 := rfl
      have hng := rms.bg_ng hv
      rw [e9] at hng
      have hrg := rms.bg_rg fs
      have hf : rms.rf.sp fs 9 (rms.bg.sv fs.length) = false := by simpa only [rms.ok.sp, hv, Bool.true_and, e9] using ho
      have eb : List.replicate fs.length (-1 : Int) = rms.bg.sv fs.length := rfl
      have a1 : (1 : Int) ≤ (fs.length : Int) := by omega
      have a2 : (fs.length : Int) ≤ 8 := by omega
      have a3 : (0 : Nat) < 1 := by omega
      simp -implicitDefEqProofs only [h1, hs, e9, hv, a1, a2, a3, eb, hng, hrg, hf, Int.toNat_natCast, and_self, eq_self, true_and, and_true, and_self, decide_true, decide_false, Bool.and_self, Bool.or_self, Bool.and_true, Bool.true_and, Bool.and_false, Bool.false_and, Bool.or_true, Bool.true_or, Bool.or_false, Bool.false_or, Bool.not_true, Bool.not_false, cond_true, cond_false]
      try rfl
    · simp -implicitDefEqProofs only [h1, hs, hv, and_self, and_self, decide_true, decide_false, Bool.and_self, Bool.or_self, Bool.and_true, Bool.true_and, Bool.and_false, Bool.false_and, Bool.or_true, Bool.true_or, Bool.or_false, Bool.false_or, Bool.not_true, Bool.not_false, cond_true, cond_false]
      try rfl

  · cases h
theorem ok : EntOk Try.prog ⟨48, R⟩ :=
  ent_okA mixed (A := (orcW [⟨108, (iRoomsP.R rms.tp.sv)⟩] [⟨107, areFriends.R⟩, ⟨95, iNone.R⟩])) (orcW_ok (by simp only [List.mem_cons, List.not_mem_nil, or_false, forall_eq_or_imp, forall_eq]; exact iRoomsP.ok rms.tp.sv) (by simp only [List.mem_cons, List.not_mem_nil, or_false, forall_eq_or_imp, forall_eq]; exact ⟨areFriends.ok, iNone.ok⟩)) Try.func48 (by kernel_rfl) (by kernel_rfl) (n := 17) (ts := [2, 3]) (hd := hd0) (dr := Dr.std) (cut := (some 0)) (by kernel_rfl) (by kernel_rfl) (by kernel_rfl) run
end iRoomsOf_f

namespace iRoomsOf
def Rt := iRoomsOf_t.R
def Rf := iRoomsOf_f.R
theorem okt : EntOk Try.prog ⟨48, Rt⟩ := iRoomsOf_t.ok
theorem okf : EntOk Try.prog ⟨48, Rf⟩ := iRoomsOf_f.ok
end iRoomsOf

end Go.Proofs.Ytkoongajnnaeoaa.Ab
