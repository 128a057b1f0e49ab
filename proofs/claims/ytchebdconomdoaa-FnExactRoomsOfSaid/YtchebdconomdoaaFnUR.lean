/-
  Rooms of friends: both sides.
-/
import Derived.Test.YtchebdconomdoaaFnUQ
namespace Go.Proofs.Ytchebdconomdoaa.Ab
open Go
set_option linter.unusedVariables false
set_option linter.unusedSimpArgs false
set_option maxRecDepth 100000

set_option maxRecDepth 100000
namespace rms
def tp.sv : Nat := 9
def bg.sv (n : Nat) : List Int := List.replicate n (-1)
def ok.sp (fs : List (List Int)) : Bool := va.sp fs && rf.sp fs tp.sv (bg.sv fs.length)
def out.sv (fs : List (List Int)) : List Int := ro.sv fs tp.sv (bg.sv fs.length)
theorem bg_len (n : Nat) : (bg.sv n).length = n := List.length_replicate
theorem out_len (fs : List (List Int)) : (out.sv fs).length = fs.length := by unfold out.sv; rw [ro_len, bg_len]
theorem bg_rg (fs : List (List Int)) : rg.sp fs.length (-1) (bg.sv fs.length) = true := by
  simp only [rg.sp, bg.sv, List.length_replicate, decide_true, Bool.true_and, List.all_eq_true, iw.sp, Bool.and_eq_true, decide_eq_true_eq]
  intro x hx
  have := List.eq_of_mem_replicate hx
  omega
theorem bg_ng {fs : List (List Int)} (h : va.sp fs = true) : ng.sv (bg.sv fs.length) < tp.sv := by
  have h1 := ng_le (bg.sv fs.length)
  have h2 := (va_len h).2
  rw [bg_len] at h1
  have h3 : tp.sv = 9 := rfl
  omega
end rms
namespace sRoomsOf_t
def R : List AVal → Option (Bool × AVal × List Blk)
  | [.ro (.rows .i64 fs) m 1] => some (decide (m = fs.length ∧ m ≤ 4611686018427387904) && (short.sp 4611686018427387904 fs && rms.ok.sp fs), .tup [.own 0 0 m 0 1, .bool true], [⟨.typ (.ints .i64 (rms.out.sv fs)), 0⟩])
  | _ => none
def hd : Nat → Head := fun _ => ⟨[0, 2, 3, 4, 10, 11], some 1⟩
noncomputable def L (f n : Nat) (s : State) := loopAt Try.prog (orcW [⟨55, (l05Rooms.R rms.tp.sv)⟩] [⟨54, l05Friends.R⟩]) hd Dr.std 0 f (bodyOf Try.f11) 0 [true, true, true, false, true] (retK Try.prog [2, 3] 0 none) n s
theorem start (fs : List (List Int)) (m f : Nat) :
  runFn Try.prog (orcW [⟨55, (l05Rooms.R rms.tp.sv)⟩] [⟨54, l05Friends.R⟩]) hd Dr.std none f (bodyOf Try.f11) 22 [2, 3] [.ro (.rows .i64 fs) m 1] []
  = (bif decide (m = fs.length ∧ m ≤ (4611686018427387904 : Nat)) && short.sp (4611686018427387904 : Nat) fs && (true && true || true && true) then bif !rms.va.sp fs then some (AVal.tup [AVal.nils, AVal.bool false], []) else L f f (mkS (22 : Nat) [((0 : Nat), AVal.ro (Cont.rows IntKind.i64 fs) m (1 : Nat)), ((2 : Nat), AVal.nils), ((3 : Nat), AVal.bool false), ((4 : Nat), AVal.own (0 : Nat) (0 : Nat) (0 : Nat) (0 : Nat) (1 : Nat)), ((10 : Nat), AVal.int IntKind.i64 (↑m : Int)), ((11 : Nat), AVal.int IntKind.i64 (0 : Int))] [{ c := BC.typ (Cont.ints IntKind.i64 (List.replicate (0 : Nat) (0 : Int))), ver := (0 : Nat) }]) else none) := by kernel_rfl
theorem round (fs : List (List Int)) (rm : List Int) (m i f n : Nat) :
  L f (n + 1) (mkS 22 [(0, .ro (.rows .i64 fs) m 1), (2, .nils), (3, .bool false), (4, .own 0 0 rm.length 0 1), (10, .int .i64 m), (11, .int .i64 (i : Nat))] [⟨.typ (.ints .i64 rm), 0⟩])
  = (bif decide ((↑i : Int) < (↑m : Int)) then bif (1 : Nat) == (1 : Nat) && (1 : Nat) == (1 : Nat) && (true && (true && true) && (true && true && (decide (rm.length + (1 : Nat) ≤ (4611686018427387904 : Nat)) && decide ((rm.length + (1 : Nat)) * (8 : Nat) ≤ (140737488355328 : Nat))))) then L f n (mkS (22 : Nat) [((0 : Nat), AVal.ro (Cont.rows IntKind.i64 fs) m (1 : Nat)), ((2 : Nat), AVal.nils), ((3 : Nat), AVal.bool false), ((4 : Nat), AVal.own (0 : Nat) (0 : Nat) (rm.length + (1 : Nat)) (0 : Nat) (1 : Nat)), ((10 : Nat), AVal.int IntKind.i64 (↑m : Int)), ((11 : Nat), AVal.int IntKind.i64 (IntKind.i64.wrap ((↑i : Int) + (1 : Int))))] [{ c := BC.typ (Cont.ints IntKind.i64 (List.take rm.length rm ++ List.take (1 : Nat) (List.drop (0 : Nat) ((List.replicate (1 : Nat) (0 : Int)).set (0 : Nat) (-1 : Int))))), ver := (0 : Nat) }]) else none else bif decide (m = fs.length ∧ rm.length = m ∧ rms.ng.sv rm < rms.tp.sv) && (rms.va.sp fs && rms.rg.sp m (-1 : Int) rm) && (true && (true && true)) then bif !rms.rf.sp fs (9 : Nat) rm then some (AVal.tup [AVal.nils, AVal.bool false], [{ c := BC.typ (Cont.ints IntKind.i64 (rms.ro.sv fs (9 : Nat) rm)), ver := (0 : Nat) }]) else some (AVal.tup [AVal.own (0 : Nat) (0 : Nat) rm.length (0 : Nat) (1 : Nat), AVal.bool true], [{ c := BC.typ (Cont.ints IntKind.i64 (rms.ro.sv fs (9 : Nat) rm)), ver := (0 : Nat) }]) else none) := by kernel_rfl
theorem loop (fs : List (List Int)) (f : Nat) (h8 : fs.length ≤ 1000) : ∀ (d i n : Nat), i + d = fs.length → d < n →
    L f n (mkS 22 [(0, .ro (.rows .i64 fs) fs.length 1), (2, .nils), (3, .bool false), (4, .own 0 0 i 0 1), (10, .int .i64 fs.length), (11, .int .i64 (i : Nat))] [⟨.typ (.ints .i64 (rms.bg.sv i)), 0⟩]) = L f 1 (mkS 22 [(0, .ro (.rows .i64 fs) fs.length 1), (2, .nils), (3, .bool false), (4, .own 0 0 fs.length 0 1), (10, .int .i64 fs.length), (11, .int .i64 (fs.length : Nat))] [⟨.typ (.ints .i64 (rms.bg.sv fs.length)), 0⟩]) := by
  intro d
  induction d with
  | zero =>
    intro i n hi hn
    obtain ⟨n, rfl⟩ : ∃ k, n = k + 1 := ⟨n - 1, by omega⟩
    obtain rfl : i = fs.length := by omega
    have h := round fs (rms.bg.sv fs.length) fs.length fs.length f n
    have h' := round fs (rms.bg.sv fs.length) fs.length fs.length f 0
    rw [rms.bg_len] at h h'
    rw [h, h']
    simp -implicitDefEqProofs only [Int.lt_irrefl, and_self, decide_true, decide_false, Bool.and_self, Bool.or_self, Bool.and_true, Bool.true_and, Bool.and_false, Bool.false_and, Bool.or_true, Bool.true_or, Bool.or_false, Bool.false_or, Bool.not_true, Bool.not_false, cond_true, cond_false]
  | succ d ih =>
    intro i n hi hn
    obtain ⟨n, rfl⟩ : ∃ k, n = k + 1 := ⟨n - 1, by omega⟩
    have h5 : (i : Int) < (fs.length : Int) := by omega
    have hih := ih (i + 1) n (by omega) (by omega)
    have e : rms.bg.sv (i + 1) = rms.bg.sv i ++ [-1] := by unfold rms.bg.sv; rw [List.replicate_succ']
    have one : (List.replicate 1 (0 : Int)).set 0 (-1) = [-1] := rfl
    have k0 : i + 1 ≤ 4611686018427387904 := by omega
    have k1 : (i + 1) * 8 ≤ 140737488355328 := by omega
    have tk : List.take i (rms.bg.sv i) = rms.bg.sv i := List.take_of_length_le (by rw [rms.bg_len]; exact Nat.le_refl i)
    have h := round fs (rms.bg.sv i) fs.length i f n
    rw [rms.bg_len] at h
    rw [e] at hih
    rw [← hih, h]
    simp -implicitDefEqProofs only [h5, tk, k0, k1, one, List.drop_zero, List.take_succ_cons, List.take_zero, Nat.reduceBEq, wrap_nat i (by omega), and_self, decide_true, decide_false, Bool.and_self, Bool.or_self, Bool.and_true, Bool.true_and, Bool.and_false, Bool.false_and, Bool.or_true, Bool.true_or, Bool.or_false, Bool.false_or, Bool.not_true, Bool.not_false, cond_true, cond_false]
theorem run : ∀ args v new, R args = some (true, v, new) → ∃ fuel, regc [0] (runFn Try.prog (orcW [⟨55, (l05Rooms.R rms.tp.sv)⟩] [⟨54, l05Friends.R⟩]) hd Dr.std none fuel (bodyOf Try.f11) 22 [2, 3] args []) = some (v, new) := by
  intro args v new h
  unfold R at h
  split at h
  · rename_i fs m
    simp only [Option.some.injEq, Prod.mk.injEq, Bool.and_eq_true, decide_eq_true_eq, Bool.not_eq_true'] at h
    obtain ⟨⟨⟨rfl, h1⟩, hs, ho⟩, rfl, rfl⟩ := h
    simp only [rms.ok.sp, Bool.and_eq_true] at ho
    obtain ⟨hv, hf⟩ := ho
    obtain ⟨hn2, hn8⟩ := rms.va_len hv
    have e9 : rms.tp.sv = 9 := rfl
    have hng := rms.bg_ng hv
    rw [e9] at hng hf
    have hrg := rms.bg_rg fs
    obtain ⟨F, hF⟩ : ∃ F : Nat, F = fs.length + 5 := ⟨_, rfl⟩
    refine ⟨F, ?_⟩
    have hl := loop fs F (by omega) fs.length 0 F (by omega) (by omega)
    have h := round fs (rms.bg.sv fs.length) fs.length fs.length F 0
    rw [rms.bg_len] at h
    have e0 : (0 : Nat) + 1 = 1 := rfl
    rw [e0] at h
    rw [start]
    simp -implicitDefEqProofs only [h1, hs, hv, and_self, and_self, decide_true, decide_false, Bool.and_self, Bool.or_self, Bool.and_true, Bool.true_and, Bool.and_false, Bool.false_and, Bool.or_true, Bool.true_or, Bool.or_false, Bool.false_or, Bool.not_true, Bool.not_false, cond_true, cond_false]
    refine Eq.trans (congrArg (regc [0]) hl) ?_
    rw [h]
    simp -implicitDefEqProofs only [Int.lt_irrefl, e9, hv, hng, hrg, hf, rms.out.sv, and_self, eq_self, true_and, and_self, decide_true, decide_false, Bool.and_self, Bool.or_self, Bool.and_true, Bool.true_and, Bool.and_false, Bool.false_and, Bool.or_true, Bool.true_or, Bool.or_false, Bool.false_or, Bool.not_true, Bool.not_false, cond_true, cond_false]
    try rfl

  · cases h
theorem ok : EntOk Try.prog ⟨11, R⟩ :=
  ent_okAG (ks := [0]) mixed (A := (orcW [⟨55, (l05Rooms.R rms.tp.sv)⟩] [⟨54, l05Friends.R⟩])) (orcW_ok (by simp only [List.mem_cons, List.not_mem_nil, or_false, forall_eq_or_imp, forall_eq]; exact l05Rooms.ok rms.tp.sv) (by simp only [List.mem_cons, List.not_mem_nil, or_false, forall_eq_or_imp, forall_eq]; exact l05Friends.ok)) Try.func11 (by kernel_rfl) (by kernel_rfl) (n := 22) (ts := [2, 3]) (hd := hd) (dr := Dr.std) (cut := none) (by kernel_rfl) (by kernel_rfl) (by kernel_rfl) run
end sRoomsOf_t

namespace sRoomsOf_f
def R : List AVal → Option (Bool × AVal × List Blk)
  | [.ro (.rows .i64 fs) m 1] => some (decide (m = fs.length ∧ m ≤ 4611686018427387904) && (short.sp 4611686018427387904 fs && !rms.ok.sp fs), .tup [.nils, .bool false], [])
  | _ => none
def hd : Nat → Head := fun _ => ⟨[0, 2, 3, 4, 10, 11], some 1⟩
noncomputable def L (f n : Nat) (s : State) := loopAt Try.prog (orcW [⟨55, (l05Rooms.R rms.tp.sv)⟩] [⟨54, l05Friends.R⟩]) hd Dr.std 0 f (bodyOf Try.f11) 0 [true, true, true, false, true] (retK Try.prog [2, 3] 0 (some 0)) n s
theorem start (fs : List (List Int)) (m f : Nat) :
  runFn Try.prog (orcW [⟨55, (l05Rooms.R rms.tp.sv)⟩] [⟨54, l05Friends.R⟩]) hd Dr.std (some 0) f (bodyOf Try.f11) 22 [2, 3] [.ro (.rows .i64 fs) m 1] []
  = (bif decide (m = fs.length ∧ m ≤ (4611686018427387904 : Nat)) && short.sp (4611686018427387904 : Nat) fs && (true && true || true && true) then bif !rms.va.sp fs then some (AVal.tup [AVal.nils, AVal.bool false], []) else L f f (mkS (22 : Nat) [((0 : Nat), AVal.ro (Cont.rows IntKind.i64 fs) m (1 : Nat)), ((2 : Nat), AVal.nils), ((3 : Nat), AVal.bool false), ((4 : Nat), AVal.own (0 : Nat) (0 : Nat) (0 : Nat) (0 : Nat) (1 : Nat)), ((10 : Nat), AVal.int IntKind.i64 (↑m : Int)), ((11 : Nat), AVal.int IntKind.i64 (0 : Int))] [{ c := BC.typ (Cont.ints IntKind.i64 (List.replicate (0 : Nat) (0 : Int))), ver := (0 : Nat) }]) else none) := by kernel_rfl
theorem round (fs : List (List Int)) (rm : List Int) (m i f n : Nat) :
  L f (n + 1) (mkS 22 [(0, .ro (.rows .i64 fs) m 1), (2, .nils), (3, .bool false), (4, .own 0 0 rm.length 0 1), (10, .int .i64 m), (11, .int .i64 (i : Nat))] [⟨.typ (.ints .i64 rm), 0⟩])
  = (bif decide ((↑i : Int) < (↑m : Int)) then bif (1 : Nat) == (1 : Nat) && (1 : Nat) == (1 : Nat) && (true && (true && true) && (true && true && (decide (rm.length + (1 : Nat) ≤ (4611686018427387904 : Nat)) && decide ((rm.length + (1 : Nat)) * (8 : Nat) ≤ (140737488355328 : Nat))))) then L f n (mkS (22 : Nat) [((0 : Nat), AVal.ro (Cont.rows IntKind.i64 fs) m (1 : Nat)), ((2 : Nat), AVal.nils), ((3 : Nat), AVal.bool false), ((4 : Nat), AVal.own (0 : Nat) (0 : Nat) (rm.length + (1 : Nat)) (0 : Nat) (1 : Nat)), ((10 : Nat), AVal.int IntKind.i64 (↑m : Int)), ((11 : Nat), AVal.int IntKind.i64 (IntKind.i64.wrap ((↑i : Int) + (1 : Int))))] [{ c := BC.typ (Cont.ints IntKind.i64 (List.take rm.length rm ++ List.take (1 : Nat) (List.drop (0 : Nat) ((List.replicate (1 : Nat) (0 : Int)).set (0 : Nat) (-1 : Int))))), ver := (0 : Nat) }]) else none else bif decide (m = fs.length ∧ rm.length = m ∧ rms.ng.sv rm < rms.tp.sv) && (rms.va.sp fs && rms.rg.sp m (-1 : Int) rm) && (true && (true && true)) then bif !rms.rf.sp fs (9 : Nat) rm then some (AVal.tup [AVal.nils, AVal.bool false], []) else some (AVal.tup [AVal.ro (Cont.ints IntKind.i64 (rms.ro.sv fs (9 : Nat) rm)) rm.length (1 : Nat), AVal.bool true], []) else none) := by kernel_rfl
theorem loop (fs : List (List Int)) (f : Nat) (h8 : fs.length ≤ 1000) : ∀ (d i n : Nat), i + d = fs.length → d < n →
    L f n (mkS 22 [(0, .ro (.rows .i64 fs) fs.length 1), (2, .nils), (3, .bool false), (4, .own 0 0 i 0 1), (10, .int .i64 fs.length), (11, .int .i64 (i : Nat))] [⟨.typ (.ints .i64 (rms.bg.sv i)), 0⟩]) = L f 1 (mkS 22 [(0, .ro (.rows .i64 fs) fs.length 1), (2, .nils), (3, .bool false), (4, .own 0 0 fs.length 0 1), (10, .int .i64 fs.length), (11, .int .i64 (fs.length : Nat))] [⟨.typ (.ints .i64 (rms.bg.sv fs.length)), 0⟩]) := by
  intro d
  induction d with
  | zero =>
    intro i n hi hn
    obtain ⟨n, rfl⟩ : ∃ k, n = k + 1 := ⟨n - 1, by omega⟩
    obtain rfl : i = fs.length := by omega
    have h := round fs (rms.bg.sv fs.length) fs.length fs.length f n
    have h' := round fs (rms.bg.sv fs.length) fs.length fs.length f 0
    rw [rms.bg_len] at h h'
    rw [h, h']
    simp -implicitDefEqProofs only [Int.lt_irrefl, and_self, decide_true, decide_false, Bool.and_self, Bool.or_self, Bool.and_true, Bool.true_and, Bool.and_false, Bool.false_and, Bool.or_true, Bool.true_or, Bool.or_false, Bool.false_or, Bool.not_true, Bool.not_false, cond_true, cond_false]
  | succ d ih =>
    intro i n hi hn
    obtain ⟨n, rfl⟩ : ∃ k, n = k + 1 := ⟨n - 1, by omega⟩
    have h5 : (i : Int) < (fs.length : Int) := by omega
    have hih := ih (i + 1) n (by omega) (by omega)
    have e : rms.bg.sv (i + 1) = rms.bg.sv i ++ [-1] := by unfold rms.bg.sv; rw [List.replicate_succ']
    have one : (List.replicate 1 (0 : Int)).set 0 (-1) = [-1] := rfl
    have k0 : i + 1 ≤ 4611686018427387904 := by omega
    have k1 : (i + 1) * 8 ≤ 140737488355328 := by omega
    have tk : List.take i (rms.bg.sv i) = rms.bg.sv i := List.take_of_length_le (by rw [rms.bg_len]; exact Nat.le_refl i)
    have h := round fs (rms.bg.sv i) fs.length i f n
    rw [rms.bg_len] at h
    rw [e] at hih
    rw [← hih, h]
    simp -implicitDefEqProofs only [h5, tk, k0, k1, one, List.drop_zero, List.take_succ_cons, List.take_zero, Nat.reduceBEq, wrap_nat i (by omega), and_self, decide_true, decide_false, Bool.and_self, Bool.or_self, Bool.and_true, Bool.true_and, Bool.and_false, Bool.false_and, Bool.or_true, Bool.true_or, Bool.or_false, Bool.false_or, Bool.not_true, Bool.not_false, cond_true, cond_false]
theorem run : ∀ args v new, R args = some (true, v, new) → ∃ fuel, runFn Try.prog (orcW [⟨55, (l05Rooms.R rms.tp.sv)⟩] [⟨54, l05Friends.R⟩]) hd Dr.std (some 0) fuel (bodyOf Try.f11) 22 [2, 3] args [] = some (v, new) := by
  intro args v new h
  unfold R at h
  split at h
  · rename_i fs m
    simp only [Option.some.injEq, Prod.mk.injEq, Bool.and_eq_true, decide_eq_true_eq, Bool.not_eq_true'] at h
    obtain ⟨⟨⟨rfl, h1⟩, hs, ho⟩, rfl, rfl⟩ := h
    obtain ⟨F, hF⟩ : ∃ F : Nat, F = fs.length + 5 := ⟨_, rfl⟩
    refine ⟨F, ?_⟩
    rw [start]
    rcases Bool.eq_false_or_eq_true (rms.va.sp fs) with hv | hv
    · obtain ⟨hn2, hn8⟩ := rms.va_len hv
      have e9 : rms.tp.sv = 9 := rfl
      have hng := rms.bg_ng hv
      rw [e9] at hng
      have hrg := rms.bg_rg fs
      have hf : rms.rf.sp fs 9 (rms.bg.sv fs.length) = false := by simpa only [rms.ok.sp, hv, Bool.true_and, e9] using ho
      have hl := loop fs F (by omega) fs.length 0 F (by omega) (by omega)
      have h := round fs (rms.bg.sv fs.length) fs.length fs.length F 0
      rw [rms.bg_len] at h
      have e0 : (0 : Nat) + 1 = 1 := rfl
      rw [e0] at h
      simp -implicitDefEqProofs only [h1, hs, hv, and_self, and_self, decide_true, decide_false, Bool.and_self, Bool.or_self, Bool.and_true, Bool.true_and, Bool.and_false, Bool.false_and, Bool.or_true, Bool.true_or, Bool.or_false, Bool.false_or, Bool.not_true, Bool.not_false, cond_true, cond_false]
      refine Eq.trans hl ?_
      rw [h]
      simp -implicitDefEqProofs only [Int.lt_irrefl, e9, hv, hng, hrg, hf, and_self, eq_self, true_and, and_self, decide_true, decide_false, Bool.and_self, Bool.or_self, Bool.and_true, Bool.true_and, Bool.and_false, Bool.false_and, Bool.or_true, Bool.true_or, Bool.or_false, Bool.false_or, Bool.not_true, Bool.not_false, cond_true, cond_false]
      try rfl
    · simp -implicitDefEqProofs only [h1, hs, hv, and_self, and_self, decide_true, decide_false, Bool.and_self, Bool.or_self, Bool.and_true, Bool.true_and, Bool.and_false, Bool.false_and, Bool.or_true, Bool.true_or, Bool.or_false, Bool.false_or, Bool.not_true, Bool.not_false, cond_true, cond_false]
      try rfl

  · cases h
theorem ok : EntOk Try.prog ⟨11, R⟩ :=
  ent_okA mixed (A := (orcW [⟨55, (l05Rooms.R rms.tp.sv)⟩] [⟨54, l05Friends.R⟩])) (orcW_ok (by simp only [List.mem_cons, List.not_mem_nil, or_false, forall_eq_or_imp, forall_eq]; exact l05Rooms.ok rms.tp.sv) (by simp only [List.mem_cons, List.not_mem_nil, or_false, forall_eq_or_imp, forall_eq]; exact l05Friends.ok)) Try.func11 (by kernel_rfl) (by kernel_rfl) (n := 22) (ts := [2, 3]) (hd := hd) (dr := Dr.std) (cut := (some 0)) (by kernel_rfl) (by kernel_rfl) (by kernel_rfl) run
end sRoomsOf_f

namespace sRoomsOf
def Rt := sRoomsOf_t.R
def Rf := sRoomsOf_f.R
theorem okt : EntOk Try.prog ⟨11, Rt⟩ := sRoomsOf_t.ok
theorem okf : EntOk Try.prog ⟨11, Rf⟩ := sRoomsOf_f.ok
end sRoomsOf

namespace iRoomsOf_t
def R : List AVal → Option (Bool × AVal × List Blk)
  | [.ro (.rows .i64 fs) m 1] => some (decide (m = fs.length ∧ m ≤ 4611686018427387904) && (short.sp 4611686018427387904 fs && rms.ok.sp fs), .tup [.own 0 0 m 0 1, .bool true], [⟨.typ (.ints .i64 (rms.out.sv fs)), 0⟩])
  | _ => none
theorem go (fs : List (List Int)) (m : Nat) :
  regc [1] (runFn Try.prog (orcW [⟨58, (iRoomsP.R rms.tp.sv)⟩] [⟨56, areFriends.R⟩, ⟨57, iNone.R⟩]) hd0 Dr.std none 0 (bodyOf Try.f13) 17 [2, 3] [.ro (.rows .i64 fs) m 1] [])
  = (match bif true && true then bif decide (m = fs.length ∧ m ≤ (4611686018427387904 : Nat)) && short.sp (4611686018427387904 : Nat) fs && (true && true || true && true) then bif !rms.va.sp fs then some (AVal.tup [AVal.nils, AVal.bool false], [{ c := BC.cells [AVal.ro (Cont.rows IntKind.i64 fs) m (1 : Nat)], ver := (0 : Nat) }]) else bif true && true then bif decide ((1 : Int) ≤ (↑m : Int) ∧ (↑m : Int) ≤ (8 : Int)) && (true && true || true && (true && true)) then bif true && (true && (true && decide ((0 : Nat) < (1 : Nat)) && true)) then bif true && (true && (true && decide ((0 : Nat) < (1 : Nat)) && true)) then bif true && true then bif decide (m = fs.length ∧ (↑m : Int).toNat = m ∧ rms.ng.sv (List.replicate (↑m : Int).toNat (-1 : Int)) < rms.tp.sv ∧ (58 : Nat) = (58 : FuncId)) && (rms.va.sp fs && rms.rg.sp m (-1 : Int) (List.replicate (↑m : Int).toNat (-1 : Int))) && (true && (true && (true && (true && true))) && (true && (true && (true && (true && true))))) then bif !rms.rf.sp fs (9 : Nat) (List.replicate (↑m : Int).toNat (-1 : Int)) then some (AVal.tup [AVal.nils, AVal.bool false], [{ c := BC.cells [AVal.top], ver := (0 : Nat) }, { c := BC.typ (Cont.ints IntKind.i64 (rms.ro.sv fs (9 : Nat) (List.replicate (↑m : Int).toNat (-1 : Int)))), ver := (0 : Nat) }, { c := BC.cells [AVal.own (1 : Nat) (0 : Nat) (↑m : Int).toNat (0 : Nat) (1 : Nat)], ver := (0 : Nat) }, { c := BC.cells [AVal.top], ver := (0 : Nat) }]) else bif true && true then some (AVal.tup [AVal.own (1 : Nat) (0 : Nat) (↑m : Int).toNat (0 : Nat) (1 : Nat), AVal.bool true], [{ c := BC.cells [AVal.top], ver := (0 : Nat) }, { c := BC.typ (Cont.ints IntKind.i64 (rms.ro.sv fs (9 : Nat) (List.replicate (↑m : Int).toNat (-1 : Int)))), ver := (0 : Nat) }, { c := BC.cells [AVal.own (1 : Nat) (0 : Nat) (↑m : Int).toNat (0 : Nat) (1 : Nat)], ver := (0 : Nat) }, { c := BC.cells [AVal.top], ver := (0 : Nat) }]) else none else none else none else none else none else none else none else none else none with
| some (v, h) =>
  bif true && (ltN (1 : Nat) (hlen h) && true) then
    some
      (AVal.re [(1 : Nat)] h v,
        match nth h (1 : Nat) with
        | some b => { c := BC.re [(1 : Nat)] h b.c, ver := b.ver } :: reB [(1 : Nat)] h []
        | none => { c := BC.cells [], ver := (0 : Nat) } :: reB [(1 : Nat)] h [])
  else none
| none => none) := by kernel_rfl
theorem run : ∀ args v new, R args = some (true, v, new) → ∃ fuel, regc [1] (runFn Try.prog (orcW [⟨58, (iRoomsP.R rms.tp.sv)⟩] [⟨56, areFriends.R⟩, ⟨57, iNone.R⟩]) hd0 Dr.std none fuel (bodyOf Try.f13) 17 [2, 3] args []) = some (v, new) := by
  intro args v new h
  unfold R at h
  split at h
  · rename_i fs m
    simp only [Option.some.injEq, Prod.mk.injEq, Bool.and_eq_true, decide_eq_true_eq, Bool.not_eq_true'] at h
    obtain ⟨⟨⟨rfl, h1⟩, hs, ho⟩, rfl, rfl⟩ := h
    simp only [rms.ok.sp, Bool.and_eq_true] at ho
    obtain ⟨hv, hf⟩ := ho
    obtain ⟨hn2, hn8⟩ := rms.va_len hv
    have e9 : rms.tp.sv = 9 := rfl
    have hng := rms.bg_ng hv
    rw [e9] at hng hf
    have hrg := rms.bg_rg fs
    have eb : List.replicate fs.length (-1 : Int) = rms.bg.sv fs.length := rfl
    have a1 : (1 : Int) ≤ (fs.length : Int) := by omega
    have a2 : (fs.length : Int) ≤ 8 := by omega
    have a3 : (0 : Nat) < 1 := by omega
    refine ⟨0, ?_⟩
    rw [go]
    simp -implicitDefEqProofs only [h1, hs, e9, hv, a1, a2, a3, eb, hng, hrg, hf, rms.out.sv, Int.toNat_natCast, and_self, eq_self, true_and, and_true, and_self, decide_true, decide_false, Bool.and_self, Bool.or_self, Bool.and_true, Bool.true_and, Bool.and_false, Bool.false_and, Bool.or_true, Bool.true_or, Bool.or_false, Bool.false_or, Bool.not_true, Bool.not_false, cond_true, cond_false]
    try rfl

  · cases h
theorem ok : EntOk Try.prog ⟨13, R⟩ :=
  ent_okAG (ks := [1]) mixed (A := (orcW [⟨58, (iRoomsP.R rms.tp.sv)⟩] [⟨56, areFriends.R⟩, ⟨57, iNone.R⟩])) (orcW_ok (by simp only [List.mem_cons, List.not_mem_nil, or_false, forall_eq_or_imp, forall_eq]; exact iRoomsP.ok rms.tp.sv) (by simp only [List.mem_cons, List.not_mem_nil, or_false, forall_eq_or_imp, forall_eq]; exact ⟨areFriends.ok, iNone.ok⟩)) Try.func13 (by kernel_rfl) (by kernel_rfl) (n := 17) (ts := [2, 3]) (hd := hd0) (dr := Dr.std) (cut := none) (by kernel_rfl) (by kernel_rfl) (by kernel_rfl) run
end iRoomsOf_t

namespace iRoomsOf_f
def R : List AVal → Option (Bool × AVal × List Blk)
  | [.ro (.rows .i64 fs) m 1] => some (decide (m = fs.length ∧ m ≤ 4611686018427387904) && (short.sp 4611686018427387904 fs && !rms.ok.sp fs), .tup [.nils, .bool false], [])
  | _ => none
theorem go (fs : List (List Int)) (m : Nat) :
  runFn Try.prog (orcW [⟨58, (iRoomsP.R rms.tp.sv)⟩] [⟨56, areFriends.R⟩, ⟨57, iNone.R⟩]) hd0 Dr.std (some 0) 0 (bodyOf Try.f13) 17 [2, 3] [.ro (.rows .i64 fs) m 1] []
  = (bif true && true then bif decide (m = fs.length ∧ m ≤ (4611686018427387904 : Nat)) && short.sp (4611686018427387904 : Nat) fs && (true && true || true && true) then bif !rms.va.sp fs then some (AVal.tup [AVal.nils, AVal.bool false], []) else bif true && true then bif decide ((1 : Int) ≤ (↑m : Int) ∧ (↑m : Int) ≤ (8 : Int)) && (true && true || true && (true && true)) then bif true && (true && (true && decide ((0 : Nat) < (1 : Nat)) && true)) then bif true && (true && (true && decide ((0 : Nat) < (1 : Nat)) && true)) then bif true && true then bif decide (m = fs.length ∧ (↑m : Int).toNat = m ∧ rms.ng.sv (List.replicate (↑m : Int).toNat (-1 : Int)) < rms.tp.sv ∧ (58 : Nat) = (58 : FuncId)) && (rms.va.sp fs && rms.rg.sp m (-1 : Int) (List.replicate (↑m : Int).toNat (-1 : Int))) && (true && (true && (true && (true && true))) && (true && (true && (true && (true && true))))) then bif !rms.rf.sp fs (9 : Nat) (List.replicate (↑m : Int).toNat (-1 : Int)) then some (AVal.tup [AVal.nils, AVal.bool false], []) else bif true && true then some (AVal.tup [AVal.ro (Cont.ints IntKind.i64 (rms.ro.sv fs (9 : Nat) (List.replicate (↑m : Int).toNat (-1 : Int)))) (↑m : Int).toNat (1 : Nat), AVal.bool true], []) else none else none else none else none else none else none else none else none else none) := by kernel_rfl
theorem run : ∀ args v new, R args = some (true, v, new) → ∃ fuel, runFn Try.prog (orcW [⟨58, (iRoomsP.R rms.tp.sv)⟩] [⟨56, areFriends.R⟩, ⟨57, iNone.R⟩]) hd0 Dr.std (some 0) fuel (bodyOf Try.f13) 17 [2, 3] args [] = some (v, new) := by
  intro args v new h
  unfold R at h
  split at h
  · rename_i fs m
    simp only [Option.some.injEq, Prod.mk.injEq, Bool.and_eq_true, decide_eq_true_eq, Bool.not_eq_true'] at h
    obtain ⟨⟨⟨rfl, h1⟩, hs, ho⟩, rfl, rfl⟩ := h
    refine ⟨0, ?_⟩
    rw [go]
    rcases Bool.eq_false_or_eq_true (rms.va.sp fs) with hv | hv
    · obtain ⟨hn2, hn8⟩ := rms.va_len hv
      have e9 : rms.tp.sv = 9 := rfl
      have hng := rms.bg_ng hv
      rw [e9] at hng
      have hrg := rms.bg_rg fs
      have hf : rms.rf.sp fs 9 (rms.bg.sv fs.length) = false := by simpa only [rms.ok.sp, hv, Bool.true_and, e9] using ho
      have eb : List.replicate fs.length (-1 : Int) = rms.bg.sv fs.length := rfl
      have a1 : (1 : Int) ≤ (fs.length : Int) := by omega
      have a2 : (fs.length : Int) ≤ 8 := by omega
      have a3 : (0 : Nat) < 1 := by omega
      simp -implicitDefEqProofs only [h1, hs, e9, hv, a1, a2, a3, eb, hng, hrg, hf, Int.toNat_natCast, and_self, eq_self, true_and, and_true, and_self, decide_true, decide_false, Bool.and_self, Bool.or_self, Bool.and_true, Bool.true_and, Bool.and_false, Bool.false_and, Bool.or_true, Bool.true_or, Bool.or_false, Bool.false_or, Bool.not_true, Bool.not_false, cond_true, cond_false]
      try rfl
    · simp -implicitDefEqProofs only [h1, hs, hv, and_self, and_self, decide_true, decide_false, Bool.and_self, Bool.or_self, Bool.and_true, Bool.true_and, Bool.and_false, Bool.false_and, Bool.or_true, Bool.true_or, Bool.or_false, Bool.false_or, Bool.not_true, Bool.not_false, cond_true, cond_false]
      try rfl

  · cases h
theorem ok : EntOk Try.prog ⟨13, R⟩ :=
  ent_okA mixed (A := (orcW [⟨58, (iRoomsP.R rms.tp.sv)⟩] [⟨56, areFriends.R⟩, ⟨57, iNone.R⟩])) (orcW_ok (by simp only [List.mem_cons, List.not_mem_nil, or_false, forall_eq_or_imp, forall_eq]; exact iRoomsP.ok rms.tp.sv) (by simp only [List.mem_cons, List.not_mem_nil, or_false, forall_eq_or_imp, forall_eq]; exact ⟨areFriends.ok, iNone.ok⟩)) Try.func13 (by kernel_rfl) (by kernel_rfl) (n := 17) (ts := [2, 3]) (hd := hd0) (dr := Dr.std) (cut := (some 0)) (by kernel_rfl) (by kernel_rfl) (by kernel_rfl) run
end iRoomsOf_f

namespace iRoomsOf
def Rt := iRoomsOf_t.R
def Rf := iRoomsOf_f.R
theorem okt : EntOk Try.prog ⟨13, Rt⟩ := iRoomsOf_t.ok
theorem okf : EntOk Try.prog ⟨13, Rf⟩ := iRoomsOf_f.ok
end iRoomsOf

end Go.Proofs.Ytchebdconomdoaa.Ab
