/-
  Functions: products and means of complex numbers.
-/
import Derived.Test.YtgblgofmdhekiaaFnMH
import Derived.Test.YtgblgofmdhekiaaFnZA
namespace Go.Proofs.Ytgblgofmdhekiaa.Ab
open Go
set_option linter.unusedVariables false
set_option linter.unusedSimpArgs false
set_option maxRecDepth 100000

def fcx.sp (z : Nat × Nat) : Bool := flo.fin.sp z.1 && flo.fin.sp z.2
def nfx.sp (z : Nat × Nat) : Bool := !fcx.sp z
theorem fl.mod_fcx {z : Nat × Nat} (h : fl.modc.sp z = true) : nfx.sp z = false := by
  simp only [fl.modc.sp, Bool.and_eq_true] at h
  unfold nfx.sp fcx.sp
  rw [fl.flo_fin (fl.mod_open h.1).1, fl.flo_fin (fl.mod_open h.2).1]; rfl
namespace areLong
def R : List AVal → Option (Bool × AVal × List Blk)
  | [.int .i64 n] => some (true, .bool (decide (1 ≤ n) && decide (n ≤ 64)), [])
  | _ => none
theorem go (n : Int) :
  runFn Try.prog (orc []) hd0 Dr.std none 0 (bodyOf Try.f65) 9 [2] [.int .i64 n] []
  = (bif decide ((1 : Int) ≤ n) then some (AVal.bool (decide (n ≤ (64 : Int))), []) else some (AVal.bool false, [])) := by kernel_rfl
theorem run : ∀ args v new, R args = some (true, v, new) → ∃ fuel, runFn Try.prog (orc []) hd0 Dr.std none fuel (bodyOf Try.f65) 9 [2] args [] = some (v, new) := by
  intro args v new h
  unfold R at h
  split at h
  · rename_i n
    simp only [Option.some.injEq, Prod.mk.injEq] at h
    obtain ⟨_, rfl, rfl⟩ := h
    refine ⟨0, ?_⟩
    rw [go]
    cases decide (1 ≤ n) <;> rfl
  · cases h
theorem ok : EntOk Try.prog ⟨65, R⟩ :=
  ent_okA mixed (A := (orc [])) (orc_ok (by simp)) Try.func65 (by kernel_rfl) (by kernel_rfl) (n := 9) (ts := [2]) (hd := hd0) (dr := Dr.std) (cut := none) (by kernel_rfl) (by kernel_rfl) (by kernel_rfl) run
end areLong

namespace parts
def R : List AVal → Option (Bool × AVal × List Blk)
  | [.cpx .f32 a b] => some (true, .tup [.flt .f64 (fwid.sv a), .flt .f64 (fwid.sv b)], [])
  | _ => none
theorem go (a b : Nat) :
  runFn Try.prog (orc []) hd0 Dr.std none 0 (bodyOf Try.f94) 10 [2, 3] [.cpx .f32 a b] []
  = (some (AVal.tup [AVal.flt FloatKind.f64 (fwid.sv a), AVal.flt FloatKind.f64 (fwid.sv b)], [])) := by kernel_rfl
theorem run : ∀ args v new, R args = some (true, v, new) → ∃ fuel, runFn Try.prog (orc []) hd0 Dr.std none fuel (bodyOf Try.f94) 10 [2, 3] args [] = some (v, new) := by
  intro args v new h
  unfold R at h
  split at h
  · rename_i a b
    simp only [Option.some.injEq, Prod.mk.injEq] at h
    obtain ⟨_, rfl, rfl⟩ := h
    refine ⟨0, ?_⟩
    rw [go]
    try rfl
  · cases h
theorem ok : EntOk Try.prog ⟨94, R⟩ :=
  ent_okA mixed (A := (orc [])) (orc_ok (by simp)) Try.func94 (by kernel_rfl) (by kernel_rfl) (n := 10) (ts := [2, 3]) (hd := hd0) (dr := Dr.std) (cut := none) (by kernel_rfl) (by kernel_rfl) (by kernel_rfl) run
end parts

namespace times
def R : List AVal → Option (Bool × AVal × List Blk)
  | [.flt .f64 a, .flt .f64 b, .flt .f64 c, .flt .f64 d] => some (true, .tup [.flt .f64 (fl.wre.sv a b c d), .flt .f64 (fl.wim.sv a b c d)], [])
  | _ => none
theorem go (a b c d : Nat) :
  runFn Try.prog (orc []) hd0 Dr.std none 0 (bodyOf Try.f96) 24 [8, 9] [.flt .f64 a, .flt .f64 b, .flt .f64 c, .flt .f64 d] []
  = (some (AVal.tup [AVal.flt FloatKind.f64 (fsub FloatKind.f64 (fmul FloatKind.f64 a c) (fmul FloatKind.f64 b d)), AVal.flt FloatKind.f64 (fadd FloatKind.f64 (fmul FloatKind.f64 a d) (fmul FloatKind.f64 b c))], [])) := by kernel_rfl
theorem run : ∀ args v new, R args = some (true, v, new) → ∃ fuel, runFn Try.prog (orc []) hd0 Dr.std none fuel (bodyOf Try.f96) 24 [8, 9] args [] = some (v, new) := by
  intro args v new h
  unfold R at h
  split at h
  · rename_i a b c d
    simp only [Option.some.injEq, Prod.mk.injEq] at h
    obtain ⟨_, rfl, rfl⟩ := h
    refine ⟨0, ?_⟩
    rw [go]
    try rfl
  · cases h
theorem ok : EntOk Try.prog ⟨96, R⟩ :=
  ent_okA mixed (A := (orc [])) (orc_ok (by simp)) Try.func96 (by kernel_rfl) (by kernel_rfl) (n := 24) (ts := [8, 9]) (hd := hd0) (dr := Dr.std) (cut := none) (by kernel_rfl) (by kernel_rfl) (by kernel_rfl) run
end times

namespace MulComplex
def R : List AVal → Option (Bool × AVal × List Blk)
  | [.cpx .f32 a b, .cpx .f32 c d] => some (fl.mok.sp a b c d, .cpx .f32 (fl.mre.sv a b c d) (fl.mim.sv a b c d), [])
  | _ => none
theorem go (a b c d : Nat) :
  runFn Try.prog (orc [⟨94, parts.R⟩, ⟨96, times.R⟩]) hd0 Dr.std none 0 (bodyOf Try.f72) 34 [4] [.cpx .f32 a b, .cpx .f32 c d] []
  = (bif true && (true && true || true && (true && true) && true) then bif true && (true && true || true && (true && true) && true) then bif true && (true && (true && (true && (true && true))) || true && (true && true) && true) then bif nar.ok.sp (fl.wre.sv (fwid.sv a) (fwid.sv b) (fwid.sv c) (fwid.sv d)) then bif nar.ok.sp (fl.wim.sv (fwid.sv a) (fwid.sv b) (fwid.sv c) (fwid.sv d)) then some (AVal.cpx FloatKind.f32 (nar.sv (fl.wre.sv (fwid.sv a) (fwid.sv b) (fwid.sv c) (fwid.sv d))) (nar.sv (fl.wim.sv (fwid.sv a) (fwid.sv b) (fwid.sv c) (fwid.sv d))), []) else none else none else none else none else none) := by kernel_rfl
theorem run : ∀ args v new, R args = some (true, v, new) → ∃ fuel, runFn Try.prog (orc [⟨94, parts.R⟩, ⟨96, times.R⟩]) hd0 Dr.std none fuel (bodyOf Try.f72) 34 [4] args [] = some (v, new) := by
  intro args v new h
  unfold R at h
  split at h
  · rename_i a b c d
    simp only [Option.some.injEq, Prod.mk.injEq] at h
    obtain ⟨h1, rfl, rfl⟩ := h
    refine ⟨0, ?_⟩
    simp only [fl.mok.sp, Bool.and_eq_true] at h1
    obtain ⟨h1, h2⟩ := h1
    rw [go]
    simp only [h1, h2, decide_true, decide_false, Bool.and_self, Bool.or_self, Bool.and_true, Bool.true_and, Bool.and_false, Bool.false_and, Bool.or_true, Bool.true_or, Bool.or_false, Bool.false_or, Bool.not_true, Bool.not_false, cond_true, cond_false]
    rfl
  · cases h
theorem ok : EntOk Try.prog ⟨72, R⟩ :=
  ent_okA mixed (A := (orc [⟨94, parts.R⟩, ⟨96, times.R⟩])) (orc_ok (by simp only [List.mem_cons, List.not_mem_nil, or_false, forall_eq_or_imp, forall_eq]; exact ⟨parts.ok, times.ok⟩)) Try.func72 (by kernel_rfl) (by kernel_rfl) (n := 34) (ts := [4]) (hd := hd0) (dr := Dr.std) (cut := none) (by kernel_rfl) (by kernel_rfl) (by kernel_rfl) run
end MulComplex

namespace ConjugateOf
def R : List AVal → Option (Bool × AVal × List Blk)
  | [.cpx .f32 a b] => some (true, .cpx .f32 a (Op.negFloat .f32 b), [])
  | _ => none
theorem go (a b : Nat) :
  runFn Try.prog (orc []) hd0 Dr.std none 0 (bodyOf Try.f73) 9 [2] [.cpx .f32 a b] []
  = (some (AVal.cpx FloatKind.f32 a (Op.negFloat FloatKind.f32 b), [])) := by kernel_rfl
theorem run : ∀ args v new, R args = some (true, v, new) → ∃ fuel, runFn Try.prog (orc []) hd0 Dr.std none fuel (bodyOf Try.f73) 9 [2] args [] = some (v, new) := by
  intro args v new h
  unfold R at h
  split at h
  · rename_i a b
    simp only [Option.some.injEq, Prod.mk.injEq] at h
    obtain ⟨_, rfl, rfl⟩ := h
    refine ⟨0, ?_⟩
    rw [go]
    try rfl
  · cases h
theorem ok : EntOk Try.prog ⟨73, R⟩ :=
  ent_okA mixed (A := (orc [])) (orc_ok (by simp)) Try.func73 (by kernel_rfl) (by kernel_rfl) (n := 9) (ts := [2]) (hd := hd0) (dr := Dr.std) (cut := none) (by kernel_rfl) (by kernel_rfl) (by kernel_rfl) run
end ConjugateOf






namespace IsFiniteComplex
def R : List AVal → Option (Bool × AVal × List Blk)
  | [.cpx .f32 a b] => some (true, .bool (fcx.sp (a, b)), [])
  | _ => none
theorem go (a b : Nat) :
  runFn Try.prog (orc [⟨50, iIsFinite.R⟩]) hd0 Dr.std none 0 (bodyOf Try.f68) 11 [2] [.cpx .f32 a b] []
  = (bif true && (true && true || true && true) then bif flo.fin.sp a then bif true && (true && true || true && true) then some (AVal.bool (flo.fin.sp b), []) else none else some (AVal.bool false, []) else none) := by kernel_rfl
theorem run : ∀ args v new, R args = some (true, v, new) → ∃ fuel, runFn Try.prog (orc [⟨50, iIsFinite.R⟩]) hd0 Dr.std none fuel (bodyOf Try.f68) 11 [2] args [] = some (v, new) := by
  intro args v new h
  unfold R at h
  split at h
  · rename_i a b
    simp only [Option.some.injEq, Prod.mk.injEq] at h
    obtain ⟨_, rfl, rfl⟩ := h
    refine ⟨0, ?_⟩
    rw [go]
    unfold fcx.sp
    cases flo.fin.sp a <;> rfl
  · cases h
theorem ok : EntOk Try.prog ⟨68, R⟩ :=
  ent_okA mixed (A := (orc [⟨50, iIsFinite.R⟩])) (orc_ok (by simp only [List.mem_cons, List.not_mem_nil, or_false, forall_eq_or_imp, forall_eq]; exact iIsFinite.ok)) Try.func68 (by kernel_rfl) (by kernel_rfl) (n := 11) (ts := [2]) (hd := hd0) (dr := Dr.std) (cut := none) (by kernel_rfl) (by kernel_rfl) (by kernel_rfl) run
end IsFiniteComplex

namespace MeanArrow_1
def R : List AVal → Option (Bool × AVal × List Blk)
  | [.cpx .f32 a b] => some (true, .bool (nfx.sp (a, b)), [])
  | _ => none
theorem go (a b : Nat) :
  runFn Try.prog (orc [⟨68, IsFiniteComplex.R⟩]) hd0 Dr.std none 0 (bodyOf Try.f67) 6 [2] [.cpx .f32 a b] []
  = (bif true && (true && true || true && true) then some (AVal.bool !fcx.sp (a, b), []) else none) := by kernel_rfl
theorem run : ∀ args v new, R args = some (true, v, new) → ∃ fuel, runFn Try.prog (orc [⟨68, IsFiniteComplex.R⟩]) hd0 Dr.std none fuel (bodyOf Try.f67) 6 [2] args [] = some (v, new) := by
  intro args v new h
  unfold R at h
  split at h
  · rename_i a b
    simp only [Option.some.injEq, Prod.mk.injEq] at h
    obtain ⟨_, rfl, rfl⟩ := h
    refine ⟨0, ?_⟩
    rw [go]
    try rfl
  · cases h
theorem ok : EntOk Try.prog ⟨67, R⟩ :=
  ent_okA mixed (A := (orc [⟨68, IsFiniteComplex.R⟩])) (orc_ok (by simp only [List.mem_cons, List.not_mem_nil, or_false, forall_eq_or_imp, forall_eq]; exact IsFiniteComplex.ok)) Try.func67 (by kernel_rfl) (by kernel_rfl) (n := 6) (ts := [2]) (hd := hd0) (dr := Dr.std) (cut := none) (by kernel_rfl) (by kernel_rfl) (by kernel_rfl) run
end MeanArrow_1

namespace idxNfx
def R : List AVal → Option (Bool × AVal × List Blk)
  | [.ro (.cpxs .f32 xs) m 1, .fn ff []] => some (decide (m ≤ xs.length ∧ m ≤ 4611686018427387904 ∧ ff = 67), .int .i64 (fidx.sq (nfx.sp) (xs.take m) 0), [])
  | _ => none
def hd : Nat → Head := fun _ => ⟨[0, 1, 4, 7, 8], none⟩
noncomputable def L (f n : Nat) (s : State) := loopAt Try.prog (orc [⟨67, MeanArrow_1.R⟩]) hd Dr.std 0 f (bodyOf Try.f92) 0 [true, false, true] (retK Try.prog [4] 0 none) n s
theorem start (xs : List (Nat × Nat)) (m : Nat)  (f : Nat) :
  runFn Try.prog (orc [⟨67, MeanArrow_1.R⟩]) hd Dr.std none f (bodyOf Try.f92) 19 [4] [.ro (.cpxs .f32 xs) m 1, .fn 67 []] []
  = (L f f (mkS (19 : Nat) [((0 : Nat), AVal.ro (Cont.cpxs FloatKind.f32 xs) m (1 : Nat)), ((1 : Nat), AVal.fn (67 : Nat) []), ((4 : Nat), AVal.int IntKind.i64 (0 : Int)), ((7 : Nat), AVal.int IntKind.i64 (↑m : Int)), ((8 : Nat), AVal.int IntKind.i64 (0 : Int))] [])) := by kernel_rfl
theorem round (xs : List (Nat × Nat)) (m i : Nat)  (f n : Nat) :
  L f (n + 1) (mkS 19 [(0, .ro (.cpxs .f32 xs) m 1), (1, .fn 67 []), (4, .int .i64 0), (7, .int .i64 m), (8, .int .i64 i)] [])
  = (bif decide ((↑i : Int) < (↑m : Int)) then bif true && (decide ((0 : Int) ≤ (↑i : Int)) && decide ((↑i : Int) < (↑m : Int))) then bif decide ((↑i : Int).toNat < xs.length) then bif true && (true && true || true && true) then bif nfx.sp ((gc xs (↑i : Int).toNat).1, (gc xs (↑i : Int).toNat).2) then some (AVal.int IntKind.i64 (↑i : Int), []) else L f n (mkS (19 : Nat) [((0 : Nat), AVal.ro (Cont.cpxs FloatKind.f32 xs) m (1 : Nat)), ((1 : Nat), AVal.fn (67 : Nat) []), ((4 : Nat), AVal.int IntKind.i64 (0 : Int)), ((7 : Nat), AVal.int IntKind.i64 (↑m : Int)), ((8 : Nat), AVal.int IntKind.i64 (IntKind.i64.wrap ((↑i : Int) + (1 : Int))))] []) else none else none else none else some (AVal.int IntKind.i64 (-1 : Int), [])) := by kernel_rfl
theorem loop (xs : List (Nat × Nat)) (m : Nat)  (f : Nat) (hx : m ≤ xs.length) (hb : m ≤ 4611686018427387904) : ∀ (d i n : Nat) , i + d = m → d < n →
    L f n (mkS 19 [(0, .ro (.cpxs .f32 xs) m 1), (1, .fn 67 []), (4, .int .i64 0), (7, .int .i64 m), (8, .int .i64 i)] []) = some (.int .i64 (fidx.sq (nfx.sp) ((xs.take m).drop i) i), []) := by
  intro d
  induction d with
  | zero =>
    intro i n  hi hn 
    obtain ⟨n, rfl⟩ : ∃ k, n = k + 1 := ⟨n - 1, by omega⟩
    obtain rfl : i = m := by omega
    rw [round]
    have e : (xs.take i).drop i = [] := by simp
    rw [e]
    simp [fidx.sq]
  | succ d ih =>
    intro i n  hi hn 
    obtain ⟨n, rfl⟩ : ∃ k, n = k + 1 := ⟨n - 1, by omega⟩
    have h1 : i < m := by omega
    have h4 : (0 : Int) ≤ (i : Int) := Int.natCast_nonneg _
    have h5 : (i : Int) < (m : Int) := by omega
    have h2 : i < xs.length := by omega
    rw [round]
    rw [drop_take_consC hx h1]
    simp only [fidx.sq]
    have hr := ih (i + 1) n (by omega) (by omega)
    simp only [h4, h5, h2, gc_eq h2, decide_true, Bool.and_self, Bool.or_self, Bool.and_true, Bool.true_and, cond_true, Int.toNat_natCast, wrap_nat i (by omega)]
    first
      | (rw [hr]; cases nfx.sp xs[i] <;> rfl)
      | (cases hp : nfx.sp xs[i] <;> simp_all)
theorem run : ∀ args v new, R args = some (true, v, new) → ∃ fuel, runFn Try.prog (orc [⟨67, MeanArrow_1.R⟩]) hd Dr.std none fuel (bodyOf Try.f92) 19 [4] args [] = some (v, new) := by
  intro args v new h
  unfold R at h
  split at h
  · rename_i xs m ff 
    simp only [Option.some.injEq, Prod.mk.injEq, decide_eq_true_eq] at h
    obtain ⟨⟨h1, h2, rfl⟩, rfl, rfl⟩ := h
    refine ⟨m + 1, ?_⟩
    rw [start]
    have hl := loop xs m  (m + 1) h1 h2 m 0 (m + 1) (by omega) (by omega)
    simpa using hl
  · cases h
theorem ok : EntOk Try.prog ⟨92, R⟩ :=
  ent_okA mixed (A := (orc [⟨67, MeanArrow_1.R⟩])) (orc_ok (by simp only [List.mem_cons, List.not_mem_nil, or_false, forall_eq_or_imp, forall_eq]; exact MeanArrow_1.ok)) Try.func92 (by kernel_rfl) (by kernel_rfl) (n := 19) (ts := [4]) (hd := hd) (dr := Dr.std) (cut := none) (by kernel_rfl) (by kernel_rfl) (by kernel_rfl) run
end idxNfx

namespace hasNfx
def R : List AVal → Option (Bool × AVal × List Blk)
  | [.ro (.cpxs .f32 xs) m 1, .fn ff []] => some (decide (m ≤ xs.length ∧ m ≤ 4611686018427387904 ∧ ff = 67), .bool ((xs.take m).any (nfx.sp)), [])
  | _ => none
theorem go (xs : List (Nat × Nat)) (m : Nat) :
  runFn Try.prog (orc [⟨92, idxNfx.R⟩]) hd0 Dr.std none 0 (bodyOf Try.f66) 9 [4] [.ro (.cpxs .f32 xs) m 1, .fn 67 []] []
  = (bif decide (m ≤ xs.length ∧ m ≤ (4611686018427387904 : Nat) ∧ (67 : FuncId) = (67 : FuncId)) && (true && true || true && true) then some (AVal.bool (decide ((0 : Int) ≤ fidx.sq nfx.sp (List.take m xs) (0 : Nat))), []) else none) := by kernel_rfl
theorem run : ∀ args v new, R args = some (true, v, new) → ∃ fuel, runFn Try.prog (orc [⟨92, idxNfx.R⟩]) hd0 Dr.std none fuel (bodyOf Try.f66) 9 [4] args [] = some (v, new) := by
  intro args v new h
  unfold R at h
  split at h
  · rename_i xs m ff 
    simp only [Option.some.injEq, Prod.mk.injEq, decide_eq_true_eq] at h
    obtain ⟨⟨h1, h2, rfl⟩, rfl, rfl⟩ := h
    refine ⟨0, ?_⟩
    rw [go]
    simp only [h1, h2, true_and, and_self, decide_true, Bool.and_self, Bool.or_self, Bool.and_true, Bool.or_true, cond_true, fidx_ge]
  · cases h
theorem ok : EntOk Try.prog ⟨66, R⟩ :=
  ent_okA mixed (A := (orc [⟨92, idxNfx.R⟩])) (orc_ok (by simp only [List.mem_cons, List.not_mem_nil, or_false, forall_eq_or_imp, forall_eq]; exact idxNfx.ok)) Try.func66 (by kernel_rfl) (by kernel_rfl) (n := 9) (ts := [4]) (hd := hd0) (dr := Dr.std) (cut := none) (by kernel_rfl) (by kernel_rfl) (by kernel_rfl) run
end hasNfx


namespace MeanArrow
def R : List AVal → Option (Bool × AVal × List Blk)
  | [.ro (.cpxs .f32 zs) m 1] => some (decide (m = zs.length ∧ 1 ≤ m ∧ m ≤ 64) && zs.all fl.modc.sp, .tup [.cpx .f32 (fl.mean.sv zs).1 (fl.mean.sv zs).2, .bool true], [])
  | _ => none
def hd : Nat → Head := fun _ => ⟨[0, 4, 5, 18, 19, 20], none⟩
noncomputable def L (f n : Nat) (s : State) := loopAt Try.prog (orc [⟨65, areLong.R⟩, ⟨66, hasNfx.R⟩, ⟨68, IsFiniteComplex.R⟩]) hd Dr.std 0 f (bodyOf Try.f29) 0 [true, true, true, false, true] (retK Try.prog [2, 3] 0 none) n s
theorem start (zs : List (Nat × Nat)) (f : Nat) :
  runFn Try.prog (orc [⟨65, areLong.R⟩, ⟨66, hasNfx.R⟩, ⟨68, IsFiniteComplex.R⟩]) hd Dr.std none f (bodyOf Try.f29) 47 [2, 3] [.ro (.cpxs .f32 zs) zs.length 1] []
  = (bif true && (true && true || true && true) then bif !(decide ((1 : Int) ≤ (↑zs.length : Int)) && decide ((↑zs.length : Int) ≤ (64 : Int))) then some (AVal.tup [AVal.cpx FloatKind.f32 (0 : Nat) (0 : Nat), AVal.bool false], []) else bif decide (zs.length ≤ zs.length ∧ zs.length ≤ (4611686018427387904 : Nat) ∧ (67 : Nat) = (67 : FuncId)) && (true && true || true && true) then bif (List.take zs.length zs).any nfx.sp then some (AVal.tup [AVal.cpx FloatKind.f32 (0 : Nat) (0 : Nat), AVal.bool false], []) else L f f (mkS (47 : Nat) [((0 : Nat), AVal.ro (Cont.cpxs FloatKind.f32 zs) zs.length (1 : Nat)), ((4 : Nat), AVal.flt FloatKind.f32 (0 : Nat)), ((5 : Nat), AVal.flt FloatKind.f32 (0 : Nat)), ((18 : Nat), AVal.ro (Cont.cpxs FloatKind.f32 zs) zs.length (1 : Nat)), ((19 : Nat), AVal.int IntKind.i64 (↑zs.length : Int)), ((20 : Nat), AVal.int IntKind.i64 (0 : Int))] []) else none else none) := by kernel_rfl
theorem round (zs : List (Nat × Nat)) (i s t f n : Nat) :
  L f (n + 1) (mkS 47 [(0, .ro (.cpxs .f32 zs) zs.length 1), (4, .flt .f32 s), (5, .flt .f32 t), (18, .ro (.cpxs .f32 zs) zs.length 1), (19, .int .i64 (zs.length : Int)), (20, .int .i64 (i : Int))] [])
  = (bif decide ((↑i : Int) < (↑zs.length : Int)) then bif true && (decide ((0 : Int) ≤ (↑i : Int)) && decide ((↑i : Int) < (↑zs.length : Int))) then bif decide ((↑i : Int).toNat < zs.length) then L f n (mkS (47 : Nat) [((0 : Nat), AVal.ro (Cont.cpxs FloatKind.f32 zs) zs.length (1 : Nat)), ((4 : Nat), AVal.flt FloatKind.f32 (fadd FloatKind.f32 s (gc zs (↑i : Int).toNat).1)), ((5 : Nat), AVal.flt FloatKind.f32 (fadd FloatKind.f32 t (gc zs (↑i : Int).toNat).2)), ((18 : Nat), AVal.ro (Cont.cpxs FloatKind.f32 zs) zs.length (1 : Nat)), ((19 : Nat), AVal.int IntKind.i64 (↑zs.length : Int)), ((20 : Nat), AVal.int IntKind.i64 (IntKind.i64.wrap ((↑i : Int) + (1 : Int))))] []) else none else none else bif true && (true && true || true && true) then bif !fcx.sp (fdiv FloatKind.f32 s (FloatKind.f32.nearest (↑zs.length : Int)), fdiv FloatKind.f32 t (FloatKind.f32.nearest (↑zs.length : Int))) then some (AVal.tup [AVal.cpx FloatKind.f32 (0 : Nat) (0 : Nat), AVal.bool false], []) else some (AVal.tup [AVal.cpx FloatKind.f32 (fdiv FloatKind.f32 s (FloatKind.f32.nearest (↑zs.length : Int))) (fdiv FloatKind.f32 t (FloatKind.f32.nearest (↑zs.length : Int))), AVal.bool true], []) else none) := by kernel_rfl
theorem loop (zs : List (Nat × Nat)) (f : Nat) (hb : zs.length ≤ 1000) : ∀ (d i n s t : Nat), i + d = zs.length → d < n → fcx.sp (fdiv .f32 (fl.sm.sv (zs.drop i) s t).1 (FloatKind.f32.nearest (zs.length : Int)), fdiv .f32 (fl.sm.sv (zs.drop i) s t).2 (FloatKind.f32.nearest (zs.length : Int))) = true →
    L f n (mkS 47 [(0, .ro (.cpxs .f32 zs) zs.length 1), (4, .flt .f32 s), (5, .flt .f32 t), (18, .ro (.cpxs .f32 zs) zs.length 1), (19, .int .i64 (zs.length : Int)), (20, .int .i64 (i : Int))] []) = some (.tup [.cpx .f32 (fdiv .f32 (fl.sm.sv (zs.drop i) s t).1 (FloatKind.f32.nearest (zs.length : Int))) (fdiv .f32 (fl.sm.sv (zs.drop i) s t).2 (FloatKind.f32.nearest (zs.length : Int))), .bool true], []) := by
  intro d
  induction d with
  | zero =>
    intro i n s t hi hn hg
    obtain ⟨n, rfl⟩ : ∃ k, n = k + 1 := ⟨n - 1, by omega⟩
    obtain rfl : i = zs.length := by omega
    have e : zs.drop zs.length = [] := List.drop_length
    rw [e] at hg ⊢
    rw [round]
    simp only [fl.sm.sv] at hg ⊢
    simp -implicitDefEqProofs only [Int.lt_irrefl, hg, decide_true, decide_false, Bool.and_self, Bool.or_self, Bool.and_true, Bool.true_and, Bool.and_false, Bool.false_and, Bool.or_true, Bool.true_or, Bool.or_false, Bool.false_or, Bool.not_true, Bool.not_false, cond_true, cond_false]
    try rfl
  | succ d ih =>
    intro i n s t hi hn hg
    obtain ⟨n, rfl⟩ : ∃ k, n = k + 1 := ⟨n - 1, by omega⟩
    have h1 : i < zs.length := by omega
    have h4 : (0 : Int) ≤ (i : Int) := Int.natCast_nonneg _
    have h5 : (i : Int) < (zs.length : Int) := by omega
    have wi : IntKind.i64.wrap ((i : Int) + 1) = ((i + 1 : Nat) : Int) := wrap_nat i (by omega)
    rw [List.drop_eq_getElem_cons h1] at hg ⊢
    simp only [fl.sm.sv] at hg ⊢
    have hih := ih (i + 1) n (fadd .f32 s zs[i].1) (fadd .f32 t zs[i].2) (by omega) (by omega) hg
    rw [round]
    simp -implicitDefEqProofs only [h1, h4, h5, wi, gc_eq h1, Int.toNat_natCast, decide_true, decide_false, Bool.and_self, Bool.or_self, Bool.and_true, Bool.true_and, Bool.and_false, Bool.false_and, Bool.or_true, Bool.true_or, Bool.or_false, Bool.false_or, Bool.not_true, Bool.not_false, cond_true, cond_false]
    exact hih
theorem run : ∀ args v new, R args = some (true, v, new) → ∃ fuel, runFn Try.prog (orc [⟨65, areLong.R⟩, ⟨66, hasNfx.R⟩, ⟨68, IsFiniteComplex.R⟩]) hd Dr.std none fuel (bodyOf Try.f29) 47 [2, 3] args [] = some (v, new) := by
  intro args v new h
  unfold R at h
  split at h
  · rename_i zs m
    simp only [Option.some.injEq, Prod.mk.injEq, decide_eq_true_eq, Bool.and_eq_true] at h
    obtain ⟨⟨⟨rfl, h1, h2⟩, h3⟩, rfl, rfl⟩ := h
    obtain ⟨F, hF⟩ : ∃ F : Nat, F = 2000 := ⟨2000, rfl⟩
    refine ⟨F, ?_⟩
    obtain ⟨q1, q2⟩ := fl.mean_ok h3 h1 h2
    have hfc : fcx.sp (fl.mean.sv zs) = true := by
      unfold fcx.sp
      rw [fl.flo_fin q1.1, fl.flo_fin q2.1]; rfl
    have hl := loop zs F (by omega) zs.length 0 F 0 0 (by omega) (by omega) (by rw [List.drop_zero]; exact hfc)
    rw [List.drop_zero] at hl
    have c1 : (1 : Int) ≤ (zs.length : Int) := by omega
    have c2 : (zs.length : Int) ≤ 64 := by omega
    have c3 : zs.length ≤ 4611686018427387904 := by omega
    have hany : zs.any nfx.sp = false := by
      rw [List.any_eq_false]
      intro z hz
      rw [fl.mod_fcx (List.all_eq_true.1 h3 z hz)]; decide
    rw [start]
    simp -implicitDefEqProofs only [c1, c2, c3, hany, List.take_length, Nat.le_refl, and_self, eq_self, decide_true, decide_false, Bool.and_self, Bool.or_self, Bool.and_true, Bool.true_and, Bool.and_false, Bool.false_and, Bool.or_true, Bool.true_or, Bool.or_false, Bool.false_or, Bool.not_true, Bool.not_false, cond_true, cond_false]
    exact hl
  · cases h
theorem ok : EntOk Try.prog ⟨29, R⟩ :=
  ent_okA mixed (A := (orc [⟨65, areLong.R⟩, ⟨66, hasNfx.R⟩, ⟨68, IsFiniteComplex.R⟩])) (orc_ok (by simp only [List.mem_cons, List.not_mem_nil, or_false, forall_eq_or_imp, forall_eq]; exact ⟨areLong.ok, hasNfx.ok, IsFiniteComplex.ok⟩)) Try.func29 (by kernel_rfl) (by kernel_rfl) (n := 47) (ts := [2, 3]) (hd := hd) (dr := Dr.std) (cut := none) (by kernel_rfl) (by kernel_rfl) (by kernel_rfl) run
end MeanArrow



end Go.Proofs.Ytgblgofmdhekiaa.Ab
