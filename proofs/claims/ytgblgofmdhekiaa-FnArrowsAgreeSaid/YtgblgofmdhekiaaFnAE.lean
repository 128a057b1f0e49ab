/-
  Functions: lengths and angles of arrows, gaps, how wide turns lie.
-/
import Derived.Test.YtgblgofmdhekiaaFnML
import Derived.Test.YtgblgofmdhekiaaFnAU
import Derived.Test.YtgblgofmdhekiaaAbSqr
namespace Go.Proofs.Ytgblgofmdhekiaa.Ab
open Go
set_option linter.unusedVariables false
set_option linter.unusedSimpArgs false
set_option maxRecDepth 100000

namespace an
def pow.sv (a b : Nat) : Nat := fadd .f64 (fmul .f64 (fwid.sv a) (fwid.sv a)) (fmul .f64 (fwid.sv b) (fwid.sv b))
def long.ok.sp (a b : Nat) : Bool := sqr.ok.sp (pow.sv a b) && nar.ok.sp (sqr.sv (pow.sv a b))
def long.sv (a b : Nat) : Nat := nar.sv (sqr.sv (pow.sv a b))
/-- Half of the angle, three times. -/
def r.sv (t : Nat) : Nat := fadd .f64 4607182418800017408 (fmul .f64 t t)
def h.sv : Nat → Nat → Nat
  | 0, t => t
  | k + 1, t => h.sv k (fdiv .f64 t (fadd .f64 4607182418800017408 (sqr.sv (r.sv t))))
def hok.sp : Nat → Nat → Bool
  | 0, _ => true
  | k + 1, t => sqr.ok.sp (r.sv t) && hok.sp k (fdiv .f64 t (fadd .f64 4607182418800017408 (sqr.sv (r.sv t))))
def kq (n : Nat) : Nat := FloatKind.f64.nearest (2 * (n : Int) - 1)
def s.sv (u : Nat) : Nat → Nat → Nat
  | 0, p => p
  | k + 1, p => s.sv u k (fsub .f64 (fdiv .f64 4607182418800017408 (kq (k + 1))) (fmul .f64 u p))
theorem kq_facts : ∀ k, k < 9 → (FloatKind.f64.format.order (kq k) 4607182418800017408 == some Ordering.gt || FloatKind.f64.format.order (kq k) 4607182418800017408 == some Ordering.eq) = decide (1 ≤ k) ∧ (1 ≤ k → fsub .f64 (kq k) 4611686018427387904 = kq (k - 1)) := by decide +kernel
theorem kq8 : (4624633867356078080 : Nat) = kq 8 := by decide +kernel
def a.sv (y : Nat) : Nat := fl.abs.sv (fwid.sv y)
def gt.sp (a b : Nat) : Bool := FloatKind.f64.format.order a b == some Ordering.gt
def q.sv (a b : Nat) : Nat := bif gt.sp a b then fdiv .f64 b a else fdiv .f64 a b
def ser.sv (t : Nat) : Nat := fdiv .f64 (fmul .f64 4620693217682128896 (fmul .f64 t (s.sv (fmul .f64 t t) 8 0))) 4618760256179416344
def lt.sp (x : Nat) : Bool := FloatKind.f32.format.order x 0 == some Ordering.lt
def w1v (a b t : Nat) : Nat := bif gt.sp a b then fsub .f64 4598175219545276416 (ser.sv t) else ser.sv t
def w2v (a b x t : Nat) : Nat := bif lt.sp x then fsub .f64 4602678819172646912 (w1v a b t) else w1v a b t
def w3v (a b x y t : Nat) : Nat := bif lt.sp y then Op.negFloat .f64 (w2v a b x t) else w2v a b x t
def w3.sv (a b x y : Nat) : Nat := w3v a b x y (h.sv 3 (q.sv a b))
def null.sp (x : Nat) : Bool := FloatKind.f32.format.order x 0 == some Ordering.eq
def ang.sv (y x : Nat) : Nat := nar.sv (w3.sv (a.sv y) (a.sv x) x y)
def ang.ok.sp (y x : Nat) : Bool := (flo.fin.sp x && flo.fin.sp y) && (!(null.sp x && null.sp y) && ((fl.ok.sp (fwid.sv y) && fl.ok.sp (fwid.sv x)) && (hok.sp 3 (q.sv (a.sv y) (a.sv x)) && nar.ok.sp (w3.sv (a.sv y) (a.sv x) x y))))
end an

theorem isSqrt : IsBits Try.prog 93 Extern.MathSqrt.sqrt := ⟨⟨_, Try.func93, by kernel_rfl, by kernel_rfl, by kernel_rfl, by kernel_rfl⟩⟩
namespace mathSqrt
def R : List AVal → Option (Bool × AVal × List Blk)
  | [.flt .f64 x] => some (sqr.ok.sp x, .flt .f64 (sqr.sv x), [])
  | _ => none
theorem go (x : Nat) :
  runFn Try.prog (orcS 93) hd0 Dr.std none 0 (bodyOf Try.f69) 5 [2] [.flt .f64 x] []
  = (bif sqr.ok.sp x then some (AVal.flt FloatKind.f64 (sqr.sv x), []) else none) := by kernel_rfl
theorem run : ∀ args v new, R args = some (true, v, new) → ∃ fuel, runFn Try.prog (orcS 93) hd0 Dr.std none fuel (bodyOf Try.f69) 5 [2] args [] = some (v, new) := by
  intro args v new h
  unfold R at h
  split at h
  · rename_i x
    simp only [Option.some.injEq, Prod.mk.injEq] at h
    obtain ⟨h1, rfl, rfl⟩ := h
    refine ⟨0, ?_⟩
    rw [go, h1, cond_true]
  · cases h
theorem ok : EntOk Try.prog ⟨69, R⟩ :=
  ent_okA mixed (A := (orcS 93)) (orcS_ok isSqrt) Try.func69 (by kernel_rfl) (by kernel_rfl) (n := 5) (ts := [2]) (hd := hd0) (dr := Dr.std) (cut := none) (by kernel_rfl) (by kernel_rfl) (by kernel_rfl) run
end mathSqrt
namespace power
def R : List AVal → Option (Bool × AVal × List Blk)
  | [.cpx .f32 a b] => some (true, .flt .f64 (an.pow.sv a b), [])
  | _ => none
theorem go (a b : Nat) :
  runFn Try.prog (orc [⟨94, parts.R⟩]) hd0 Dr.std none 0 (bodyOf Try.f70) 17 [2] [.cpx .f32 a b] []
  = (bif true && (true && true || true && (true && true) && true) then some (AVal.flt FloatKind.f64 (fadd FloatKind.f64 (fmul FloatKind.f64 (fwid.sv a) (fwid.sv a)) (fmul FloatKind.f64 (fwid.sv b) (fwid.sv b))), []) else none) := by kernel_rfl
theorem run : ∀ args v new, R args = some (true, v, new) → ∃ fuel, runFn Try.prog (orc [⟨94, parts.R⟩]) hd0 Dr.std none fuel (bodyOf Try.f70) 17 [2] args [] = some (v, new) := by
  intro args v new h
  unfold R at h
  split at h
  · rename_i a b
    simp only [Option.some.injEq, Prod.mk.injEq] at h
    obtain ⟨h1, rfl, rfl⟩ := h
    refine ⟨0, ?_⟩
    rw [go]
    try rfl
  · cases h
theorem ok : EntOk Try.prog ⟨70, R⟩ :=
  ent_okA mixed (A := (orc [⟨94, parts.R⟩])) (orc_ok (by simp only [List.mem_cons, List.not_mem_nil, or_false, forall_eq_or_imp, forall_eq]; exact parts.ok)) Try.func70 (by kernel_rfl) (by kernel_rfl) (n := 17) (ts := [2]) (hd := hd0) (dr := Dr.std) (cut := none) (by kernel_rfl) (by kernel_rfl) (by kernel_rfl) run
end power

namespace LongOf
def R : List AVal → Option (Bool × AVal × List Blk)
  | [.cpx .f32 a b] => some (an.long.ok.sp a b, .flt .f32 (an.long.sv a b), [])
  | _ => none
theorem go (a b : Nat) :
  runFn Try.prog (orc [⟨70, power.R⟩, ⟨69, mathSqrt.R⟩]) hd0 Dr.std none 0 (bodyOf Try.f30) 7 [2] [.cpx .f32 a b] []
  = (bif true && (true && true || true && true) then bif sqr.ok.sp (an.pow.sv a b) && (true && true || true && true) then bif nar.ok.sp (sqr.sv (an.pow.sv a b)) then some (AVal.flt FloatKind.f32 (nar.sv (sqr.sv (an.pow.sv a b))), []) else none else none else none) := by kernel_rfl
theorem run : ∀ args v new, R args = some (true, v, new) → ∃ fuel, runFn Try.prog (orc [⟨70, power.R⟩, ⟨69, mathSqrt.R⟩]) hd0 Dr.std none fuel (bodyOf Try.f30) 7 [2] args [] = some (v, new) := by
  intro args v new h
  unfold R at h
  split at h
  · rename_i a b
    simp only [Option.some.injEq, Prod.mk.injEq, an.long.ok.sp, Bool.and_eq_true] at h
    obtain ⟨⟨h1, h2⟩, rfl, rfl⟩ := h
    refine ⟨0, ?_⟩
    rw [go]
    simp only [h1, h2, cond_true, Bool.and_self]
    rfl
  · cases h
theorem ok : EntOk Try.prog ⟨30, R⟩ :=
  ent_okA mixed (A := (orc [⟨70, power.R⟩, ⟨69, mathSqrt.R⟩])) (orc_ok (by simp only [List.mem_cons, List.not_mem_nil, or_false, forall_eq_or_imp, forall_eq]; exact ⟨power.ok, mathSqrt.ok⟩)) Try.func30 (by kernel_rfl) (by kernel_rfl) (n := 7) (ts := [2]) (hd := hd0) (dr := Dr.std) (cut := none) (by kernel_rfl) (by kernel_rfl) (by kernel_rfl) run
end LongOf

namespace AngleTurns
def R : List AVal → Option (Bool × AVal × List Blk)
  | [.flt .f32 y, .flt .f32 x] => some (an.ang.ok.sp y x, .flt .f32 (an.ang.sv y x), [])
  | _ => none
def hd : Nat → Head := fun i => bif eqN i 0 then ⟨[0, 1, 5, 6, 7, 43], none⟩ else ⟨[0, 1, 5, 6, 7, 8, 9, 10], none⟩
noncomputable def L0 (f n : Nat) (s : State) := loopAt Try.prog (orc [⟨50, iIsFinite.R⟩, ⟨89, mathAbs.R⟩, ⟨69, mathSqrt.R⟩]) hd Dr.std 0 f (bodyOf Try.f95) 0 [true, true, true, true, true, true, false, true] (retK Try.prog [4] 0 none) n s
noncomputable def L2 (f n : Nat) (s : State) := loopAt Try.prog (orc [⟨50, iIsFinite.R⟩, ⟨89, mathAbs.R⟩, ⟨69, mathSqrt.R⟩]) hd Dr.std 0 f (bodyOf Try.f95) 0 [true, true, true, true, true, true, true, true, true, false, true] (retK Try.prog [4] 0 none) n s
theorem start (y x : Nat) (f : Nat) :
  runFn Try.prog (orc [⟨50, iIsFinite.R⟩, ⟨89, mathAbs.R⟩, ⟨69, mathSqrt.R⟩]) hd Dr.std none f (bodyOf Try.f95) 87 [4] [.flt .f32 y, .flt .f32 x] []
  = (bif true && (true && true || true && true) then bif !flo.fin.sp x then none else bif true && (true && true || true && true) then bif !flo.fin.sp y then none else bif FloatKind.f32.format.order x (0 : Nat) == some Ordering.eq then bif FloatKind.f32.format.order y (0 : Nat) == some Ordering.eq then some (AVal.flt FloatKind.f32 (0 : Nat), []) else bif fl.ok.sp (fwid.sv y) && (true && true || true && true) then bif fl.ok.sp (fwid.sv x) && (true && true || true && true) then bif FloatKind.f64.format.order (fl.abs.sv (fwid.sv y)) (fl.abs.sv (fwid.sv x)) == some Ordering.gt then L0 f f (mkS (87 : Nat) [((0 : Nat), AVal.flt FloatKind.f32 y), ((1 : Nat), AVal.flt FloatKind.f32 x), ((5 : Nat), AVal.flt FloatKind.f64 (fl.abs.sv (fwid.sv y))), ((6 : Nat), AVal.flt FloatKind.f64 (fl.abs.sv (fwid.sv x))), ((7 : Nat), AVal.flt FloatKind.f64 (fdiv FloatKind.f64 (fl.abs.sv (fwid.sv x)) (fl.abs.sv (fwid.sv y)))), ((43 : Nat), AVal.int IntKind.i64 (0 : Int))] []) else L0 f f (mkS (87 : Nat) [((0 : Nat), AVal.flt FloatKind.f32 y), ((1 : Nat), AVal.flt FloatKind.f32 x), ((5 : Nat), AVal.flt FloatKind.f64 (fl.abs.sv (fwid.sv y))), ((6 : Nat), AVal.flt FloatKind.f64 (fl.abs.sv (fwid.sv x))), ((7 : Nat), AVal.flt FloatKind.f64 (fdiv FloatKind.f64 (fl.abs.sv (fwid.sv y)) (fl.abs.sv (fwid.sv x)))), ((43 : Nat), AVal.int IntKind.i64 (0 : Int))] []) else none else none else bif fl.ok.sp (fwid.sv y) && (true && true || true && true) then bif fl.ok.sp (fwid.sv x) && (true && true || true && true) then bif FloatKind.f64.format.order (fl.abs.sv (fwid.sv y)) (fl.abs.sv (fwid.sv x)) == some Ordering.gt then L0 f f (mkS (87 : Nat) [((0 : Nat), AVal.flt FloatKind.f32 y), ((1 : Nat), AVal.flt FloatKind.f32 x), ((5 : Nat), AVal.flt FloatKind.f64 (fl.abs.sv (fwid.sv y))), ((6 : Nat), AVal.flt FloatKind.f64 (fl.abs.sv (fwid.sv x))), ((7 : Nat), AVal.flt FloatKind.f64 (fdiv FloatKind.f64 (fl.abs.sv (fwid.sv x)) (fl.abs.sv (fwid.sv y)))), ((43 : Nat), AVal.int IntKind.i64 (0 : Int))] []) else L0 f f (mkS (87 : Nat) [((0 : Nat), AVal.flt FloatKind.f32 y), ((1 : Nat), AVal.flt FloatKind.f32 x), ((5 : Nat), AVal.flt FloatKind.f64 (fl.abs.sv (fwid.sv y))), ((6 : Nat), AVal.flt FloatKind.f64 (fl.abs.sv (fwid.sv x))), ((7 : Nat), AVal.flt FloatKind.f64 (fdiv FloatKind.f64 (fl.abs.sv (fwid.sv y)) (fl.abs.sv (fwid.sv x)))), ((43 : Nat), AVal.int IntKind.i64 (0 : Int))] []) else none else none else none else none) := by kernel_rfl
theorem round0 (y x a b t : Nat) (i : Int) (f n : Nat) :
  L0 f (n + 1) (mkS 87 [(0, .flt .f32 y), (1, .flt .f32 x), (5, .flt .f64 a), (6, .flt .f64 b), (7, .flt .f64 t), (43, .int .i64 i)] [])
  = (bif decide (i < (3 : Int)) then bif sqr.ok.sp (fadd FloatKind.f64 (4607182418800017408 : Nat) (fmul FloatKind.f64 t t)) && (true && true || true && true) then L0 f n (mkS (87 : Nat) [((0 : Nat), AVal.flt FloatKind.f32 y), ((1 : Nat), AVal.flt FloatKind.f32 x), ((5 : Nat), AVal.flt FloatKind.f64 a), ((6 : Nat), AVal.flt FloatKind.f64 b), ((7 : Nat), AVal.flt FloatKind.f64 (fdiv FloatKind.f64 t (fadd FloatKind.f64 (4607182418800017408 : Nat) (sqr.sv (fadd FloatKind.f64 (4607182418800017408 : Nat) (fmul FloatKind.f64 t t)))))), ((43 : Nat), AVal.int IntKind.i64 (IntKind.i64.wrap (i + (1 : Int))))] []) else none else L2 f f (mkS (87 : Nat) [((0 : Nat), AVal.flt FloatKind.f32 y), ((1 : Nat), AVal.flt FloatKind.f32 x), ((5 : Nat), AVal.flt FloatKind.f64 a), ((6 : Nat), AVal.flt FloatKind.f64 b), ((7 : Nat), AVal.flt FloatKind.f64 t), ((8 : Nat), AVal.flt FloatKind.f64 (fmul FloatKind.f64 t t)), ((9 : Nat), AVal.flt FloatKind.f64 (0 : Nat)), ((10 : Nat), AVal.flt FloatKind.f64 (4624633867356078080 : Nat))] [])) := by kernel_rfl
theorem round2 (y x a b t u p k : Nat) (f n : Nat) :
  L2 f (n + 1) (mkS 87 [(0, .flt .f32 y), (1, .flt .f32 x), (5, .flt .f64 a), (6, .flt .f64 b), (7, .flt .f64 t), (8, .flt .f64 u), (9, .flt .f64 p), (10, .flt .f64 k)] [])
  = (bif FloatKind.f64.format.order k (4607182418800017408 : Nat) == some Ordering.gt || FloatKind.f64.format.order k (4607182418800017408 : Nat) == some Ordering.eq then L2 f n (mkS (87 : Nat) [((0 : Nat), AVal.flt FloatKind.f32 y), ((1 : Nat), AVal.flt FloatKind.f32 x), ((5 : Nat), AVal.flt FloatKind.f64 a), ((6 : Nat), AVal.flt FloatKind.f64 b), ((7 : Nat), AVal.flt FloatKind.f64 t), ((8 : Nat), AVal.flt FloatKind.f64 u), ((9 : Nat), AVal.flt FloatKind.f64 (fsub FloatKind.f64 (fdiv FloatKind.f64 (4607182418800017408 : Nat) k) (fmul FloatKind.f64 u p))), ((10 : Nat), AVal.flt FloatKind.f64 (fsub FloatKind.f64 k (4611686018427387904 : Nat)))] []) else bif FloatKind.f64.format.order a b == some Ordering.gt then bif FloatKind.f32.format.order x (0 : Nat) == some Ordering.lt then bif FloatKind.f32.format.order y (0 : Nat) == some Ordering.lt then bif nar.ok.sp (Op.negFloat FloatKind.f64 (fsub FloatKind.f64 (4602678819172646912 : Nat) (fsub FloatKind.f64 (4598175219545276416 : Nat) (fdiv FloatKind.f64 (fmul FloatKind.f64 (4620693217682128896 : Nat) (fmul FloatKind.f64 t p)) (4618760256179416344 : Nat))))) then some (AVal.flt FloatKind.f32 (nar.sv (Op.negFloat FloatKind.f64 (fsub FloatKind.f64 (4602678819172646912 : Nat) (fsub FloatKind.f64 (4598175219545276416 : Nat) (fdiv FloatKind.f64 (fmul FloatKind.f64 (4620693217682128896 : Nat) (fmul FloatKind.f64 t p)) (4618760256179416344 : Nat)))))), []) else none else bif nar.ok.sp (fsub FloatKind.f64 (4602678819172646912 : Nat) (fsub FloatKind.f64 (4598175219545276416 : Nat) (fdiv FloatKind.f64 (fmul FloatKind.f64 (4620693217682128896 : Nat) (fmul FloatKind.f64 t p)) (4618760256179416344 : Nat)))) then some (AVal.flt FloatKind.f32 (nar.sv (fsub FloatKind.f64 (4602678819172646912 : Nat) (fsub FloatKind.f64 (4598175219545276416 : Nat) (fdiv FloatKind.f64 (fmul FloatKind.f64 (4620693217682128896 : Nat) (fmul FloatKind.f64 t p)) (4618760256179416344 : Nat))))), []) else none else bif FloatKind.f32.format.order y (0 : Nat) == some Ordering.lt then bif nar.ok.sp (Op.negFloat FloatKind.f64 (fsub FloatKind.f64 (4598175219545276416 : Nat) (fdiv FloatKind.f64 (fmul FloatKind.f64 (4620693217682128896 : Nat) (fmul FloatKind.f64 t p)) (4618760256179416344 : Nat)))) then some (AVal.flt FloatKind.f32 (nar.sv (Op.negFloat FloatKind.f64 (fsub FloatKind.f64 (4598175219545276416 : Nat) (fdiv FloatKind.f64 (fmul FloatKind.f64 (4620693217682128896 : Nat) (fmul FloatKind.f64 t p)) (4618760256179416344 : Nat))))), []) else none else bif nar.ok.sp (fsub FloatKind.f64 (4598175219545276416 : Nat) (fdiv FloatKind.f64 (fmul FloatKind.f64 (4620693217682128896 : Nat) (fmul FloatKind.f64 t p)) (4618760256179416344 : Nat))) then some (AVal.flt FloatKind.f32 (nar.sv (fsub FloatKind.f64 (4598175219545276416 : Nat) (fdiv FloatKind.f64 (fmul FloatKind.f64 (4620693217682128896 : Nat) (fmul FloatKind.f64 t p)) (4618760256179416344 : Nat)))), []) else none else bif FloatKind.f32.format.order x (0 : Nat) == some Ordering.lt then bif FloatKind.f32.format.order y (0 : Nat) == some Ordering.lt then bif nar.ok.sp (Op.negFloat FloatKind.f64 (fsub FloatKind.f64 (4602678819172646912 : Nat) (fdiv FloatKind.f64 (fmul FloatKind.f64 (4620693217682128896 : Nat) (fmul FloatKind.f64 t p)) (4618760256179416344 : Nat)))) then some (AVal.flt FloatKind.f32 (nar.sv (Op.negFloat FloatKind.f64 (fsub FloatKind.f64 (4602678819172646912 : Nat) (fdiv FloatKind.f64 (fmul FloatKind.f64 (4620693217682128896 : Nat) (fmul FloatKind.f64 t p)) (4618760256179416344 : Nat))))), []) else none else bif nar.ok.sp (fsub FloatKind.f64 (4602678819172646912 : Nat) (fdiv FloatKind.f64 (fmul FloatKind.f64 (4620693217682128896 : Nat) (fmul FloatKind.f64 t p)) (4618760256179416344 : Nat))) then some (AVal.flt FloatKind.f32 (nar.sv (fsub FloatKind.f64 (4602678819172646912 : Nat) (fdiv FloatKind.f64 (fmul FloatKind.f64 (4620693217682128896 : Nat) (fmul FloatKind.f64 t p)) (4618760256179416344 : Nat)))), []) else none else bif FloatKind.f32.format.order y (0 : Nat) == some Ordering.lt then bif nar.ok.sp (Op.negFloat FloatKind.f64 (fdiv FloatKind.f64 (fmul FloatKind.f64 (4620693217682128896 : Nat) (fmul FloatKind.f64 t p)) (4618760256179416344 : Nat))) then some (AVal.flt FloatKind.f32 (nar.sv (Op.negFloat FloatKind.f64 (fdiv FloatKind.f64 (fmul FloatKind.f64 (4620693217682128896 : Nat) (fmul FloatKind.f64 t p)) (4618760256179416344 : Nat)))), []) else none else bif nar.ok.sp (fdiv FloatKind.f64 (fmul FloatKind.f64 (4620693217682128896 : Nat) (fmul FloatKind.f64 t p)) (4618760256179416344 : Nat)) then some (AVal.flt FloatKind.f32 (nar.sv (fdiv FloatKind.f64 (fmul FloatKind.f64 (4620693217682128896 : Nat) (fmul FloatKind.f64 t p)) (4618760256179416344 : Nat))), []) else none) := by kernel_rfl
theorem loop2 (y x a b t f : Nat) (hn : nar.ok.sp (an.w3v a b x y t) = true) : ∀ (k n p : Nat), k ≤ 8 → k < n → an.s.sv (fmul .f64 t t) k p = an.s.sv (fmul .f64 t t) 8 0 →
    L2 f n (mkS 87 [(0, .flt .f32 y), (1, .flt .f32 x), (5, .flt .f64 a), (6, .flt .f64 b), (7, .flt .f64 t), (8, .flt .f64 (fmul .f64 t t)), (9, .flt .f64 p), (10, .flt .f64 (an.kq k))] []) = some (.flt .f32 (nar.sv (an.w3v a b x y t)), []) := by
  unfold an.w3v an.w2v an.w1v an.ser.sv an.lt.sp an.gt.sp at *
  generalize fmul .f64 t t = u at *
  generalize hG : an.s.sv u 8 0 = G at *
  intro k
  induction k with
  | zero =>
    intro n p hk hn' hp
    obtain ⟨n, rfl⟩ : ∃ q, n = q + 1 := ⟨n - 1, by omega⟩
    have hg := (an.kq_facts 0 (by omega)).1
    obtain rfl : p = G := hp
    clear hG
    rw [round2]
    simp -implicitDefEqProofs only [hg, Nat.not_succ_le_zero, decide_false, cond_false]
    revert hn
    cases FloatKind.f64.format.order a b == some Ordering.gt <;> cases FloatKind.f32.format.order x 0 == some Ordering.lt <;> cases FloatKind.f32.format.order y 0 == some Ordering.lt <;> (intro hn; simp -implicitDefEqProofs only [cond_true, cond_false] at hn; simp -implicitDefEqProofs only [hn, cond_true, cond_false, Bool.and_self, Bool.and_true, Bool.true_and]; try rfl)
  | succ k ih =>
    intro n p hk hn' hp
    obtain ⟨n, rfl⟩ : ∃ q, n = q + 1 := ⟨n - 1, by omega⟩
    obtain ⟨hg, hf⟩ := an.kq_facts (k + 1) (by omega)
    have hf := hf (by omega)
    rw [Nat.add_sub_cancel] at hf
    have h1 : 1 ≤ k + 1 := by omega
    have g := ih n _ (by omega) (by omega) hp
    rw [round2]
    simp -implicitDefEqProofs only [hg, hf, h1, decide_true, cond_true]
    exact g
theorem loop0 (y x a b f : Nat) : ∀ (d i n t : Nat), i + d = 3 → d < n → an.hok.sp d t = true →
    L0 f n (mkS 87 [(0, .flt .f32 y), (1, .flt .f32 x), (5, .flt .f64 a), (6, .flt .f64 b), (7, .flt .f64 t), (43, .int .i64 (i : Int))] []) = L2 f f (mkS 87 [(0, .flt .f32 y), (1, .flt .f32 x), (5, .flt .f64 a), (6, .flt .f64 b), (7, .flt .f64 (an.h.sv d t)), (8, .flt .f64 (fmul .f64 (an.h.sv d t) (an.h.sv d t))), (9, .flt .f64 0), (10, .flt .f64 (an.kq 8))] []) := by
  intro d
  induction d with
  | zero =>
    intro i n t hi hn h
    obtain ⟨n, rfl⟩ : ∃ q, n = q + 1 := ⟨n - 1, by omega⟩
    obtain rfl : i = 3 := by omega
    rw [round0]
    simp -implicitDefEqProofs (disch := omega) only [take_one, set_one, decide_eq_true, decide_eq_false, IntWalk.i64_in, beqT, beqF, bneT, bneF, nat_succ, ← Int.natCast_mul, ← Int.natCast_add, Int.toNat_natCast, Int.zero_mul, Int.zero_add, Int.add_zero, Nat.zero_add, Nat.add_zero, Nat.zero_mul, List.length_singleton, List.length_append, List.length_nil, List.length_cons, List.take_length, List.drop_zero, List.replicate_zero, List.take_nil, List.nil_append, Nat.reduceBEq, Nat.reduceMul, Nat.reduceLeDiff, eq_self, and_self, true_and, and_true, decide_true, decide_false, Bool.and_self, Bool.or_self, Bool.and_true, Bool.true_and, Bool.and_false, Bool.false_and, Bool.or_true, Bool.true_or, Bool.or_false, Bool.false_or, Bool.not_true, Bool.not_false, cond_true, cond_false]
    rw [an.kq8]; rfl
  | succ d ih =>
    intro i n t hi hn h
    obtain ⟨n, rfl⟩ : ∃ q, n = q + 1 := ⟨n - 1, by omega⟩
    rw [an.hok.sp, Bool.and_eq_true] at h
    have g := ih (i + 1) n _ (by omega) (by omega) h.2
    have h1 := h.1
    unfold an.r.sv at *
    rw [round0]
    simp -implicitDefEqProofs (disch := omega) only [h1, take_one, set_one, decide_eq_true, decide_eq_false, IntWalk.i64_in, beqT, beqF, bneT, bneF, nat_succ, ← Int.natCast_mul, ← Int.natCast_add, Int.toNat_natCast, Int.zero_mul, Int.zero_add, Int.add_zero, Nat.zero_add, Nat.add_zero, Nat.zero_mul, List.length_singleton, List.length_append, List.length_nil, List.length_cons, List.take_length, List.drop_zero, List.replicate_zero, List.take_nil, List.nil_append, Nat.reduceBEq, Nat.reduceMul, Nat.reduceLeDiff, eq_self, and_self, true_and, and_true, decide_true, decide_false, Bool.and_self, Bool.or_self, Bool.and_true, Bool.true_and, Bool.and_false, Bool.false_and, Bool.or_true, Bool.true_or, Bool.or_false, Bool.false_or, Bool.not_true, Bool.not_false, cond_true, cond_false]
    exact g
theorem run : ∀ args v new, R args = some (true, v, new) → ∃ fuel, runFn Try.prog (orc [⟨50, iIsFinite.R⟩, ⟨89, mathAbs.R⟩, ⟨69, mathSqrt.R⟩]) hd Dr.std none fuel (bodyOf Try.f95) 87 [4] args [] = some (v, new) := by
  intro args v new h
  unfold R at h
  split at h
  · rename_i y x
    simp only [Option.some.injEq, Prod.mk.injEq, an.ang.ok.sp, Bool.and_eq_true, Bool.not_eq_true'] at h
    obtain ⟨⟨⟨h1, h2⟩, h3, ⟨h4, h5⟩, h6, h7⟩, rfl, rfl⟩ := h
    obtain ⟨F, hF⟩ : ∃ F : Nat, F = 100 := ⟨100, rfl⟩
    refine ⟨F + 1, ?_⟩
    unfold an.null.sp at h3
    unfold an.ang.sv an.w3.sv
    unfold an.w3.sv at h7
    rw [start]
    unfold an.a.sv an.q.sv an.gt.sp at *
    simp -implicitDefEqProofs (disch := omega) only [h1, h2, h4, h5, take_one, set_one, decide_eq_true, decide_eq_false, IntWalk.i64_in, beqT, beqF, bneT, bneF, nat_succ, ← Int.natCast_mul, ← Int.natCast_add, Int.toNat_natCast, Int.zero_mul, Int.zero_add, Int.add_zero, Nat.zero_add, Nat.add_zero, Nat.zero_mul, List.length_singleton, List.length_append, List.length_nil, List.length_cons, List.take_length, List.drop_zero, List.replicate_zero, List.take_nil, List.nil_append, Nat.reduceBEq, Nat.reduceMul, Nat.reduceLeDiff, eq_self, and_self, true_and, and_true, decide_true, decide_false, Bool.and_self, Bool.or_self, Bool.and_true, Bool.true_and, Bool.and_false, Bool.false_and, Bool.or_true, Bool.true_or, Bool.or_false, Bool.false_or, Bool.not_true, Bool.not_false, cond_true, cond_false]
    have key : ∀ t, an.hok.sp 3 t = true → nar.ok.sp (an.w3v (fl.abs.sv (fwid.sv y)) (fl.abs.sv (fwid.sv x)) x y (an.h.sv 3 t)) = true → L0 (F + 1) (F + 1) (mkS 87 [(0, .flt .f32 y), (1, .flt .f32 x), (5, .flt .f64 (fl.abs.sv (fwid.sv y))), (6, .flt .f64 (fl.abs.sv (fwid.sv x))), (7, .flt .f64 t), (43, .int .i64 0)] []) = some (.flt .f32 (nar.sv (an.w3v (fl.abs.sv (fwid.sv y)) (fl.abs.sv (fwid.sv x)) x y (an.h.sv 3 t))), []) := by
      intro t k1 k2
      have e := loop0 y x (fl.abs.sv (fwid.sv y)) (fl.abs.sv (fwid.sv x)) (F + 1) 3 0 (F + 1) t (by omega) (by omega) k1
      rw [show ((0 : Nat) : Int) = 0 from rfl] at e
      rw [e]
      exact loop2 y x _ _ (an.h.sv 3 t) (F + 1) k2 8 (F + 1) 0 (by omega) (by omega) rfl
    cases hg : FloatKind.f64.format.order (fl.abs.sv (fwid.sv y)) (fl.abs.sv (fwid.sv x)) == some Ordering.gt
    · rw [hg, cond_false] at h6 h7
      have k := key _ h6 h7
      cases hx : (FloatKind.f32.format.order x 0 == some Ordering.eq)
      · simp -implicitDefEqProofs only [cond_false]; exact k
      · rw [hx, Bool.true_and] at h3
        simp -implicitDefEqProofs only [h3, cond_true, cond_false]; exact k
    · rw [hg, cond_true] at h6 h7
      have k := key _ h6 h7
      cases hx : (FloatKind.f32.format.order x 0 == some Ordering.eq)
      · simp -implicitDefEqProofs only [cond_false, cond_true]; exact k
      · rw [hx, Bool.true_and] at h3
        simp -implicitDefEqProofs only [h3, cond_true, cond_false]; exact k
  · cases h
theorem ok : EntOk Try.prog ⟨95, R⟩ :=
  ent_okA mixed (A := (orc [⟨50, iIsFinite.R⟩, ⟨89, mathAbs.R⟩, ⟨69, mathSqrt.R⟩])) (orc_ok (by simp only [List.mem_cons, List.not_mem_nil, or_false, forall_eq_or_imp, forall_eq]; exact ⟨iIsFinite.ok, mathAbs.ok, mathSqrt.ok⟩)) Try.func95 (by kernel_rfl) (by kernel_rfl) (n := 87) (ts := [4]) (hd := hd) (dr := Dr.std) (cut := none) (by kernel_rfl) (by kernel_rfl) (by kernel_rfl) run
end AngleTurns

namespace AngleOf
def R : List AVal → Option (Bool × AVal × List Blk)
  | [.cpx .f32 a b] => some (an.ang.ok.sp b a, .flt .f32 (an.ang.sv b a), [])
  | _ => none
theorem go (a b : Nat) :
  runFn Try.prog (orc [⟨95, AngleTurns.R⟩]) hd0 Dr.std none 0 (bodyOf Try.f71) 8 [2] [.cpx .f32 a b] []
  = (bif an.ang.ok.sp b a && (true && (true && true) || true && true) then some (AVal.flt FloatKind.f32 (an.ang.sv b a), []) else none) := by kernel_rfl
theorem run : ∀ args v new, R args = some (true, v, new) → ∃ fuel, runFn Try.prog (orc [⟨95, AngleTurns.R⟩]) hd0 Dr.std none fuel (bodyOf Try.f71) 8 [2] args [] = some (v, new) := by
  intro args v new h
  unfold R at h
  split at h
  · rename_i a b
    simp only [Option.some.injEq, Prod.mk.injEq] at h
    obtain ⟨h1, rfl, rfl⟩ := h
    refine ⟨0, ?_⟩
    rw [go]
    simp -implicitDefEqProofs (disch := omega) only [h1, take_one, set_one, decide_eq_true, decide_eq_false, IntWalk.i64_in, beqT, beqF, bneT, bneF, nat_succ, ← Int.natCast_mul, ← Int.natCast_add, Int.toNat_natCast, Int.zero_mul, Int.zero_add, Int.add_zero, Nat.zero_add, Nat.add_zero, Nat.zero_mul, List.length_singleton, List.length_append, List.length_nil, List.length_cons, List.take_length, List.drop_zero, List.replicate_zero, List.take_nil, List.nil_append, Nat.reduceBEq, Nat.reduceMul, Nat.reduceLeDiff, eq_self, and_self, true_and, and_true, decide_true, decide_false, Bool.and_self, Bool.or_self, Bool.and_true, Bool.true_and, Bool.and_false, Bool.false_and, Bool.or_true, Bool.true_or, Bool.or_false, Bool.false_or, Bool.not_true, Bool.not_false, cond_true, cond_false]
  · cases h
theorem ok : EntOk Try.prog ⟨71, R⟩ :=
  ent_okA mixed (A := (orc [⟨95, AngleTurns.R⟩])) (orc_ok (by simp only [List.mem_cons, List.not_mem_nil, or_false, forall_eq_or_imp, forall_eq]; exact AngleTurns.ok)) Try.func71 (by kernel_rfl) (by kernel_rfl) (n := 8) (ts := [2]) (hd := hd0) (dr := Dr.std) (cut := none) (by kernel_rfl) (by kernel_rfl) (by kernel_rfl) run
end AngleOf

namespace TurnOfMean
def R : List AVal → Option (Bool × AVal × List Blk)
  | [.ro (.cpxs .f32 zs) m 1] => some ((decide (m = zs.length ∧ 1 ≤ m ∧ m ≤ 64) && zs.all fl.modc.sp) && (an.ang.ok.sp (fl.mean.sv zs).2 (fl.mean.sv zs).1 && flo.fin.sp (an.ang.sv (fl.mean.sv zs).2 (fl.mean.sv zs).1)), .tup [.flt .f32 (an.ang.sv (fl.mean.sv zs).2 (fl.mean.sv zs).1), .bool true], [])
  | _ => none
theorem go (zs : List (Nat × Nat)) (m : Nat) :
  runFn Try.prog (orc [⟨29, MeanArrow.R⟩, ⟨71, AngleOf.R⟩, ⟨50, iIsFinite.R⟩]) hd0 Dr.std none 0 (bodyOf Try.f31) 24 [2, 3] [.ro (.cpxs .f32 zs) m 1] []
  = (bif decide (m = zs.length ∧ (1 : Nat) ≤ m ∧ m ≤ (64 : Nat)) && zs.all fl.modc.sp && (true && true || true && true && true) then bif FloatKind.f32.format.order (fl.mean.sv zs).1 (0 : Nat) == some Ordering.eq && FloatKind.f32.format.order (fl.mean.sv zs).2 (0 : Nat) == some Ordering.eq then some (AVal.tup [AVal.flt FloatKind.f32 (0 : Nat), AVal.bool false], []) else bif an.ang.ok.sp (fl.mean.sv zs).2 (fl.mean.sv zs).1 && (true && true || true && true) then bif true && (true && true || true && true) then bif !flo.fin.sp (an.ang.sv (fl.mean.sv zs).2 (fl.mean.sv zs).1) then some (AVal.tup [AVal.flt FloatKind.f32 (0 : Nat), AVal.bool false], []) else some (AVal.tup [AVal.flt FloatKind.f32 (an.ang.sv (fl.mean.sv zs).2 (fl.mean.sv zs).1), AVal.bool true], []) else none else none else none) := by kernel_rfl
theorem run : ∀ args v new, R args = some (true, v, new) → ∃ fuel, runFn Try.prog (orc [⟨29, MeanArrow.R⟩, ⟨71, AngleOf.R⟩, ⟨50, iIsFinite.R⟩]) hd0 Dr.std none fuel (bodyOf Try.f31) 24 [2, 3] args [] = some (v, new) := by
  intro args v new h
  unfold R at h
  split at h
  · rename_i zs m
    simp only [Option.some.injEq, Prod.mk.injEq, Bool.and_eq_true] at h
    obtain ⟨⟨⟨h1, h2⟩, h3, h4⟩, rfl, rfl⟩ := h
    refine ⟨0, ?_⟩
    rw [go]
    have h3' := h3
    simp only [an.ang.ok.sp, Bool.and_eq_true, Bool.not_eq_true'] at h3'
    have h5 := h3'.2.1
    unfold an.null.sp at h5
    simp -implicitDefEqProofs (disch := omega) only [h1, h2, h3, h4, h5, take_one, set_one, decide_eq_true, decide_eq_false, IntWalk.i64_in, beqT, beqF, bneT, bneF, nat_succ, ← Int.natCast_mul, ← Int.natCast_add, Int.toNat_natCast, Int.zero_mul, Int.zero_add, Int.add_zero, Nat.zero_add, Nat.add_zero, Nat.zero_mul, List.length_singleton, List.length_append, List.length_nil, List.length_cons, List.take_length, List.drop_zero, List.replicate_zero, List.take_nil, List.nil_append, Nat.reduceBEq, Nat.reduceMul, Nat.reduceLeDiff, eq_self, and_self, true_and, and_true, decide_true, decide_false, Bool.and_self, Bool.or_self, Bool.and_true, Bool.true_and, Bool.and_false, Bool.false_and, Bool.or_true, Bool.true_or, Bool.or_false, Bool.false_or, Bool.not_true, Bool.not_false, cond_true, cond_false]
  · cases h
theorem ok : EntOk Try.prog ⟨31, R⟩ :=
  ent_okA mixed (A := (orc [⟨29, MeanArrow.R⟩, ⟨71, AngleOf.R⟩, ⟨50, iIsFinite.R⟩])) (orc_ok (by simp only [List.mem_cons, List.not_mem_nil, or_false, forall_eq_or_imp, forall_eq]; exact ⟨MeanArrow.ok, AngleOf.ok, iIsFinite.ok⟩)) Try.func31 (by kernel_rfl) (by kernel_rfl) (n := 24) (ts := [2, 3]) (hd := hd0) (dr := Dr.std) (cut := none) (by kernel_rfl) (by kernel_rfl) (by kernel_rfl) run
end TurnOfMean

namespace r8Gap
def R : List AVal → Option (Bool × AVal × List Blk)
  | [.flt .f64 a, .flt .f64 b] => some (ord.sp .f64 (fsub .f64 a b) (fsub .f64 b a), .flt .f64 (fmax.sv .f64 (fsub .f64 a b) (fsub .f64 b a)), [])
  | _ => none
theorem go (a b : Nat) :
  runFn Try.prog (orc []) hd0 Dr.std none 0 (bodyOf Try.f26) 12 [4] [.flt .f64 a, .flt .f64 b] []
  = (bif true && ord.sp FloatKind.f64 (fsub FloatKind.f64 a b) (fsub FloatKind.f64 b a) then some (AVal.flt FloatKind.f64 (fmax.sv FloatKind.f64 (fsub FloatKind.f64 a b) (fsub FloatKind.f64 b a)), []) else none) := by kernel_rfl
theorem run : ∀ args v new, R args = some (true, v, new) → ∃ fuel, runFn Try.prog (orc []) hd0 Dr.std none fuel (bodyOf Try.f26) 12 [4] args [] = some (v, new) := by
  intro args v new h
  unfold R at h
  split at h
  · rename_i a b
    simp only [Option.some.injEq, Prod.mk.injEq] at h
    obtain ⟨h1, rfl, rfl⟩ := h
    refine ⟨0, ?_⟩
    rw [go]
    simp only [h1, Bool.and_self, Bool.and_true, Bool.true_and, cond_true]
  · cases h
theorem ok : EntOk Try.prog ⟨26, R⟩ :=
  ent_okA mixed (A := (orc [])) (orc_ok (by simp)) Try.func26 (by kernel_rfl) (by kernel_rfl) (n := 12) (ts := [4]) (hd := hd0) (dr := Dr.std) (cut := none) (by kernel_rfl) (by kernel_rfl) (by kernel_rfl) run
end r8Gap

namespace wd
/-- The least and the greatest of turns. -/
def lo.sv : List Nat → Nat → Nat
  | [], l => l
  | x :: r, l => lo.sv r (fmin.sv .f64 l (fwid.sv x))
def hi.sv : List Nat → Nat → Nat
  | [], l => l
  | x :: r, l => hi.sv r (fmax.sv .f64 l (fwid.sv x))
def oks.sp : List Nat → Nat → Nat → Bool
  | [], _, _ => true
  | x :: r, l, h => (ord.sp .f64 l (fwid.sv x) && ord.sp .f64 h (fwid.sv x)) && oks.sp r (fmin.sv .f64 l (fwid.sv x)) (fmax.sv .f64 h (fwid.sv x))
def g (xs : List Nat) : Nat := fwid.sv (gn xs 0)
def w.sv (xs : List Nat) : Nat := fsub .f64 (hi.sv (xs.drop 1) (g xs)) (lo.sv (xs.drop 1) (g xs))
def w.ok.sp (xs : List Nat) : Bool := oks.sp (xs.drop 1) (g xs) (g xs)
end wd
namespace r8Wide
def R : List AVal → Option (Bool × AVal × List Blk)
  | [.ro (.flts .f32 xs) m 1] => some (decide (m = xs.length ∧ 1 ≤ m ∧ m ≤ 64) && wd.w.ok.sp xs, .flt .f64 (wd.w.sv xs), [])
  | _ => none
def hd : Nat → Head := fun _ => ⟨[0, 3, 4, 5], none⟩
noncomputable def L (f n : Nat) (s : State) := loopAt Try.prog (orc []) hd Dr.std 0 f (bodyOf Try.f34) 0 [true, true, true, false, true] (retK Try.prog [2] 0 none) n s
theorem start (xs : List Nat) (f : Nat) :
  runFn Try.prog (orc []) hd Dr.std none f (bodyOf Try.f34) 34 [2] [.ro (.flts .f32 xs) xs.length 1] []
  = (bif decide ((0 : Int) < (↑xs.length : Int)) then bif decide ((0 : Nat) < xs.length) then L f f (mkS (34 : Nat) [((0 : Nat), AVal.ro (Cont.flts FloatKind.f32 xs) xs.length (1 : Nat)), ((3 : Nat), AVal.flt FloatKind.f64 (fwid.sv (gn xs (0 : Nat)))), ((4 : Nat), AVal.flt FloatKind.f64 (fwid.sv (gn xs (0 : Nat)))), ((5 : Nat), AVal.int IntKind.i64 (1 : Int))] []) else none else none) := by kernel_rfl
theorem round (xs : List Nat) (l h : Nat) (i : Int) (f n : Nat) :
  L f (n + 1) (mkS 34 [(0, .ro (.flts .f32 xs) xs.length 1), (3, .flt .f64 l), (4, .flt .f64 h), (5, .int .i64 i)] [])
  = (bif decide (i < (↑xs.length : Int)) then bif true && (decide ((0 : Int) ≤ i) && decide (i < (↑xs.length : Int))) then bif decide (i.toNat < xs.length) then bif true && ord.sp FloatKind.f64 l (fwid.sv (gn xs i.toNat)) then bif true && (decide ((0 : Int) ≤ i) && decide (i < (↑xs.length : Int))) then bif decide (i.toNat < xs.length) then bif true && ord.sp FloatKind.f64 h (fwid.sv (gn xs i.toNat)) then L f n (mkS (34 : Nat) [((0 : Nat), AVal.ro (Cont.flts FloatKind.f32 xs) xs.length (1 : Nat)), ((3 : Nat), AVal.flt FloatKind.f64 (fmin.sv FloatKind.f64 l (fwid.sv (gn xs i.toNat)))), ((4 : Nat), AVal.flt FloatKind.f64 (fmax.sv FloatKind.f64 h (fwid.sv (gn xs i.toNat)))), ((5 : Nat), AVal.int IntKind.i64 (IntKind.i64.wrap (i + (1 : Int))))] []) else none else none else none else none else none else none else some (AVal.flt FloatKind.f64 (fsub FloatKind.f64 h l), [])) := by kernel_rfl
theorem loop (xs : List Nat) (f : Nat) (hx : xs.length ≤ 64) : ∀ (d i n l h : Nat), i + d = xs.length → d < n → wd.oks.sp (xs.drop i) l h = true →
    L f n (mkS 34 [(0, .ro (.flts .f32 xs) xs.length 1), (3, .flt .f64 l), (4, .flt .f64 h), (5, .int .i64 (i : Int))] []) = some (.flt .f64 (fsub .f64 (wd.hi.sv (xs.drop i) h) (wd.lo.sv (xs.drop i) l)), []) := by
  intro d
  induction d with
  | zero =>
    intro i n l h hi hn hk
    obtain ⟨n, rfl⟩ : ∃ q, n = q + 1 := ⟨n - 1, by omega⟩
    rw [round]
    have e : xs.drop i = [] := List.drop_eq_nil_of_le (by omega)
    rw [e]
    simp -implicitDefEqProofs (disch := omega) only [take_one, set_one, decide_eq_true, decide_eq_false, IntWalk.i64_in, beqT, beqF, bneT, bneF, nat_succ, ← Int.natCast_mul, ← Int.natCast_add, Int.toNat_natCast, Int.zero_mul, Int.zero_add, Int.add_zero, Nat.zero_add, Nat.add_zero, Nat.zero_mul, List.length_singleton, List.length_append, List.length_nil, List.length_cons, List.take_length, List.drop_zero, List.replicate_zero, List.take_nil, List.nil_append, Nat.reduceBEq, Nat.reduceMul, Nat.reduceLeDiff, eq_self, and_self, true_and, and_true, decide_true, decide_false, Bool.and_self, Bool.or_self, Bool.and_true, Bool.true_and, Bool.and_false, Bool.false_and, Bool.or_true, Bool.true_or, Bool.or_false, Bool.false_or, Bool.not_true, Bool.not_false, cond_true, cond_false]
    rfl
  | succ d ih =>
    intro i n l h hi hn hk
    obtain ⟨n, rfl⟩ : ∃ q, n = q + 1 := ⟨n - 1, by omega⟩
    have e : xs.drop i = gn xs i :: xs.drop (i + 1) := by
      rw [List.drop_eq_getElem_cons (by omega)]
      congr 1
      unfold gn; simp [List.getD_eq_getElem?_getD, List.getElem?_eq_getElem (show i < xs.length by omega)]
    rw [e, wd.oks.sp, Bool.and_eq_true, Bool.and_eq_true] at hk
    obtain ⟨⟨k1, k2⟩, k3⟩ := hk
    have g := ih (i + 1) n _ _ (by omega) (by omega) k3
    rw [round, e, wd.lo.sv, wd.hi.sv]
    simp -implicitDefEqProofs (disch := omega) only [k1, k2, take_one, set_one, decide_eq_true, decide_eq_false, IntWalk.i64_in, beqT, beqF, bneT, bneF, nat_succ, ← Int.natCast_mul, ← Int.natCast_add, Int.toNat_natCast, Int.zero_mul, Int.zero_add, Int.add_zero, Nat.zero_add, Nat.add_zero, Nat.zero_mul, List.length_singleton, List.length_append, List.length_nil, List.length_cons, List.take_length, List.drop_zero, List.replicate_zero, List.take_nil, List.nil_append, Nat.reduceBEq, Nat.reduceMul, Nat.reduceLeDiff, eq_self, and_self, true_and, and_true, decide_true, decide_false, Bool.and_self, Bool.or_self, Bool.and_true, Bool.true_and, Bool.and_false, Bool.false_and, Bool.or_true, Bool.true_or, Bool.or_false, Bool.false_or, Bool.not_true, Bool.not_false, cond_true, cond_false]
    exact g
theorem run : ∀ args v new, R args = some (true, v, new) → ∃ fuel, runFn Try.prog (orc []) hd Dr.std none fuel (bodyOf Try.f34) 34 [2] args [] = some (v, new) := by
  intro args v new h
  unfold R at h
  split at h
  · rename_i xs m
    simp only [Option.some.injEq, Prod.mk.injEq, Bool.and_eq_true, decide_eq_true_eq] at h
    obtain ⟨⟨⟨rfl, h1, h2⟩, h3⟩, rfl, rfl⟩ := h
    obtain ⟨F, hF⟩ : ∃ F : Nat, F = 100 := ⟨100, rfl⟩
    refine ⟨F, ?_⟩
    have g := loop xs F h2 (xs.length - 1) 1 F _ _ (by omega) (by omega) h3
    rw [start]
    simp -implicitDefEqProofs (disch := omega) only [take_one, set_one, decide_eq_true, decide_eq_false, IntWalk.i64_in, beqT, beqF, bneT, bneF, nat_succ, ← Int.natCast_mul, ← Int.natCast_add, Int.toNat_natCast, Int.zero_mul, Int.zero_add, Int.add_zero, Nat.zero_add, Nat.add_zero, Nat.zero_mul, List.length_singleton, List.length_append, List.length_nil, List.length_cons, List.take_length, List.drop_zero, List.replicate_zero, List.take_nil, List.nil_append, Nat.reduceBEq, Nat.reduceMul, Nat.reduceLeDiff, eq_self, and_self, true_and, and_true, decide_true, decide_false, Bool.and_self, Bool.or_self, Bool.and_true, Bool.true_and, Bool.and_false, Bool.false_and, Bool.or_true, Bool.true_or, Bool.or_false, Bool.false_or, Bool.not_true, Bool.not_false, cond_true, cond_false]
    exact g
  · cases h
theorem ok : EntOk Try.prog ⟨34, R⟩ :=
  ent_okA mixed (A := (orc [])) (orc_ok (by simp)) Try.func34 (by kernel_rfl) (by kernel_rfl) (n := 34) (ts := [2]) (hd := hd) (dr := Dr.std) (cut := none) (by kernel_rfl) (by kernel_rfl) (by kernel_rfl) run
end r8Wide

end Go.Proofs.Ytgblgofmdhekiaa.Ab
