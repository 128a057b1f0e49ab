/-
  Functions: the angle of a point, the sine.
-/
import Derived.Test.YtjhofofieiiplaaGreatDoorFnME
import Derived.Test.YtjhofofieiiplaaGreatDoorFnNa
import Derived.Test.YtjhofofieiiplaaGreatDoorFnL
import Derived.Test.YtjhofofieiiplaaGreatDoorAbSqr
namespace Go.Proofs.YtjhofofieiiplaaGreatDoor.Ab
open Go
set_option linter.unusedVariables false
set_option linter.unusedSimpArgs false
set_option maxRecDepth 100000

namespace an
/-- Half of the angle, three times. -/
def r.sv (t : Nat) : Nat := fadd .f64 4607182418800017408 (fmul .f64 t t)
def h.sv : Nat → Nat → Nat
  | 0, t => t
  | k + 1, t => h.sv k (fdiv .f64 t (fadd .f64 4607182418800017408 (sqr.sv (r.sv t))))
def hok.sp : Nat → Nat → Bool
  | 0, _ => true
  | k + 1, t => sqr.ok.sp (r.sv t) && hok.sp k (fdiv .f64 t (fadd .f64 4607182418800017408 (sqr.sv (r.sv t))))
def kq (n : Nat) : Nat := FloatKind.f64.nearest (2 * (n : Int) - 1)
def s.sv (u : Nat) : Nat → Nat → Nat
  | 0, p => p
  | k + 1, p => s.sv u k (fsub .f64 (fdiv .f64 4607182418800017408 (kq (k + 1))) (fmul .f64 u p))
theorem kq_facts : ∀ k, k < 9 → (FloatKind.f64.format.order (kq k) 4607182418800017408 == some Ordering.gt || FloatKind.f64.format.order (kq k) 4607182418800017408 == some Ordering.eq) = decide (1 ≤ k) ∧ (1 ≤ k → fsub .f64 (kq k) 4611686018427387904 = kq (k - 1)) := by decide +kernel
theorem kq8 : (4624633867356078080 : Nat) = kq 8 := by decide +kernel
def a.sv (y : Nat) : Nat := nw.abs.sv (fwid.sv y)
def gt.sp (a b : Nat) : Bool := FloatKind.f64.format.order a b == some Ordering.gt
def q.sv (a b : Nat) : Nat := bif gt.sp a b then fdiv .f64 b a else fdiv .f64 a b
def ser.sv (t : Nat) : Nat := fdiv .f64 (fmul .f64 4620693217682128896 (fmul .f64 t (s.sv (fmul .f64 t t) 8 0))) 4618760256179416344
def lt.sp (x : Nat) : Bool := FloatKind.f32.format.order x 0 == some Ordering.lt
def w1v (a b t : Nat) : Nat := bif gt.sp a b then fsub .f64 4598175219545276416 (ser.sv t) else ser.sv t
def w2v (a b x t : Nat) : Nat := bif lt.sp x then fsub .f64 4602678819172646912 (w1v a b t) else w1v a b t
def w3v (a b x y t : Nat) : Nat := bif lt.sp y then Op.negFloat .f64 (w2v a b x t) else w2v a b x t
def w3.sv (a b x y : Nat) : Nat := w3v a b x y (h.sv 3 (q.sv a b))
def null.sp (x : Nat) : Bool := FloatKind.f32.format.order x 0 == some Ordering.eq
def ang.sv (y x : Nat) : Nat := nar.sv (w3.sv (a.sv y) (a.sv x) x y)
def ck.sp (y x : Nat) : Bool := hok.sp 3 (q.sv (a.sv y) (a.sv x)) && nar.ok.sp (w3.sv (a.sv y) (a.sv x) x y)
def no.sv : Nat := 2143289344
def at.sv (y x : Nat) : Nat := bif !(flo.fin.sp x) || !(flo.fin.sp y) then no.sv else bif null.sp x && null.sp y then 0 else ang.sv y x
end an

theorem isSqrt : IsBits Tryz.prog 70 Extern.MathSqrt.sqrt := ⟨⟨_, Tryz.func70, by kernel_rfl, by kernel_rfl, by kernel_rfl, by kernel_rfl⟩⟩
namespace mathSqrt
def R : List AVal → Option (Bool × AVal × List Blk)
  | [.flt .f64 x] => some (sqr.ok.sp x, .flt .f64 (sqr.sv x), [])
  | _ => none
theorem go (x : Nat) :
  runFn Tryz.prog (orcS 70) hd0 Dr.std none 0 (bodyOf Tryz.f44) 5 [2] [.flt .f64 x] []
  = (bif sqr.ok.sp x then some (AVal.flt FloatKind.f64 (sqr.sv x), []) else none) := by kernel_rfl
theorem run : ∀ args v new, R args = some (true, v, new) → ∃ fuel, runFn Tryz.prog (orcS 70) hd0 Dr.std none fuel (bodyOf Tryz.f44) 5 [2] args [] = some (v, new) := by
  intro args v new h
  unfold R at h
  split at h
  · rename_i x
    simp only [Option.some.injEq, Prod.mk.injEq] at h
    obtain ⟨h1, rfl, rfl⟩ := h
    refine ⟨0, ?_⟩
    rw [go, h1, cond_true]
  · cases h
theorem ok : EntOk Tryz.prog ⟨44, R⟩ :=
  ent_okA mixed (A := (orcS 70)) (orcS_ok isSqrt) Tryz.func44 (by kernel_rfl) (by kernel_rfl) (n := 5) (ts := [2]) (hd := hd0) (dr := Dr.std) (cut := none) (by kernel_rfl) (by kernel_rfl) (by kernel_rfl) run
end mathSqrt
namespace mathNaN
def R : List AVal → Option (Bool × AVal × List Blk)
  | [] => some (true, .flt .f64 9221120237041090561, [])
  | _ => none
theorem go :
  runFn Tryz.prog (orcN nats (orc [])) hd0 Dr.std none 0 (bodyOf Tryz.f66) 2 [0] [] []
  = (some (AVal.flt FloatKind.f64 (9221120237041090561 : Nat), [])) := by kernel_rfl
theorem run : ∀ args v new, R args = some (true, v, new) → ∃ fuel, runFn Tryz.prog (orcN nats (orc [])) hd0 Dr.std none fuel (bodyOf Tryz.f66) 2 [0] args [] = some (v, new) := by
  intro args v new h
  unfold R at h
  split at h
  · simp only [Option.some.injEq, Prod.mk.injEq] at h
    obtain ⟨_, rfl, rfl⟩ := h
    exact ⟨0, go⟩
  · cases h
theorem ok : EntOk Tryz.prog ⟨66, R⟩ :=
  ent_okA mixed (A := (orcN nats (orc []))) (orcN_ok natsOk (orc_ok (by simp))) Tryz.func66 (by kernel_rfl) (by kernel_rfl) (n := 2) (ts := [0]) (hd := hd0) (dr := Dr.std) (cut := none) (by kernel_rfl) (by kernel_rfl) (by kernel_rfl) run
end mathNaN

namespace AngleTurns
def R1 : List AVal → Option (Bool × AVal × List Blk)
  | [.flt .f32 y, .flt .f32 x] => some (((flo.fin.sp x && flo.fin.sp y) && !(an.null.sp x && an.null.sp y)) && an.ck.sp y x, .flt .f32 (an.ang.sv y x), [])
  | _ => none
def R2 : List AVal → Option (Bool × AVal × List Blk)
  | [.flt .f32 y, .flt .f32 x] => some (!(flo.fin.sp x) || !(flo.fin.sp y), .flt .f32 an.no.sv, [])
  | _ => none
def R3 : List AVal → Option (Bool × AVal × List Blk)
  | [.flt .f32 y, .flt .f32 x] => some ((flo.fin.sp x && flo.fin.sp y) && (an.null.sp x && an.null.sp y), .flt .f32 0, [])
  | _ => none
def hd : Nat → Head := fun i => bif eqN i 0 then ⟨[0, 1, 5, 6, 7, 43], none⟩ else ⟨[0, 1, 5, 6, 7, 8, 9, 10], none⟩
noncomputable def L0 (f n : Nat) (s : State) := loopAt Tryz.prog (orc [⟨61, iIsFinite.R⟩, ⟨65, nAbs.R⟩, ⟨44, mathSqrt.R⟩, ⟨66, mathNaN.R⟩]) hd Dr.std 0 f (bodyOf Tryz.f34) 0 [true, true, true, true, true, true, false, true] (retK Tryz.prog [4] 0 none) n s
noncomputable def L2 (f n : Nat) (s : State) := loopAt Tryz.prog (orc [⟨61, iIsFinite.R⟩, ⟨65, nAbs.R⟩, ⟨44, mathSqrt.R⟩, ⟨66, mathNaN.R⟩]) hd Dr.std 0 f (bodyOf Tryz.f34) 0 [true, true, true, true, true, true, true, true, true, false, true] (retK Tryz.prog [4] 0 none) n s
theorem start (y x : Nat) (f : Nat) :
  runFn Tryz.prog (orc [⟨61, iIsFinite.R⟩, ⟨65, nAbs.R⟩, ⟨44, mathSqrt.R⟩, ⟨66, mathNaN.R⟩]) hd Dr.std none f (bodyOf Tryz.f34) 87 [4] [.flt .f32 y, .flt .f32 x] []
  = (bif true && (true && true || true && true) then bif !flo.fin.sp x then bif true && (true || true && true) then some (AVal.flt FloatKind.f32 (2143289344 : Nat), []) else none else bif true && (true && true || true && true) then bif !flo.fin.sp y then bif true && (true || true && true) then some (AVal.flt FloatKind.f32 (2143289344 : Nat), []) else none else bif FloatKind.f32.format.order x (0 : Nat) == some Ordering.eq then bif FloatKind.f32.format.order y (0 : Nat) == some Ordering.eq then some (AVal.flt FloatKind.f32 (0 : Nat), []) else bif true && (true && true || true && true) then bif true && (true && true || true && true) then bif FloatKind.f64.format.order (nw.abs.sv (fwid.sv y)) (nw.abs.sv (fwid.sv x)) == some Ordering.gt then L0 f f (mkS (87 : Nat) [((0 : Nat), AVal.flt FloatKind.f32 y), ((1 : Nat), AVal.flt FloatKind.f32 x), ((5 : Nat), AVal.flt FloatKind.f64 (nw.abs.sv (fwid.sv y))), ((6 : Nat), AVal.flt FloatKind.f64 (nw.abs.sv (fwid.sv x))), ((7 : Nat), AVal.flt FloatKind.f64 (fdiv FloatKind.f64 (nw.abs.sv (fwid.sv x)) (nw.abs.sv (fwid.sv y)))), ((43 : Nat), AVal.int IntKind.i64 (0 : Int))] []) else L0 f f (mkS (87 : Nat) [((0 : Nat), AVal.flt FloatKind.f32 y), ((1 : Nat), AVal.flt FloatKind.f32 x), ((5 : Nat), AVal.flt FloatKind.f64 (nw.abs.sv (fwid.sv y))), ((6 : Nat), AVal.flt FloatKind.f64 (nw.abs.sv (fwid.sv x))), ((7 : Nat), AVal.flt FloatKind.f64 (fdiv FloatKind.f64 (nw.abs.sv (fwid.sv y)) (nw.abs.sv (fwid.sv x)))), ((43 : Nat), AVal.int IntKind.i64 (0 : Int))] []) else none else none else bif true && (true && true || true && true) then bif true && (true && true || true && true) then bif FloatKind.f64.format.order (nw.abs.sv (fwid.sv y)) (nw.abs.sv (fwid.sv x)) == some Ordering.gt then L0 f f (mkS (87 : Nat) [((0 : Nat), AVal.flt FloatKind.f32 y), ((1 : Nat), AVal.flt FloatKind.f32 x), ((5 : Nat), AVal.flt FloatKind.f64 (nw.abs.sv (fwid.sv y))), ((6 : Nat), AVal.flt FloatKind.f64 (nw.abs.sv (fwid.sv x))), ((7 : Nat), AVal.flt FloatKind.f64 (fdiv FloatKind.f64 (nw.abs.sv (fwid.sv x)) (nw.abs.sv (fwid.sv y)))), ((43 : Nat), AVal.int IntKind.i64 (0 : Int))] []) else L0 f f (mkS (87 : Nat) [((0 : Nat), AVal.flt FloatKind.f32 y), ((1 : Nat), AVal.flt FloatKind.f32 x), ((5 : Nat), AVal.flt FloatKind.f64 (nw.abs.sv (fwid.sv y))), ((6 : Nat), AVal.flt FloatKind.f64 (nw.abs.sv (fwid.sv x))), ((7 : Nat), AVal.flt FloatKind.f64 (fdiv FloatKind.f64 (nw.abs.sv (fwid.sv y)) (nw.abs.sv (fwid.sv x)))), ((43 : Nat), AVal.int IntKind.i64 (0 : Int))] []) else none else none else none else none) := by kernel_rfl
theorem round0 (y x a b t : Nat) (i : Int) (f n : Nat) :
  L0 f (n + 1) (mkS 87 [(0, .flt .f32 y), (1, .flt .f32 x), (5, .flt .f64 a), (6, .flt .f64 b), (7, .flt .f64 t), (43, .int .i64 i)] [])
  = (bif decide (i < (3 : Int)) then bif sqr.ok.sp (fadd FloatKind.f64 (4607182418800017408 : Nat) (fmul FloatKind.f64 t t)) && (true && true || true && true) then L0 f n (mkS (87 : Nat) [((0 : Nat), AVal.flt FloatKind.f32 y), ((1 : Nat), AVal.flt FloatKind.f32 x), ((5 : Nat), AVal.flt FloatKind.f64 a), ((6 : Nat), AVal.flt FloatKind.f64 b), ((7 : Nat), AVal.flt FloatKind.f64 (fdiv FloatKind.f64 t (fadd FloatKind.f64 (4607182418800017408 : Nat) (sqr.sv (fadd FloatKind.f64 (4607182418800017408 : Nat) (fmul FloatKind.f64 t t)))))), ((43 : Nat), AVal.int IntKind.i64 (IntKind.i64.wrap (i + (1 : Int))))] []) else none else L2 f f (mkS (87 : Nat) [((0 : Nat), AVal.flt FloatKind.f32 y), ((1 : Nat), AVal.flt FloatKind.f32 x), ((5 : Nat), AVal.flt FloatKind.f64 a), ((6 : Nat), AVal.flt FloatKind.f64 b), ((7 : Nat), AVal.flt FloatKind.f64 t), ((8 : Nat), AVal.flt FloatKind.f64 (fmul FloatKind.f64 t t)), ((9 : Nat), AVal.flt FloatKind.f64 (0 : Nat)), ((10 : Nat), AVal.flt FloatKind.f64 (4624633867356078080 : Nat))] [])) := by kernel_rfl
theorem round2 (y x a b t u p k : Nat) (f n : Nat) :
  L2 f (n + 1) (mkS 87 [(0, .flt .f32 y), (1, .flt .f32 x), (5, .flt .f64 a), (6, .flt .f64 b), (7, .flt .f64 t), (8, .flt .f64 u), (9, .flt .f64 p), (10, .flt .f64 k)] [])
  = (bif FloatKind.f64.format.order k (4607182418800017408 : Nat) == some Ordering.gt || FloatKind.f64.format.order k (4607182418800017408 : Nat) == some Ordering.eq then L2 f n (mkS (87 : Nat) [((0 : Nat), AVal.flt FloatKind.f32 y), ((1 : Nat), AVal.flt FloatKind.f32 x), ((5 : Nat), AVal.flt FloatKind.f64 a), ((6 : Nat), AVal.flt FloatKind.f64 b), ((7 : Nat), AVal.flt FloatKind.f64 t), ((8 : Nat), AVal.flt FloatKind.f64 u), ((9 : Nat), AVal.flt FloatKind.f64 (fsub FloatKind.f64 (fdiv FloatKind.f64 (4607182418800017408 : Nat) k) (fmul FloatKind.f64 u p))), ((10 : Nat), AVal.flt FloatKind.f64 (fsub FloatKind.f64 k (4611686018427387904 : Nat)))] []) else bif FloatKind.f64.format.order a b == some Ordering.gt then bif FloatKind.f32.format.order x (0 : Nat) == some Ordering.lt then bif FloatKind.f32.format.order y (0 : Nat) == some Ordering.lt then bif nar.ok.sp (Op.negFloat FloatKind.f64 (fsub FloatKind.f64 (4602678819172646912 : Nat) (fsub FloatKind.f64 (4598175219545276416 : Nat) (fdiv FloatKind.f64 (fmul FloatKind.f64 (4620693217682128896 : Nat) (fmul FloatKind.f64 t p)) (4618760256179416344 : Nat))))) then some (AVal.flt FloatKind.f32 (nar.sv (Op.negFloat FloatKind.f64 (fsub FloatKind.f64 (4602678819172646912 : Nat) (fsub FloatKind.f64 (4598175219545276416 : Nat) (fdiv FloatKind.f64 (fmul FloatKind.f64 (4620693217682128896 : Nat) (fmul FloatKind.f64 t p)) (4618760256179416344 : Nat)))))), []) else none else bif nar.ok.sp (fsub FloatKind.f64 (4602678819172646912 : Nat) (fsub FloatKind.f64 (4598175219545276416 : Nat) (fdiv FloatKind.f64 (fmul FloatKind.f64 (4620693217682128896 : Nat) (fmul FloatKind.f64 t p)) (4618760256179416344 : Nat)))) then some (AVal.flt FloatKind.f32 (nar.sv (fsub FloatKind.f64 (4602678819172646912 : Nat) (fsub FloatKind.f64 (4598175219545276416 : Nat) (fdiv FloatKind.f64 (fmul FloatKind.f64 (4620693217682128896 : Nat) (fmul FloatKind.f64 t p)) (4618760256179416344 : Nat))))), []) else none else bif FloatKind.f32.format.order y (0 : Nat) == some Ordering.lt then bif nar.ok.sp (Op.negFloat FloatKind.f64 (fsub FloatKind.f64 (4598175219545276416 : Nat) (fdiv FloatKind.f64 (fmul FloatKind.f64 (4620693217682128896 : Nat) (fmul FloatKind.f64 t p)) (4618760256179416344 : Nat)))) then some (AVal.flt FloatKind.f32 (nar.sv (Op.negFloat FloatKind.f64 (fsub FloatKind.f64 (4598175219545276416 : Nat) (fdiv FloatKind.f64 (fmul FloatKind.f64 (4620693217682128896 : Nat) (fmul FloatKind.f64 t p)) (4618760256179416344 : Nat))))), []) else none else bif nar.ok.sp (fsub FloatKind.f64 (4598175219545276416 : Nat) (fdiv FloatKind.f64 (fmul FloatKind.f64 (4620693217682128896 : Nat) (fmul FloatKind.f64 t p)) (4618760256179416344 : Nat))) then some (AVal.flt FloatKind.f32 (nar.sv (fsub FloatKind.f64 (4598175219545276416 : Nat) (fdiv FloatKind.f64 (fmul FloatKind.f64 (4620693217682128896 : Nat) (fmul FloatKind.f64 t p)) (4618760256179416344 : Nat)))), []) else none else bif FloatKind.f32.format.order x (0 : Nat) == some Ordering.lt then bif FloatKind.f32.format.order y (0 : Nat) == some Ordering.lt then bif nar.ok.sp (Op.negFloat FloatKind.f64 (fsub FloatKind.f64 (4602678819172646912 : Nat) (fdiv FloatKind.f64 (fmul FloatKind.f64 (4620693217682128896 : Nat) (fmul FloatKind.f64 t p)) (4618760256179416344 : Nat)))) then some (AVal.flt FloatKind.f32 (nar.sv (Op.negFloat FloatKind.f64 (fsub FloatKind.f64 (4602678819172646912 : Nat) (fdiv FloatKind.f64 (fmul FloatKind.f64 (4620693217682128896 : Nat) (fmul FloatKind.f64 t p)) (4618760256179416344 : Nat))))), []) else none else bif nar.ok.sp (fsub FloatKind.f64 (4602678819172646912 : Nat) (fdiv FloatKind.f64 (fmul FloatKind.f64 (4620693217682128896 : Nat) (fmul FloatKind.f64 t p)) (4618760256179416344 : Nat))) then some (AVal.flt FloatKind.f32 (nar.sv (fsub FloatKind.f64 (4602678819172646912 : Nat) (fdiv FloatKind.f64 (fmul FloatKind.f64 (4620693217682128896 : Nat) (fmul FloatKind.f64 t p)) (4618760256179416344 : Nat)))), []) else none else bif FloatKind.f32.format.order y (0 : Nat) == some Ordering.lt then bif nar.ok.sp (Op.negFloat FloatKind.f64 (fdiv FloatKind.f64 (fmul FloatKind.f64 (4620693217682128896 : Nat) (fmul FloatKind.f64 t p)) (4618760256179416344 : Nat))) then some (AVal.flt FloatKind.f32 (nar.sv (Op.negFloat FloatKind.f64 (fdiv FloatKind.f64 (fmul FloatKind.f64 (4620693217682128896 : Nat) (fmul FloatKind.f64 t p)) (4618760256179416344 : Nat)))), []) else none else bif nar.ok.sp (fdiv FloatKind.f64 (fmul FloatKind.f64 (4620693217682128896 : Nat) (fmul FloatKind.f64 t p)) (4618760256179416344 : Nat)) then some (AVal.flt FloatKind.f32 (nar.sv (fdiv FloatKind.f64 (fmul FloatKind.f64 (4620693217682128896 : Nat) (fmul FloatKind.f64 t p)) (4618760256179416344 : Nat))), []) else none) := by kernel_rfl
theorem loop2 (y x a b t f : Nat) (hn : nar.ok.sp (an.w3v a b x y t) = true) : ∀ (k n p : Nat), k ≤ 8 → k < n → an.s.sv (fmul .f64 t t) k p = an.s.sv (fmul .f64 t t) 8 0 →
    L2 f n (mkS 87 [(0, .flt .f32 y), (1, .flt .f32 x), (5, .flt .f64 a), (6, .flt .f64 b), (7, .flt .f64 t), (8, .flt .f64 (fmul .f64 t t)), (9, .flt .f64 p), (10, .flt .f64 (an.kq k))] []) = some (.flt .f32 (nar.sv (an.w3v a b x y t)), []) := by
  unfold an.w3v an.w2v an.w1v an.ser.sv an.lt.sp an.gt.sp at *
  generalize fmul .f64 t t = u at *
  generalize hG : an.s.sv u 8 0 = G at *
  intro k
  induction k with
  | zero =>
    intro n p hk hn' hp
    obtain ⟨n, rfl⟩ : ∃ q, n = q + 1 := ⟨n - 1, by omega⟩
    have hg := (an.kq_facts 0 (by omega)).1
    obtain rfl : p = G := hp
    clear hG
    rw [round2]
    simp -implicitDefEqProofs only [hg, Nat.not_succ_le_zero, decide_false, cond_false]
    revert hn
    cases FloatKind.f64.format.order a b == some Ordering.gt <;> cases FloatKind.f32.format.order x 0 == some Ordering.lt <;> cases FloatKind.f32.format.order y 0 == some Ordering.lt <;> (intro hn; simp -implicitDefEqProofs only [cond_true, cond_false] at hn; simp -implicitDefEqProofs only [hn, cond_true, cond_false, Bool.and_self, Bool.and_true, Bool.true_and]; try rfl)
  | succ k ih =>
    intro n p hk hn' hp
    obtain ⟨n, rfl⟩ : ∃ q, n = q + 1 := ⟨n - 1, by omega⟩
    obtain ⟨hg, hf⟩ := an.kq_facts (k + 1) (by omega)
    have hf := hf (by omega)
    rw [Nat.add_sub_cancel] at hf
    have h1 : 1 ≤ k + 1 := by omega
    have g := ih n _ (by omega) (by omega) hp
    rw [round2]
    simp -implicitDefEqProofs only [hg, hf, h1, decide_true, cond_true]
    exact g
theorem loop0 (y x a b f : Nat) : ∀ (d i n t : Nat), i + d = 3 → d < n → an.hok.sp d t = true →
    L0 f n (mkS 87 [(0, .flt .f32 y), (1, .flt .f32 x), (5, .flt .f64 a), (6, .flt .f64 b), (7, .flt .f64 t), (43, .int .i64 (i : Int))] []) = L2 f f (mkS 87 [(0, .flt .f32 y), (1, .flt .f32 x), (5, .flt .f64 a), (6, .flt .f64 b), (7, .flt .f64 (an.h.sv d t)), (8, .flt .f64 (fmul .f64 (an.h.sv d t) (an.h.sv d t))), (9, .flt .f64 0), (10, .flt .f64 (an.kq 8))] []) := by
  intro d
  induction d with
  | zero =>
    intro i n t hi hn h
    obtain ⟨n, rfl⟩ : ∃ q, n = q + 1 := ⟨n - 1, by omega⟩
    obtain rfl : i = 3 := by omega
    rw [round0]
    simp -implicitDefEqProofs (disch := omega) only [take_one, set_one, decide_eq_true, decide_eq_false, IntWalk.i64_in, beqT, beqF, bneT, bneF, nat_succ, ← Int.natCast_mul, ← Int.natCast_add, Int.toNat_natCast, Int.zero_mul, Int.zero_add, Int.add_zero, Nat.zero_add, Nat.add_zero, Nat.zero_mul, List.length_singleton, List.length_append, List.length_nil, List.length_cons, List.take_length, List.drop_zero, List.replicate_zero, List.take_nil, List.nil_append, Nat.reduceBEq, Nat.reduceMul, Nat.reduceLeDiff, eq_self, and_self, true_and, and_true, decide_true, decide_false, Bool.and_self, Bool.or_self, Bool.and_true, Bool.true_and, Bool.and_false, Bool.false_and, Bool.or_true, Bool.true_or, Bool.or_false, Bool.false_or, Bool.not_true, Bool.not_false, cond_true, cond_false]
    rw [an.kq8]; rfl
  | succ d ih =>
    intro i n t hi hn h
    obtain ⟨n, rfl⟩ : ∃ q, n = q + 1 := ⟨n - 1, by omega⟩
    rw [an.hok.sp, Bool.and_eq_true] at h
    have g := ih (i + 1) n _ (by omega) (by omega) h.2
    have h1 := h.1
    unfold an.r.sv at *
    rw [round0]
    simp -implicitDefEqProofs (disch := omega) only [h1, take_one, set_one, decide_eq_true, decide_eq_false, IntWalk.i64_in, beqT, beqF, bneT, bneF, nat_succ, ← Int.natCast_mul, ← Int.natCast_add, Int.toNat_natCast, Int.zero_mul, Int.zero_add, Int.add_zero, Nat.zero_add, Nat.add_zero, Nat.zero_mul, List.length_singleton, List.length_append, List.length_nil, List.length_cons, List.take_length, List.drop_zero, List.replicate_zero, List.take_nil, List.nil_append, Nat.reduceBEq, Nat.reduceMul, Nat.reduceLeDiff, eq_self, and_self, true_and, and_true, decide_true, decide_false, Bool.and_self, Bool.or_self, Bool.and_true, Bool.true_and, Bool.and_false, Bool.false_and, Bool.or_true, Bool.true_or, Bool.or_false, Bool.false_or, Bool.not_true, Bool.not_false, cond_true, cond_false]
    exact g
theorem run1 : ∀ args v new, R1 args = some (true, v, new) → ∃ fuel, runFn Tryz.prog (orc [⟨61, iIsFinite.R⟩, ⟨65, nAbs.R⟩, ⟨44, mathSqrt.R⟩, ⟨66, mathNaN.R⟩]) hd Dr.std none fuel (bodyOf Tryz.f34) 87 [4] args [] = some (v, new) := by
  intro args v new h
  unfold R1 at h
  split at h
  · rename_i y x
    simp only [Option.some.injEq, Prod.mk.injEq, Bool.and_eq_true, Bool.not_eq_true', an.ck.sp] at h
    obtain ⟨⟨⟨⟨h1, h2⟩, h3⟩, h6, h7⟩, rfl, rfl⟩ := h
    obtain ⟨F, hF⟩ : ∃ F : Nat, F = 100 := ⟨100, rfl⟩
    refine ⟨F + 1, ?_⟩
    unfold an.null.sp at h3
    unfold an.ang.sv an.w3.sv
    unfold an.w3.sv at h7
    rw [start]
    unfold an.a.sv an.q.sv an.gt.sp at *
    simp -implicitDefEqProofs (disch := omega) only [h1, h2, take_one, set_one, decide_eq_true, decide_eq_false, IntWalk.i64_in, beqT, beqF, bneT, bneF, nat_succ, ← Int.natCast_mul, ← Int.natCast_add, Int.toNat_natCast, Int.zero_mul, Int.zero_add, Int.add_zero, Nat.zero_add, Nat.add_zero, Nat.zero_mul, List.length_singleton, List.length_append, List.length_nil, List.length_cons, List.take_length, List.drop_zero, List.replicate_zero, List.take_nil, List.nil_append, Nat.reduceBEq, Nat.reduceMul, Nat.reduceLeDiff, eq_self, and_self, true_and, and_true, decide_true, decide_false, Bool.and_self, Bool.or_self, Bool.and_true, Bool.true_and, Bool.and_false, Bool.false_and, Bool.or_true, Bool.true_or, Bool.or_false, Bool.false_or, Bool.not_true, Bool.not_false, cond_true, cond_false]
    have key : ∀ t, an.hok.sp 3 t = true → nar.ok.sp (an.w3v (nw.abs.sv (fwid.sv y)) (nw.abs.sv (fwid.sv x)) x y (an.h.sv 3 t)) = true → L0 (F + 1) (F + 1) (mkS 87 [(0, .flt .f32 y), (1, .flt .f32 x), (5, .flt .f64 (nw.abs.sv (fwid.sv y))), (6, .flt .f64 (nw.abs.sv (fwid.sv x))), (7, .flt .f64 t), (43, .int .i64 0)] []) = some (.flt .f32 (nar.sv (an.w3v (nw.abs.sv (fwid.sv y)) (nw.abs.sv (fwid.sv x)) x y (an.h.sv 3 t))), []) := by
      intro t k1 k2
      have e := loop0 y x (nw.abs.sv (fwid.sv y)) (nw.abs.sv (fwid.sv x)) (F + 1) 3 0 (F + 1) t (by omega) (by omega) k1
      rw [show ((0 : Nat) : Int) = 0 from rfl] at e
      rw [e]
      exact loop2 y x _ _ (an.h.sv 3 t) (F + 1) k2 8 (F + 1) 0 (by omega) (by omega) rfl
    cases hg : FloatKind.f64.format.order (nw.abs.sv (fwid.sv y)) (nw.abs.sv (fwid.sv x)) == some Ordering.gt
    · rw [hg, cond_false] at h6 h7
      have k := key _ h6 h7
      cases hx : (FloatKind.f32.format.order x 0 == some Ordering.eq)
      · simp -implicitDefEqProofs only [cond_false]; exact k
      · rw [hx, Bool.true_and] at h3
        simp -implicitDefEqProofs only [h3, cond_true, cond_false]; exact k
    · rw [hg, cond_true] at h6 h7
      have k := key _ h6 h7
      cases hx : (FloatKind.f32.format.order x 0 == some Ordering.eq)
      · simp -implicitDefEqProofs only [cond_false, cond_true]; exact k
      · rw [hx, Bool.true_and] at h3
        simp -implicitDefEqProofs only [h3, cond_true, cond_false]; exact k
  · cases h
theorem ok1 : EntOk Tryz.prog ⟨34, R1⟩ :=
  ent_okA mixed (A := (orc [⟨61, iIsFinite.R⟩, ⟨65, nAbs.R⟩, ⟨44, mathSqrt.R⟩, ⟨66, mathNaN.R⟩])) (orc_ok (by simp only [List.mem_cons, List.not_mem_nil, or_false, forall_eq_or_imp, forall_eq]; exact ⟨iIsFinite.ok, nAbs.ok, mathSqrt.ok, mathNaN.ok⟩)) Tryz.func34 (by kernel_rfl) (by kernel_rfl) (n := 87) (ts := [4]) (hd := hd) (dr := Dr.std) (cut := none) (by kernel_rfl) (by kernel_rfl) (by kernel_rfl) run1
theorem run2 : ∀ args v new, R2 args = some (true, v, new) → ∃ fuel, runFn Tryz.prog (orc [⟨61, iIsFinite.R⟩, ⟨65, nAbs.R⟩, ⟨44, mathSqrt.R⟩, ⟨66, mathNaN.R⟩]) hd Dr.std none fuel (bodyOf Tryz.f34) 87 [4] args [] = some (v, new) := by
  intro args v new h
  unfold R2 at h
  split at h
  · rename_i y x
    simp only [Option.some.injEq, Prod.mk.injEq] at h
    obtain ⟨h1, rfl, rfl⟩ := h
    refine ⟨100, ?_⟩
    have hn : nar.ok.sp 9221120237041090561 = true := by decide +kernel
    rw [start]
    cases hx : flo.fin.sp x
    · simp -implicitDefEqProofs only [hn, Bool.not_false, cond_true]; rfl
    · rw [hx] at h1
      rw [Bool.not_true, Bool.false_or] at h1
      simp -implicitDefEqProofs only [h1, hn, Bool.not_true, cond_true, cond_false]; rfl
  · cases h
theorem ok2 : EntOk Tryz.prog ⟨34, R2⟩ :=
  ent_okA mixed (A := (orc [⟨61, iIsFinite.R⟩, ⟨65, nAbs.R⟩, ⟨44, mathSqrt.R⟩, ⟨66, mathNaN.R⟩])) (orc_ok (by simp only [List.mem_cons, List.not_mem_nil, or_false, forall_eq_or_imp, forall_eq]; exact ⟨iIsFinite.ok, nAbs.ok, mathSqrt.ok, mathNaN.ok⟩)) Tryz.func34 (by kernel_rfl) (by kernel_rfl) (n := 87) (ts := [4]) (hd := hd) (dr := Dr.std) (cut := none) (by kernel_rfl) (by kernel_rfl) (by kernel_rfl) run2
theorem run3 : ∀ args v new, R3 args = some (true, v, new) → ∃ fuel, runFn Tryz.prog (orc [⟨61, iIsFinite.R⟩, ⟨65, nAbs.R⟩, ⟨44, mathSqrt.R⟩, ⟨66, mathNaN.R⟩]) hd Dr.std none fuel (bodyOf Tryz.f34) 87 [4] args [] = some (v, new) := by
  intro args v new h
  unfold R3 at h
  split at h
  · rename_i y x
    simp only [Option.some.injEq, Prod.mk.injEq, Bool.and_eq_true] at h
    obtain ⟨⟨⟨h1, h2⟩, h3, h4⟩, rfl, rfl⟩ := h
    unfold an.null.sp at h3 h4
    refine ⟨100, ?_⟩
    rw [start]
    simp -implicitDefEqProofs (disch := omega) only [h1, h2, h3, h4, take_one, set_one, decide_eq_true, decide_eq_false, IntWalk.i64_in, beqT, beqF, bneT, bneF, nat_succ, ← Int.natCast_mul, ← Int.natCast_add, Int.toNat_natCast, Int.zero_mul, Int.zero_add, Int.add_zero, Nat.zero_add, Nat.add_zero, Nat.zero_mul, List.length_singleton, List.length_append, List.length_nil, List.length_cons, List.take_length, List.drop_zero, List.replicate_zero, List.take_nil, List.nil_append, Nat.reduceBEq, Nat.reduceMul, Nat.reduceLeDiff, eq_self, and_self, true_and, and_true, decide_true, decide_false, Bool.and_self, Bool.or_self, Bool.and_true, Bool.true_and, Bool.and_false, Bool.false_and, Bool.or_true, Bool.true_or, Bool.or_false, Bool.false_or, Bool.not_true, Bool.not_false, cond_true, cond_false]
  · cases h
theorem ok3 : EntOk Tryz.prog ⟨34, R3⟩ :=
  ent_okA mixed (A := (orc [⟨61, iIsFinite.R⟩, ⟨65, nAbs.R⟩, ⟨44, mathSqrt.R⟩, ⟨66, mathNaN.R⟩])) (orc_ok (by simp only [List.mem_cons, List.not_mem_nil, or_false, forall_eq_or_imp, forall_eq]; exact ⟨iIsFinite.ok, nAbs.ok, mathSqrt.ok, mathNaN.ok⟩)) Tryz.func34 (by kernel_rfl) (by kernel_rfl) (n := 87) (ts := [4]) (hd := hd) (dr := Dr.std) (cut := none) (by kernel_rfl) (by kernel_rfl) (by kernel_rfl) run3
end AngleTurns

end Go.Proofs.YtjhofofieiiplaaGreatDoor.Ab
