/-
  The law of flows: its run.
-/
import Derived.Test.YtgblgofmdhekiaaFnF1
import Derived.Test.YtgblgofmdhekiaaFnBy
import Derived.Test.YtgblgofmdhekiaaFnAU
import Derived.Test.YtgblgofmdhekiaaAbFrz
import Derived.Test.YtgblgofmdhekiaaAbReW
namespace Go.Proofs.Ytgblgofmdhekiaa.Ab
open Go
set_option linter.unusedVariables false
set_option linter.unusedSimpArgs false
set_option maxRecDepth 100000

namespace r8Gap
def R : List AVal → Option (Bool × AVal × List Blk)
  | [.flt .f64 a, .flt .f64 b] => some (flw.gap.ok.sp a b, .flt .f64 (flw.gap.sv a b), [])
  | _ => none
theorem go (a b : Nat) :
  runFn Try.prog (orc []) hd0 Dr.std none 0 (bodyOf Try.f26) 12 [4] [.flt .f64 a, .flt .f64 b] []
  = (bif true && ord.sp FloatKind.f64 (fsub FloatKind.f64 a b) (fsub FloatKind.f64 b a) then some (AVal.flt FloatKind.f64 (fmax.sv FloatKind.f64 (fsub FloatKind.f64 a b) (fsub FloatKind.f64 b a)), []) else none) := by kernel_rfl
theorem run : ∀ args v new, R args = some (true, v, new) → ∃ fuel, runFn Try.prog (orc []) hd0 Dr.std none fuel (bodyOf Try.f26) 12 [4] args [] = some (v, new) := by
  intro args v new h
  unfold R at h
  split at h
  · rename_i a b
    simp only [Option.some.injEq, Prod.mk.injEq] at h
    obtain ⟨h1, rfl, rfl⟩ := h
    refine ⟨0, ?_⟩
    rw [go]
    unfold flw.gap.ok.sp at h1
    unfold flw.gap.sv
    simp only [h1, Bool.and_self, Bool.and_true, Bool.true_and, cond_true]
  · cases h
theorem ok : EntOk Try.prog ⟨26, R⟩ :=
  ent_okA mixed (A := (orc [])) (orc_ok (by simp)) Try.func26 (by kernel_rfl) (by kernel_rfl) (n := 12) (ts := [4]) (hd := hd0) (dr := Dr.std) (cut := none) (by kernel_rfl) (by kernel_rfl) (by kernel_rfl) run
end r8Gap

namespace fFlowing
def R : List AVal → Option (Bool × AVal × List Blk)
  | [.ro (.ints .u8 xs) m 1, .ro (.ints .u8 ys) k 1] => some (decide (m = xs.length ∧ k = ys.length) && (r8.bytes.sp xs && r8.bytes.sp ys), .bool true, [])
  | _ => none
def hd : Nat → Head := fun i => bif eqN i 0 then ⟨[998, 0, 5, 6, 7, 8, 9, 10], none⟩ else ⟨[998, 5, 6, 7, 9, 11, 12, 14, 16, 18, 20, 22, 23, 24], none⟩
noncomputable def L0 (f n : Nat) (s : State) := loopAt Try.prog (orcF [⟨23, layF iEvenFlow_t.R⟩, ⟨24, layF iTolledFlow_t.R⟩] (orc [⟨7, r8Long.R⟩, ⟨9, r8At.R⟩, ⟨25, iFlowCost.R⟩, ⟨26, r8Gap.R⟩])) hd Dr.std 0 f (bodyOf Try.f5) 0 [true, true, true, true, true, true, true, false, true] (retK Try.prog [4] 0 none) n s
noncomputable def L2 (f n : Nat) (s : State) := loopAt Try.prog (orcF [⟨23, layF iEvenFlow_t.R⟩, ⟨24, layF iTolledFlow_t.R⟩] (orc [⟨7, r8Long.R⟩, ⟨9, r8At.R⟩, ⟨25, iFlowCost.R⟩, ⟨26, r8Gap.R⟩])) hd Dr.std 0 f (bodyOf Try.f5) 0 [true, true, true, true, true, true, true, true, true, true, true, true, true, true, true, true, false, true] (retK Try.prog [4] 0 none) n s
theorem start (zs us : List Int) (f : Nat) :
  runFn Try.prog (orcF [⟨23, layF iEvenFlow_t.R⟩, ⟨24, layF iTolledFlow_t.R⟩] (orc [⟨7, r8Long.R⟩, ⟨9, r8At.R⟩, ⟨25, iFlowCost.R⟩, ⟨26, r8Gap.R⟩])) hd Dr.std none f (bodyOf Try.f5) 254 [4] [.ro (.ints .u8 zs) zs.length 1, .ro (.ints .u8 us) us.length 1] []
  = (bif true && (true && (true && true) || true && true) then bif decide ((48 : Int) < (↑zs.length : Int)) || decide ((48 : Int) < (↑us.length : Int)) then some (AVal.bool true, []) else bif decide (us.length = us.length ∧ (0 : Int) ≤ (40 : Int)) && (true && true || true && true) then bif decide (us.length = us.length ∧ (0 : Int) ≤ (41 : Int)) && (true && true || true && true) then L0 f f (mkS (254 : Nat) [((0 : Nat), AVal.ro (Cont.ints IntKind.u8 zs) zs.length (1 : Nat)), ((5 : Nat), AVal.int IntKind.i64 (IntKind.i64.wrap ((1 : Int) + r8.at.sv us (40 : Int) (5 : Int)))), ((6 : Nat), AVal.own (0 : Nat) (0 : Nat) (0 : Nat) (0 : Nat) (1 : Nat)), ((7 : Nat), AVal.own (1 : Nat) (0 : Nat) (0 : Nat) (0 : Nat) (1 : Nat)), ((8 : Nat), AVal.own (2 : Nat) (0 : Nat) (0 : Nat) (0 : Nat) (1 : Nat)), ((9 : Nat), AVal.flt FloatKind.f32 (fdiv FloatKind.f32 (FloatKind.f32.nearest (r8.at.sv us (41 : Int) (33 : Int))) (1082130432 : Nat))), ((10 : Nat), AVal.int IntKind.i64 (0 : Int))] [{ c := BC.typ (Cont.flts FloatKind.f32 (List.replicate (0 : Nat) (0 : Nat))), ver := (0 : Nat) }, { c := BC.typ (Cont.flts FloatKind.f32 (List.replicate (0 : Nat) (0 : Nat))), ver := (0 : Nat) }, { c := BC.typ (Cont.flts FloatKind.f32 (List.replicate (0 : Nat) (0 : Nat))), ver := (0 : Nat) }]) else none else none else none) := by kernel_rfl
theorem round0 (zs : List Int) (n T i : Nat) (A Y H : List Nat) (f k : Nat) :
  L0 f (k + 1) (mkS 254 [(0, .ro (.ints .u8 zs) zs.length 1), (5, .int .i64 ((n : Nat) : Int)), (6, .own 0 0 i 0 1), (7, .own 1 0 i 0 1), (8, .own 2 0 i 0 1), (9, .flt .f32 T), (10, .int .i64 ((i : Nat) : Int))] [⟨.typ (.flts .f32 A), 0⟩, ⟨.typ (.flts .f32 Y), 0⟩, ⟨.typ (.flts .f32 H), 0⟩])
  = (bif decide ((↑i : Int) < (↑n : Int)) then bif decide (zs.length = zs.length ∧ (0 : Int) ≤ (↑i : Int)) && (true && (true && true) || true && true) then bif (1 : Nat) == (1 : Nat) && (1 : Nat) == (1 : Nat) && (true && (true && true) && (true && true && (decide (i + (List.take (1 : Nat) (List.drop (0 : Nat) ((List.replicate (1 : Nat) (0 : Nat)).set (0 : Nat) (fdiv FloatKind.f32 (FloatKind.f32.nearest (IntKind.i64.wrap ((1 : Int) + r8.at.sv zs (↑i : Int) (8 : Int)))) (1082130432 : Nat))))).length ≤ (4611686018427387904 : Nat)) && decide ((i + (List.take (1 : Nat) (List.drop (0 : Nat) ((List.replicate (1 : Nat) (0 : Nat)).set (0 : Nat) (fdiv FloatKind.f32 (FloatKind.f32.nearest (IntKind.i64.wrap ((1 : Int) + r8.at.sv zs (↑i : Int) (8 : Int)))) (1082130432 : Nat))))).length) * (4 : Nat) ≤ (140737488355328 : Nat))))) then bif decide (zs.length = zs.length ∧ (0 : Int) ≤ IntKind.i64.wrap ((↑i : Int) + (8 : Int))) && (true && (true && true) || true && true) then bif (1 : Nat) == (1 : Nat) && (1 : Nat) == (1 : Nat) && (true && (true && true) && (true && true && (decide (i + (List.take (1 : Nat) (List.drop (0 : Nat) ((List.replicate (1 : Nat) (0 : Nat)).set (0 : Nat) (fdiv FloatKind.f32 (FloatKind.f32.nearest (r8.at.sv zs (IntKind.i64.wrap ((↑i : Int) + (8 : Int))) (9 : Int))) (1073741824 : Nat))))).length ≤ (4611686018427387904 : Nat)) && decide ((i + (List.take (1 : Nat) (List.drop (0 : Nat) ((List.replicate (1 : Nat) (0 : Nat)).set (0 : Nat) (fdiv FloatKind.f32 (FloatKind.f32.nearest (r8.at.sv zs (IntKind.i64.wrap ((↑i : Int) + (8 : Int))) (9 : Int))) (1073741824 : Nat))))).length) * (4 : Nat) ≤ (140737488355328 : Nat))))) then bif (1 : Nat) == (1 : Nat) && (1 : Nat) == (1 : Nat) && (true && (true && true) && (true && true && (decide (i + (List.take (1 : Nat) (List.drop (0 : Nat) ((List.replicate (1 : Nat) (0 : Nat)).set (0 : Nat) (fdiv FloatKind.f32 T (FloatKind.f32.nearest (↑n : Int)))))).length ≤ (4611686018427387904 : Nat)) && decide ((i + (List.take (1 : Nat) (List.drop (0 : Nat) ((List.replicate (1 : Nat) (0 : Nat)).set (0 : Nat) (fdiv FloatKind.f32 T (FloatKind.f32.nearest (↑n : Int)))))).length) * (4 : Nat) ≤ (140737488355328 : Nat))))) then L0 f k (mkS (254 : Nat) [((0 : Nat), AVal.ro (Cont.ints IntKind.u8 zs) zs.length (1 : Nat)), ((5 : Nat), AVal.int IntKind.i64 (↑n : Int)), ((6 : Nat), AVal.own (0 : Nat) (0 : Nat) (i + (List.take (1 : Nat) (List.drop (0 : Nat) ((List.replicate (1 : Nat) (0 : Nat)).set (0 : Nat) (fdiv FloatKind.f32 (FloatKind.f32.nearest (IntKind.i64.wrap ((1 : Int) + r8.at.sv zs (↑i : Int) (8 : Int)))) (1082130432 : Nat))))).length) (0 : Nat) (1 : Nat)), ((7 : Nat), AVal.own (1 : Nat) (0 : Nat) (i + (List.take (1 : Nat) (List.drop (0 : Nat) ((List.replicate (1 : Nat) (0 : Nat)).set (0 : Nat) (fdiv FloatKind.f32 (FloatKind.f32.nearest (r8.at.sv zs (IntKind.i64.wrap ((↑i : Int) + (8 : Int))) (9 : Int))) (1073741824 : Nat))))).length) (0 : Nat) (1 : Nat)), ((8 : Nat), AVal.own (2 : Nat) (0 : Nat) (i + (List.take (1 : Nat) (List.drop (0 : Nat) ((List.replicate (1 : Nat) (0 : Nat)).set (0 : Nat) (fdiv FloatKind.f32 T (FloatKind.f32.nearest (↑n : Int)))))).length) (0 : Nat) (1 : Nat)), ((9 : Nat), AVal.flt FloatKind.f32 T), ((10 : Nat), AVal.int IntKind.i64 (IntKind.i64.wrap ((↑i : Int) + (1 : Int))))] [{ c := BC.typ (Cont.flts FloatKind.f32 (List.take i A ++ List.take (1 : Nat) (List.drop (0 : Nat) ((List.replicate (1 : Nat) (0 : Nat)).set (0 : Nat) (fdiv FloatKind.f32 (FloatKind.f32.nearest (IntKind.i64.wrap ((1 : Int) + r8.at.sv zs (↑i : Int) (8 : Int)))) (1082130432 : Nat)))))), ver := (0 : Nat) }, { c := BC.typ (Cont.flts FloatKind.f32 (List.take i Y ++ List.take (1 : Nat) (List.drop (0 : Nat) ((List.replicate (1 : Nat) (0 : Nat)).set (0 : Nat) (fdiv FloatKind.f32 (FloatKind.f32.nearest (r8.at.sv zs (IntKind.i64.wrap ((↑i : Int) + (8 : Int))) (9 : Int))) (1073741824 : Nat)))))), ver := (0 : Nat) }, { c := BC.typ (Cont.flts FloatKind.f32 (List.take i H ++ List.take (1 : Nat) (List.drop (0 : Nat) ((List.replicate (1 : Nat) (0 : Nat)).set (0 : Nat) (fdiv FloatKind.f32 T (FloatKind.f32.nearest (↑n : Int))))))), ver := (0 : Nat) }]) else none else none else none else none else none else bif decide (i = A.length ∧ i = Y.length ∧ i ≤ (4611686018427387904 : Nat) ∧ i ≤ (4611686018427387904 : Nat)) && ev.sp A Y T && (true && (true && true) && (true && true)) then bif decide (i = A.length ∧ i = Y.length ∧ i ≤ (1048576 : Nat) ∧ i ≤ (1048576 : Nat)) && ev.sp (td.sv A) Y T && (true && true && (true && true)) then bif decide (i ≤ A.length ∧ i ≤ (4611686018427387904 : Nat) ∧ i ≤ Y.length ∧ i ≤ (4611686018427387904 : Nat) ∧ (ev.o.sv A Y T).length ≤ (ev.o.sv A Y T).length ∧ (ev.o.sv A Y T).length ≤ (4611686018427387904 : Nat)) && (false && (false && (true && true)) || true && (true && true) && true) then bif decide (i ≤ A.length ∧ i ≤ (4611686018427387904 : Nat) ∧ i ≤ Y.length ∧ i ≤ (4611686018427387904 : Nat) ∧ (ev.o.sv (td.sv A) Y T).length ≤ (ev.o.sv (td.sv A) Y T).length ∧ (ev.o.sv (td.sv A) Y T).length ≤ (4611686018427387904 : Nat)) && (false && (false && (true && true)) || true && (true && true) && true) then bif decide (i ≤ A.length ∧ i ≤ (4611686018427387904 : Nat) ∧ i ≤ Y.length ∧ i ≤ (4611686018427387904 : Nat) ∧ i ≤ H.length ∧ i ≤ (4611686018427387904 : Nat)) && (false && (false && (false && true)) || true && (true && true) && true) then bif !flow.sq (List.take i A) (List.take i Y) (List.take (ev.o.sv A Y T).length (ev.o.sv A Y T)) then some (AVal.bool false, [{ c := BC.typ (Cont.flts FloatKind.f32 A), ver := (0 : Nat) }, { c := BC.typ (Cont.flts FloatKind.f32 Y), ver := (0 : Nat) }, { c := BC.typ (Cont.flts FloatKind.f32 H), ver := (0 : Nat) }]) else bif !flow.sq (List.take i A) (List.take i Y) (List.take (ev.o.sv (td.sv A) Y T).length (ev.o.sv (td.sv A) Y T)) then some (AVal.bool false, [{ c := BC.typ (Cont.flts FloatKind.f32 A), ver := (0 : Nat) }, { c := BC.typ (Cont.flts FloatKind.f32 Y), ver := (0 : Nat) }, { c := BC.typ (Cont.flts FloatKind.f32 H), ver := (0 : Nat) }]) else bif !flow.sq (List.take i A) (List.take i Y) (List.take i H) then some (AVal.bool false, [{ c := BC.typ (Cont.flts FloatKind.f32 A), ver := (0 : Nat) }, { c := BC.typ (Cont.flts FloatKind.f32 Y), ver := (0 : Nat) }, { c := BC.typ (Cont.flts FloatKind.f32 H), ver := (0 : Nat) }]) else bif (↑(ev.o.sv A Y T).length : Int) != (↑n : Int) then some (AVal.bool false, [{ c := BC.typ (Cont.flts FloatKind.f32 A), ver := (0 : Nat) }, { c := BC.typ (Cont.flts FloatKind.f32 Y), ver := (0 : Nat) }, { c := BC.typ (Cont.flts FloatKind.f32 H), ver := (0 : Nat) }]) else bif (↑(ev.o.sv (td.sv A) Y T).length : Int) != (↑n : Int) then some (AVal.bool false, [{ c := BC.typ (Cont.flts FloatKind.f32 A), ver := (0 : Nat) }, { c := BC.typ (Cont.flts FloatKind.f32 Y), ver := (0 : Nat) }, { c := BC.typ (Cont.flts FloatKind.f32 H), ver := (0 : Nat) }]) else L2 f f (mkS (254 : Nat) [((5 : Nat), AVal.int IntKind.i64 (↑n : Int)), ((6 : Nat), AVal.own (0 : Nat) (0 : Nat) i (0 : Nat) (1 : Nat)), ((7 : Nat), AVal.own (1 : Nat) (0 : Nat) i (0 : Nat) (1 : Nat)), ((9 : Nat), AVal.flt FloatKind.f32 T), ((11 : Nat), AVal.ro (Cont.flts FloatKind.f32 (ev.o.sv A Y T)) (ev.o.sv A Y T).length (1 : Nat)), ((12 : Nat), AVal.flt FloatKind.f32 (ev.l.sv A Y T)), ((14 : Nat), AVal.ro (Cont.flts FloatKind.f32 (ev.o.sv (td.sv A) Y T)) (ev.o.sv (td.sv A) Y T).length (1 : Nat)), ((16 : Nat), AVal.flt FloatKind.f32 (flow.sw (List.take i A) (List.take i Y) (List.take (ev.o.sv A Y T).length (ev.o.sv A Y T)))), ((18 : Nat), AVal.flt FloatKind.f32 (flow.sw (List.take i A) (List.take i Y) (List.take (ev.o.sv (td.sv A) Y T).length (ev.o.sv (td.sv A) Y T)))), ((20 : Nat), AVal.flt FloatKind.f32 (flow.sw (List.take i A) (List.take i Y) (List.take i H))), ((22 : Nat), AVal.flt FloatKind.f64 (0 : Nat)), ((23 : Nat), AVal.flt FloatKind.f64 (0 : Nat)), ((24 : Nat), AVal.int IntKind.i64 (0 : Int))] [{ c := BC.typ (Cont.flts FloatKind.f32 A), ver := (0 : Nat) }, { c := BC.typ (Cont.flts FloatKind.f32 Y), ver := (0 : Nat) }]) else none else none else none else none else none) := by kernel_rfl
theorem round2 (n T l a b c x y i : Nat) (A Y X G : List Nat) (f k : Nat) :
  L2 f (k + 1) (mkS 254 [(5, .int .i64 ((n : Nat) : Int)), (6, .own 0 0 n 0 1), (7, .own 1 0 n 0 1), (9, .flt .f32 T), (11, .ro (.flts .f32 X) X.length 1), (12, .flt .f32 l), (14, .ro (.flts .f32 G) G.length 1), (16, .flt .f32 a), (18, .flt .f32 b), (20, .flt .f32 c), (22, .flt .f64 x), (23, .flt .f64 y), (24, .int .i64 ((i : Nat) : Int))] [⟨.typ (.flts .f32 A), 0⟩, ⟨.typ (.flts .f32 Y), 0⟩])
  = (bif decide ((↑i : Int) < (↑n : Int)) then bif true && (decide ((0 : Int) ≤ (↑i : Int)) && decide ((↑i : Int) < (↑X.length : Int))) then bif decide ((↑i : Int).toNat < X.length) then bif true && (decide ((0 : Int) ≤ (↑i : Int)) && decide ((↑i : Int) < (↑G.length : Int))) then bif decide ((↑i : Int).toNat < G.length) then bif true && (decide ((0 : Int) ≤ (↑i : Int)) && decide ((↑i : Int) < (↑n : Int))) then bif true && decide ((↑i : Int).toNat < A.length) then bif true && (decide ((0 : Int) ≤ (↑i : Int)) && decide ((↑i : Int) < (↑X.length : Int))) then bif decide ((↑i : Int).toNat < X.length) then bif true && (decide ((0 : Int) ≤ (↑i : Int)) && decide ((↑i : Int) < (↑n : Int))) then bif true && decide ((↑i : Int).toNat < Y.length) then bif true && (decide ((0 : Int) ≤ (↑i : Int)) && decide ((↑i : Int) < (↑X.length : Int))) then bif decide ((↑i : Int).toNat < X.length) then bif FloatKind.f32.format.order (gn X (↑i : Int).toNat) (0 : Nat) == some Ordering.lt then some (AVal.top, [{ c := BC.typ (Cont.flts FloatKind.f32 A), ver := (0 : Nat) }, { c := BC.typ (Cont.flts FloatKind.f32 Y), ver := (0 : Nat) }]) else bif true && (decide ((0 : Int) ≤ (↑i : Int)) && decide ((↑i : Int) < (↑G.length : Int))) then bif decide ((↑i : Int).toNat < G.length) then bif FloatKind.f32.format.order (gn G (↑i : Int).toNat) (0 : Nat) == some Ordering.lt then some (AVal.top, [{ c := BC.typ (Cont.flts FloatKind.f32 A), ver := (0 : Nat) }, { c := BC.typ (Cont.flts FloatKind.f32 Y), ver := (0 : Nat) }]) else bif true && (decide ((0 : Int) ≤ (↑i : Int)) && decide ((↑i : Int) < (↑X.length : Int))) then bif decide ((↑i : Int).toNat < X.length) then bif FloatKind.f32.format.order (gn X (↑i : Int).toNat) (981668463 : Nat) == some Ordering.gt then bif flw.gap.ok.sp (fadd FloatKind.f64 (fmul FloatKind.f64 (fwid.sv (gn A (↑i : Int).toNat)) (fwid.sv (gn X (↑i : Int).toNat))) (fwid.sv (gn Y (↑i : Int).toNat))) (fwid.sv l) && (true && (true && true) || true && true) then bif FloatKind.f64.format.order (flw.gap.sv (fadd FloatKind.f64 (fmul FloatKind.f64 (fwid.sv (gn A (↑i : Int).toNat)) (fwid.sv (gn X (↑i : Int).toNat))) (fwid.sv (gn Y (↑i : Int).toNat))) (fwid.sv l)) (4576918229304087675 : Nat) == some Ordering.gt then some (AVal.top, [{ c := BC.typ (Cont.flts FloatKind.f32 A), ver := (0 : Nat) }, { c := BC.typ (Cont.flts FloatKind.f32 Y), ver := (0 : Nat) }]) else bif FloatKind.f64.format.order (fadd FloatKind.f64 (fmul FloatKind.f64 (fwid.sv (gn A (↑i : Int).toNat)) (fwid.sv (gn X (↑i : Int).toNat))) (fwid.sv (gn Y (↑i : Int).toNat))) (fsub FloatKind.f64 (fwid.sv l) (4576918229304087675 : Nat)) == some Ordering.lt then some (AVal.top, [{ c := BC.typ (Cont.flts FloatKind.f32 A), ver := (0 : Nat) }, { c := BC.typ (Cont.flts FloatKind.f32 Y), ver := (0 : Nat) }]) else L2 f k (mkS (254 : Nat) [((5 : Nat), AVal.int IntKind.i64 (↑n : Int)), ((6 : Nat), AVal.own (0 : Nat) (0 : Nat) n (0 : Nat) (1 : Nat)), ((7 : Nat), AVal.own (1 : Nat) (0 : Nat) n (0 : Nat) (1 : Nat)), ((9 : Nat), AVal.flt FloatKind.f32 T), ((11 : Nat), AVal.ro (Cont.flts FloatKind.f32 X) X.length (1 : Nat)), ((12 : Nat), AVal.flt FloatKind.f32 l), ((14 : Nat), AVal.ro (Cont.flts FloatKind.f32 G) G.length (1 : Nat)), ((16 : Nat), AVal.flt FloatKind.f32 a), ((18 : Nat), AVal.flt FloatKind.f32 b), ((20 : Nat), AVal.flt FloatKind.f32 c), ((22 : Nat), AVal.flt FloatKind.f64 (fadd FloatKind.f64 x (fwid.sv (gn X (↑i : Int).toNat)))), ((23 : Nat), AVal.flt FloatKind.f64 (fadd FloatKind.f64 y (fwid.sv (gn G (↑i : Int).toNat)))), ((24 : Nat), AVal.int IntKind.i64 (IntKind.i64.wrap ((↑i : Int) + (1 : Int))))] [{ c := BC.typ (Cont.flts FloatKind.f32 A), ver := (0 : Nat) }, { c := BC.typ (Cont.flts FloatKind.f32 Y), ver := (0 : Nat) }]) else none else bif FloatKind.f64.format.order (fadd FloatKind.f64 (fmul FloatKind.f64 (fwid.sv (gn A (↑i : Int).toNat)) (fwid.sv (gn X (↑i : Int).toNat))) (fwid.sv (gn Y (↑i : Int).toNat))) (fsub FloatKind.f64 (fwid.sv l) (4576918229304087675 : Nat)) == some Ordering.lt then some (AVal.top, [{ c := BC.typ (Cont.flts FloatKind.f32 A), ver := (0 : Nat) }, { c := BC.typ (Cont.flts FloatKind.f32 Y), ver := (0 : Nat) }]) else L2 f k (mkS (254 : Nat) [((5 : Nat), AVal.int IntKind.i64 (↑n : Int)), ((6 : Nat), AVal.own (0 : Nat) (0 : Nat) n (0 : Nat) (1 : Nat)), ((7 : Nat), AVal.own (1 : Nat) (0 : Nat) n (0 : Nat) (1 : Nat)), ((9 : Nat), AVal.flt FloatKind.f32 T), ((11 : Nat), AVal.ro (Cont.flts FloatKind.f32 X) X.length (1 : Nat)), ((12 : Nat), AVal.flt FloatKind.f32 l), ((14 : Nat), AVal.ro (Cont.flts FloatKind.f32 G) G.length (1 : Nat)), ((16 : Nat), AVal.flt FloatKind.f32 a), ((18 : Nat), AVal.flt FloatKind.f32 b), ((20 : Nat), AVal.flt FloatKind.f32 c), ((22 : Nat), AVal.flt FloatKind.f64 (fadd FloatKind.f64 x (fwid.sv (gn X (↑i : Int).toNat)))), ((23 : Nat), AVal.flt FloatKind.f64 (fadd FloatKind.f64 y (fwid.sv (gn G (↑i : Int).toNat)))), ((24 : Nat), AVal.int IntKind.i64 (IntKind.i64.wrap ((↑i : Int) + (1 : Int))))] [{ c := BC.typ (Cont.flts FloatKind.f32 A), ver := (0 : Nat) }, { c := BC.typ (Cont.flts FloatKind.f32 Y), ver := (0 : Nat) }]) else none else none else none else none else none else none else none else none else none else none else none else none else none else none else none else none else bif flw.gap.ok.sp x (fwid.sv T) && (true && (true && true) || true && true) then bif FloatKind.f64.format.order (flw.gap.sv x (fwid.sv T)) (4576918229304087675 : Nat) == some Ordering.lt then bif flw.gap.ok.sp y (fwid.sv T) && (true && (true && true) || true && true) then bif FloatKind.f64.format.order (flw.gap.sv y (fwid.sv T)) (4576918229304087675 : Nat) == some Ordering.lt then bif flw.gap.ok.sp (fwid.sv a) (fmul FloatKind.f64 x (fwid.sv l)) && (true && (true && true) || true && true) then bif FloatKind.f64.format.order (flw.gap.sv (fwid.sv a) (fmul FloatKind.f64 x (fwid.sv l))) (fmul FloatKind.f64 (4587366580439587226 : Nat) (fadd FloatKind.f64 (4607182418800017408 : Nat) (fwid.sv a))) == some Ordering.lt then bif FloatKind.f64.format.order (fwid.sv b) (fadd FloatKind.f64 (fwid.sv a) (fmul FloatKind.f64 (4576918229304087675 : Nat) (fadd FloatKind.f64 (4607182418800017408 : Nat) (fwid.sv a)))) == some Ordering.lt || FloatKind.f64.format.order (fwid.sv b) (fadd FloatKind.f64 (fwid.sv a) (fmul FloatKind.f64 (4576918229304087675 : Nat) (fadd FloatKind.f64 (4607182418800017408 : Nat) (fwid.sv a)))) == some Ordering.eq then some (AVal.bool (FloatKind.f64.format.order (fwid.sv b) (fadd FloatKind.f64 (fwid.sv c) (fmul FloatKind.f64 (4576918229304087675 : Nat) (fadd FloatKind.f64 (4607182418800017408 : Nat) (fwid.sv c)))) == some Ordering.lt || FloatKind.f64.format.order (fwid.sv b) (fadd FloatKind.f64 (fwid.sv c) (fmul FloatKind.f64 (4576918229304087675 : Nat) (fadd FloatKind.f64 (4607182418800017408 : Nat) (fwid.sv c)))) == some Ordering.eq), [{ c := BC.typ (Cont.flts FloatKind.f32 A), ver := (0 : Nat) }, { c := BC.typ (Cont.flts FloatKind.f32 Y), ver := (0 : Nat) }]) else some (AVal.bool false, [{ c := BC.typ (Cont.flts FloatKind.f32 A), ver := (0 : Nat) }, { c := BC.typ (Cont.flts FloatKind.f32 Y), ver := (0 : Nat) }]) else some (AVal.bool false, [{ c := BC.typ (Cont.flts FloatKind.f32 A), ver := (0 : Nat) }, { c := BC.typ (Cont.flts FloatKind.f32 Y), ver := (0 : Nat) }]) else none else some (AVal.bool false, [{ c := BC.typ (Cont.flts FloatKind.f32 A), ver := (0 : Nat) }, { c := BC.typ (Cont.flts FloatKind.f32 Y), ver := (0 : Nat) }]) else none else some (AVal.bool false, [{ c := BC.typ (Cont.flts FloatKind.f32 A), ver := (0 : Nat) }, { c := BC.typ (Cont.flts FloatKind.f32 Y), ver := (0 : Nat) }]) else none) := by kernel_rfl
theorem le_ok {w v : Nat} (h : ∃ o, FloatKind.f64.format.order w v = some o ∧ o ≠ Ordering.gt) : (FloatKind.f64.format.order w v == some Ordering.lt || FloatKind.f64.format.order w v == some Ordering.eq) = true := by
  obtain ⟨o, ho, hn⟩ := h
  rw [ho]
  cases o
  · rfl
  · rfl
  · exact absurd rfl hn
theorem loop2 (n T f : Nat) (A Y H : List Nat) (h : flw.Law A Y (ev.o.sv A Y T) (ev.o.sv (td.sv A) Y T) H (ev.l.sv A Y T) T n) (lA : A.length = n) (lY : Y.length = n) (n5 : n ≤ 5) : ∀ (d i k : Nat), i + d = n → d < k →
    L2 f k (mkS 254 [(5, .int .i64 ((n : Nat) : Int)), (6, .own 0 0 n 0 1), (7, .own 1 0 n 0 1), (9, .flt .f32 T), (11, .ro (.flts .f32 (ev.o.sv A Y T)) (ev.o.sv A Y T).length 1), (12, .flt .f32 (ev.l.sv A Y T)), (14, .ro (.flts .f32 (ev.o.sv (td.sv A) Y T)) (ev.o.sv (td.sv A) Y T).length 1), (16, .flt .f32 (flow.sw A Y (ev.o.sv A Y T))), (18, .flt .f32 (flow.sw A Y (ev.o.sv (td.sv A) Y T))), (20, .flt .f32 (flow.sw A Y H)), (22, .flt .f64 (flw.su.sv (ev.o.sv A Y T) i)), (23, .flt .f64 (flw.su.sv (ev.o.sv (td.sv A) Y T) i)), (24, .int .i64 ((i : Nat) : Int))] [⟨.typ (.flts .f32 A), 0⟩, ⟨.typ (.flts .f32 Y), 0⟩]) = some (.bool true, [⟨.typ (.flts .f32 A), 0⟩, ⟨.typ (.flts .f32 Y), 0⟩]) := by
  have lX := h.lX
  have lG := h.lG
  have s1 := h.s1
  have s2 := h.s2
  have co := h.co
  have l1 := le_ok h.l1
  have l2 := le_ok h.l2
  have hn1 := h.n1
  have hn2 := h.n2
  have hro := h.ro
  clear h
  unfold flw.cs.sv at hro
  generalize ev.o.sv A Y T = X at *
  generalize ev.o.sv (td.sv A) Y T = G at *
  generalize ev.l.sv A Y T = lw at *
  generalize flow.sw A Y X = wa at *
  generalize flow.sw A Y G = wb at *
  generalize flow.sw A Y H = wc at *
  intro d
  induction d with
  | zero =>
    intro i k hi hk
    obtain ⟨k, rfl⟩ : ∃ q, k = q + 1 := ⟨k - 1, by omega⟩
    obtain rfl : i = n := by omega
    obtain ⟨s1, s1'⟩ := s1
    obtain ⟨s2, s2'⟩ := s2
    obtain ⟨co, co'⟩ := co
    rw [round2]
    simp -implicitDefEqProofs (disch := omega) only [s1, s1', s2, s2', co, co', l1, l2, take_one, set_one, decide_eq_true, decide_eq_false, IntWalk.i64_in, beqT, beqF, bneT, bneF, nat_succ, ← Int.natCast_mul, ← Int.natCast_add, Int.toNat_natCast, Int.zero_mul, Int.zero_add, Int.add_zero, Nat.zero_add, Nat.add_zero, Nat.zero_mul, List.length_singleton, List.length_append, List.length_nil, List.length_cons, List.take_length, List.drop_zero, List.replicate_zero, List.take_nil, List.nil_append, Nat.reduceBEq, Nat.reduceMul, Nat.reduceLeDiff, eq_self, and_self, true_and, and_true, decide_true, decide_false, Bool.and_self, Bool.or_self, Bool.and_true, Bool.true_and, Bool.and_false, Bool.false_and, Bool.or_true, Bool.true_or, Bool.or_false, Bool.false_or, Bool.not_true, Bool.not_false, cond_true, cond_false]
  | succ d ih =>
    intro i k hi hk
    obtain ⟨k, rfl⟩ : ∃ q, k = q + 1 := ⟨k - 1, by omega⟩
    have g := ih (i + 1) k (by omega) (by omega)
    rw [flw.su.sv, flw.su.sv] at g
    have p1 := hn1 i (by omega)
    have p2 := hn2 i (by omega)
    obtain ⟨p3, p4, p5⟩ := hro i (by omega)
    rw [lX, lG] at g
    rw [round2, Int.toNat_natCast]
    cases hm : (FloatKind.f32.format.order (gn X i) 981668463 == some Ordering.gt)
    · simp -implicitDefEqProofs (disch := omega) only [p1, p2, p5, lX, lG, hm, take_one, set_one, decide_eq_true, decide_eq_false, IntWalk.i64_in, beqT, beqF, bneT, bneF, nat_succ, ← Int.natCast_mul, ← Int.natCast_add, Int.toNat_natCast, Int.zero_mul, Int.zero_add, Int.add_zero, Nat.zero_add, Nat.add_zero, Nat.zero_mul, List.length_singleton, List.length_append, List.length_nil, List.length_cons, List.take_length, List.drop_zero, List.replicate_zero, List.take_nil, List.nil_append, Nat.reduceBEq, Nat.reduceMul, Nat.reduceLeDiff, eq_self, and_self, true_and, and_true, decide_true, decide_false, Bool.and_self, Bool.or_self, Bool.and_true, Bool.true_and, Bool.and_false, Bool.false_and, Bool.or_true, Bool.true_or, Bool.or_false, Bool.false_or, Bool.not_true, Bool.not_false, cond_true, cond_false]
      exact g
    · have p4 := p4 hm
      simp -implicitDefEqProofs (disch := omega) only [p1, p2, p3, p4, p5, lX, lG, hm, take_one, set_one, decide_eq_true, decide_eq_false, IntWalk.i64_in, beqT, beqF, bneT, bneF, nat_succ, ← Int.natCast_mul, ← Int.natCast_add, Int.toNat_natCast, Int.zero_mul, Int.zero_add, Int.add_zero, Nat.zero_add, Nat.add_zero, Nat.zero_mul, List.length_singleton, List.length_append, List.length_nil, List.length_cons, List.take_length, List.drop_zero, List.replicate_zero, List.take_nil, List.nil_append, Nat.reduceBEq, Nat.reduceMul, Nat.reduceLeDiff, eq_self, and_self, true_and, and_true, decide_true, decide_false, Bool.and_self, Bool.or_self, Bool.and_true, Bool.true_and, Bool.and_false, Bool.false_and, Bool.or_true, Bool.true_or, Bool.or_false, Bool.false_or, Bool.not_true, Bool.not_false, cond_true, cond_false]
      exact g
theorem az_succ (zs : List Int) (i : Nat) : flw.az.sv zs (i + 1) = flw.az.sv zs i ++ [fdiv .f32 (FloatKind.f32.nearest (1 + r8.at.sv zs (i : Int) 8)) 1082130432] := by simp [flw.az.sv, List.range_succ]
theorem ys_succ (zs : List Int) (i : Nat) : flw.ys.sv zs (i + 1) = flw.ys.sv zs i ++ [fdiv .f32 (FloatKind.f32.nearest (r8.at.sv zs ((i : Int) + 8) 9)) 1073741824] := by simp [flw.ys.sv, List.range_succ]
theorem ot_succ (T n i : Nat) : flw.ot.sv T n (i + 1) = flw.ot.sv T n i ++ [fdiv .f32 T (FloatKind.f32.nearest (n : Int))] := by simp [flw.ot.sv, List.replicate_succ']
theorem loop0 (zs : List Int) (n T f : Nat) (hx : r8.bytes.sp zs = true) (n1 : 1 ≤ n) (n5 : n ≤ 5) {q : Nat} (hq : q ≤ 32) (hT : T = fdiv .f32 (FloatKind.f32.nearest (q : Int)) 1082130432) (hf : 100 < f) : ∀ (d i k : Nat), i + d = n → d < k →
    L0 f k (mkS 254 [(0, .ro (.ints .u8 zs) zs.length 1), (5, .int .i64 ((n : Nat) : Int)), (6, .own 0 0 i 0 1), (7, .own 1 0 i 0 1), (8, .own 2 0 i 0 1), (9, .flt .f32 T), (10, .int .i64 ((i : Nat) : Int))] [⟨.typ (.flts .f32 (flw.az.sv zs i)), 0⟩, ⟨.typ (.flts .f32 (flw.ys.sv zs i)), 0⟩, ⟨.typ (.flts .f32 (flw.ot.sv T n i)), 0⟩]) = some (.bool true, [⟨.typ (.flts .f32 (flw.az.sv zs n)), 0⟩, ⟨.typ (.flts .f32 (flw.ys.sv zs n)), 0⟩]) := by
  intro d
  induction d with
  | zero =>
    intro i k hi hk
    obtain ⟨k, rfl⟩ : ∃ q, k = q + 1 := ⟨k - 1, by omega⟩
    obtain rfl : i = n := by omega
    have h := flw.law hx n1 n5 hq hT
    have lA := flw.az_len zs i
    have lY := flw.ys_len zs i
    have lH := flw.ot_len T i i
    rw [round0]
    clear hT
    generalize flw.az.sv zs i = A at *
    generalize flw.ys.sv zs i = Y at *
    generalize flw.ot.sv T i i = H at *
    have g := loop2 i T f A Y H h lA lY n5 i 0 f (by omega) (by omega)
    rw [flw.su.sv, flw.su.sv] at g
    have tA : A.take i = A := List.take_of_length_le (by omega)
    have tY : Y.take i = Y := List.take_of_length_le (by omega)
    have tH : H.take i = H := List.take_of_length_le (by omega)
    have e1 := h.e1
    have e2 := h.e2
    have q1 := h.q1
    have q2 := h.q2
    have q3 := h.q3
    have lX := h.lX
    have lG := h.lG
    have nn := bne_self_eq_false ((i : Nat) : Int)
    have tX : (ev.o.sv A Y T).take i = ev.o.sv A Y T := List.take_of_length_le (by omega)
    have tG : (ev.o.sv (td.sv A) Y T).take i = ev.o.sv (td.sv A) Y T := List.take_of_length_le (by omega)
    rw [lX, lG] at g
    simp -implicitDefEqProofs (disch := omega) only [tA, tY, tH, tX, tG, lA, lY, lH, e1, e2, q1, q2, q3, lX, lG, nn, Nat.le_refl, take_one, set_one, decide_eq_true, decide_eq_false, IntWalk.i64_in, beqT, beqF, bneT, bneF, nat_succ, ← Int.natCast_mul, ← Int.natCast_add, Int.toNat_natCast, Int.zero_mul, Int.zero_add, Int.add_zero, Nat.zero_add, Nat.add_zero, Nat.zero_mul, List.length_singleton, List.length_append, List.length_nil, List.length_cons, List.take_length, List.drop_zero, List.replicate_zero, List.take_nil, List.nil_append, Nat.reduceBEq, Nat.reduceMul, Nat.reduceLeDiff, eq_self, and_self, true_and, and_true, decide_true, decide_false, Bool.and_self, Bool.or_self, Bool.and_true, Bool.true_and, Bool.and_false, Bool.false_and, Bool.or_true, Bool.true_or, Bool.or_false, Bool.false_or, Bool.not_true, Bool.not_false, cond_true, cond_false]
    exact g
  | succ d ih =>
    intro i k hi hk
    obtain ⟨k, rfl⟩ : ∃ q, k = q + 1 := ⟨k - 1, by omega⟩
    have g := ih (i + 1) k (by omega) (by omega)
    rw [az_succ, ys_succ, ot_succ] at g
    have lA := flw.az_len zs i
    have lY := flw.ys_len zs i
    have lH := flw.ot_len T n i
    obtain ⟨a0, a1⟩ := r8.at_in hx (i : Int) 8 (by decide)
    have w1 : IntKind.i64.wrap (1 + r8.at.sv zs (i : Int) 8) = 1 + r8.at.sv zs (i : Int) 8 := IntWalk.i64_in _ (by omega)
    have w2 : IntKind.i64.wrap ((i : Int) + 8) = (i : Int) + 8 := IntWalk.i64_in _ (by omega)
    rw [round0, w1, w2]
    have tA : (flw.az.sv zs i).take i = flw.az.sv zs i := List.take_of_length_le (by omega)
    have tY : (flw.ys.sv zs i).take i = flw.ys.sv zs i := List.take_of_length_le (by omega)
    have tH : (flw.ot.sv T n i).take i = flw.ot.sv T n i := List.take_of_length_le (by omega)
    generalize flw.az.sv zs i = A at *
    generalize flw.ys.sv zs i = Y at *
    generalize flw.ot.sv T n i = H at *
    generalize fdiv .f32 (FloatKind.f32.nearest (1 + r8.at.sv zs (i : Int) 8)) 1082130432 = v1 at *
    generalize fdiv .f32 (FloatKind.f32.nearest (r8.at.sv zs ((i : Int) + 8) 9)) 1073741824 = v2 at *
    generalize fdiv .f32 T (FloatKind.f32.nearest (n : Int)) = v3 at *
    simp -implicitDefEqProofs (disch := omega) only [tA, tY, tH, beq_self_eq_true, take_one, set_one, decide_eq_true, decide_eq_false, IntWalk.i64_in, beqT, beqF, bneT, bneF, nat_succ, ← Int.natCast_mul, ← Int.natCast_add, Int.toNat_natCast, Int.zero_mul, Int.zero_add, Int.add_zero, Nat.zero_add, Nat.add_zero, Nat.zero_mul, List.length_singleton, List.length_append, List.length_nil, List.length_cons, List.take_length, List.drop_zero, List.replicate_zero, List.take_nil, List.nil_append, Nat.reduceBEq, Nat.reduceMul, Nat.reduceLeDiff, eq_self, and_self, true_and, and_true, decide_true, decide_false, Bool.and_self, Bool.or_self, Bool.and_true, Bool.true_and, Bool.and_false, Bool.false_and, Bool.or_true, Bool.true_or, Bool.or_false, Bool.false_or, Bool.not_true, Bool.not_false, cond_true, cond_false]
    exact g
theorem run : ∀ args v new, R args = some (true, v, new) → ∃ fuel, regc [] (runFn Try.prog (orcF [⟨23, layF iEvenFlow_t.R⟩, ⟨24, layF iTolledFlow_t.R⟩] (orc [⟨7, r8Long.R⟩, ⟨9, r8At.R⟩, ⟨25, iFlowCost.R⟩, ⟨26, r8Gap.R⟩])) hd Dr.std none fuel (bodyOf Try.f5) 254 [4] args []) = some (v, new) := by
  intro args v new h
  unfold R at h
  split at h
  · rename_i zs m us k
    simp only [Option.some.injEq, Prod.mk.injEq, Bool.and_eq_true, decide_eq_true_eq, Bool.not_eq_true'] at h
    obtain ⟨⟨⟨rfl, rfl⟩, hx, hy⟩, rfl, rfl⟩ := h
    obtain ⟨F, hF⟩ : ∃ F : Nat, F = 2000 := ⟨2000, rfl⟩
    refine ⟨F, ?_⟩
    rw [start]
    by_cases c1 : (48 : Int) < (zs.length : Int)
    · simp -implicitDefEqProofs (disch := omega) only [take_one, set_one, decide_eq_true, decide_eq_false, IntWalk.i64_in, beqT, beqF, bneT, bneF, nat_succ, ← Int.natCast_mul, ← Int.natCast_add, Int.toNat_natCast, Int.zero_mul, Int.zero_add, Int.add_zero, Nat.zero_add, Nat.add_zero, Nat.zero_mul, List.length_singleton, List.length_append, List.length_nil, List.length_cons, List.take_length, List.drop_zero, List.replicate_zero, List.take_nil, List.nil_append, Nat.reduceBEq, Nat.reduceMul, Nat.reduceLeDiff, eq_self, and_self, true_and, and_true, decide_true, decide_false, Bool.and_self, Bool.or_self, Bool.and_true, Bool.true_and, Bool.and_false, Bool.false_and, Bool.or_true, Bool.true_or, Bool.or_false, Bool.false_or, Bool.not_true, Bool.not_false, cond_true, cond_false]
      rfl
    by_cases c2 : (48 : Int) < (us.length : Int)
    · simp -implicitDefEqProofs (disch := omega) only [take_one, set_one, decide_eq_true, decide_eq_false, IntWalk.i64_in, beqT, beqF, bneT, bneF, nat_succ, ← Int.natCast_mul, ← Int.natCast_add, Int.toNat_natCast, Int.zero_mul, Int.zero_add, Int.add_zero, Nat.zero_add, Nat.add_zero, Nat.zero_mul, List.length_singleton, List.length_append, List.length_nil, List.length_cons, List.take_length, List.drop_zero, List.replicate_zero, List.take_nil, List.nil_append, Nat.reduceBEq, Nat.reduceMul, Nat.reduceLeDiff, eq_self, and_self, true_and, and_true, decide_true, decide_false, Bool.and_self, Bool.or_self, Bool.and_true, Bool.true_and, Bool.and_false, Bool.false_and, Bool.or_true, Bool.true_or, Bool.or_false, Bool.false_or, Bool.not_true, Bool.not_false, cond_true, cond_false]
      rfl
    obtain ⟨w0, w1⟩ := r8.at_in hy 40 5 (by decide)
    obtain ⟨v0, v1⟩ := r8.at_in hy 41 33 (by decide)
    obtain ⟨n, hn⟩ : ∃ n : Nat, 1 + r8.at.sv us 40 5 = n := ⟨(1 + r8.at.sv us 40 5).toNat, by omega⟩
    obtain ⟨q, hq⟩ : ∃ n : Nat, r8.at.sv us 41 33 = n := ⟨(r8.at.sv us 41 33).toNat, by omega⟩
    have wn : IntKind.i64.wrap (1 + r8.at.sv us 40 5) = ((n : Nat) : Int) := by rw [IntWalk.i64_in _ (by omega), hn]
    rw [wn, hq]
    have g := loop0 zs n (fdiv .f32 (FloatKind.f32.nearest (q : Int)) 1082130432) F hx (by omega) (by omega) (q := q) (by omega) rfl (by omega) n 0 F (by omega) (by omega)
    have a0 : flw.az.sv zs 0 = [] := rfl
    have y0 : flw.ys.sv zs 0 = [] := rfl
    have h0 : flw.ot.sv (fdiv .f32 (FloatKind.f32.nearest (q : Int)) 1082130432) n 0 = [] := rfl
    rw [a0, y0, h0] at g
    generalize fdiv .f32 (FloatKind.f32.nearest (q : Int)) 1082130432 = T at *
    simp -implicitDefEqProofs (disch := omega) only [take_one, set_one, decide_eq_true, decide_eq_false, IntWalk.i64_in, beqT, beqF, bneT, bneF, nat_succ, ← Int.natCast_mul, ← Int.natCast_add, Int.toNat_natCast, Int.zero_mul, Int.zero_add, Int.add_zero, Nat.zero_add, Nat.add_zero, Nat.zero_mul, List.length_singleton, List.length_append, List.length_nil, List.length_cons, List.take_length, List.drop_zero, List.replicate_zero, List.take_nil, List.nil_append, Nat.reduceBEq, Nat.reduceMul, Nat.reduceLeDiff, eq_self, and_self, true_and, and_true, decide_true, decide_false, Bool.and_self, Bool.or_self, Bool.and_true, Bool.true_and, Bool.and_false, Bool.false_and, Bool.or_true, Bool.true_or, Bool.or_false, Bool.false_or, Bool.not_true, Bool.not_false, cond_true, cond_false]
    exact (congrArg (regc []) g).trans rfl
  · cases h
theorem ok : EntOk Try.prog ⟨5, R⟩ :=
  ent_okAG (ks := []) mixed (A := (orcF [⟨23, layF iEvenFlow_t.R⟩, ⟨24, layF iTolledFlow_t.R⟩] (orc [⟨7, r8Long.R⟩, ⟨9, r8At.R⟩, ⟨25, iFlowCost.R⟩, ⟨26, r8Gap.R⟩]))) (orcF_ok (by simp only [List.mem_cons, List.not_mem_nil, or_false, forall_eq_or_imp, forall_eq]; exact ⟨iEvenFlow_t.ok.frz, iTolledFlow_t.ok.frz⟩) (orc_ok (by simp only [List.mem_cons, List.not_mem_nil, or_false, forall_eq_or_imp, forall_eq]; exact ⟨r8Long.ok, r8At.ok, iFlowCost.ok, r8Gap.ok⟩))) Try.func5 (by kernel_rfl) (by kernel_rfl) (n := 254) (ts := [4]) (hd := hd) (dr := Dr.std) (cut := none) (by kernel_rfl) (by kernel_rfl) (by kernel_rfl) run
end fFlowing

namespace FnFlowing
def R := fFlowing.R
theorem ok : EntOk Try.prog ⟨5, R⟩ := fFlowing.ok
end FnFlowing

end Go.Proofs.Ytgblgofmdhekiaa.Ab
