/-
  Functions: the angle of a point for all numbers, the sine of a quarter of a turn.
-/
import Derived.Test.YtjhofofieiiplaaGreatDoorFnNj
namespace Go.Proofs.YtjhofofieiiplaaGreatDoor.Ab
open Go
set_option linter.unusedVariables false
set_option linter.unusedSimpArgs false
set_option maxRecDepth 100000

namespace fl
theorem isf_ok' {k : FloatKind} {x : Nat} (hx : fin k x) : (k.format.order (fsub k x x) 0 == some Ordering.eq) = true := by
  have z0 : Rep k 0 (k.format.leastPlace) := ⟨by cases k <;> decide, Int.le_refl _, by omega⟩
  have R := sub_rn hx hx z0 (by omega)
  have a := R.le z0 (by omega)
  have b := R.ge z0 (by rw [sc_zero]; omega)
  rw [sc_zero] at a b
  rw [order_val R.fin (zero_ok k).1, cmp_eq, (zero_ok k).2]
  exact decide_eq_true (by omega)
theorem flo_fin {x : Nat} (h : fin .f32 x) : flo.fin.sp x = true := isf_ok' h
theorem fin_flo {x : Nat} (h : flo.fin.sp x = true) : fin .f32 x := by
  have h' : (FloatKind.f32.format.order (fsub .f32 x x) 0 == some Ordering.eq) = true := h
  cases hd : FloatKind.f32.decode x with
  | number s m e => exact ⟨s, m, e, hd⟩
  | infinity s =>
    have hr : FloatKind.f32.format.read x = .infinity s := hd
    have e : fsub .f32 x x = qnan .f32 := by
      unfold fsub Ieee.Format.sub
      rw [hr]; cases s <;> rfl
    rw [e] at h'
    exact absurd h' (by decide +kernel)
  | nan s f =>
    have hr : FloatKind.f32.format.read x = .nan s f := hd
    have e : fsub .f32 x x = qnan .f32 := by
      unfold fsub Ieee.Format.sub
      rw [hr]; rfl
    rw [e] at h'
    exact absurd h' (by decide +kernel)
theorem fwid_val {x : Nat} (h : fin .f32 x) : fin .f64 (fwid.sv x) ∧ val .f64 (fwid.sv x) = val .f32 x ∧ ok.sp (fwid.sv x) = true := by
  obtain ⟨s, m, e, hd⟩ := h
  have pe := place_of hd
  have hm := mag_of hd
  have e1 : 2 * FloatKind.f32.format.binade = 16777216 := by decide
  have e2 : FloatKind.f32.format.leastPlace = -149 := by decide
  have hr : Rep .f64 m e := rep64 (by omega) (by omega) (by omega)
  have R := write_rn (k := .f64) (s := s) (mag := m) (place := e) (by omega) hr (Nat.le_refl _)
  have hw : fwid.sv x = FloatKind.f64.encode (.number s m e) := by unfold fwid.sv; rw [hd]
  have hv := R.exact hr (by unfold sv; cases s <;> simp)
  have hlt : FloatKind.f64.encode (.number s m e) < 18446744073709551616 := by
    have := Ieee.Format.write_lt FloatKind.f64.format (.number s m e)
    have ew : 2 ^ FloatKind.f64.format.width = 18446744073709551616 := by decide
    rw [ew] at this
    exact this
  rw [hw]
  refine ⟨R.fin, by rw [hv, val_eq hd], ?_⟩
  unfold ok.sp
  rw [fin_num R.fin, Bool.true_and, decide_eq_true_eq]
  exact hlt
theorem null_val {x : Nat} (h : fin .f32 x) : an.null.sp x = decide (val .f32 x = 0) := by
  unfold an.null.sp
  rw [order_val h (zero_ok .f32).1, cmp_eq, (zero_ok .f32).2]
theorem gt_val' {x y : Nat} (hx : fin .f64 x) (hy : fin .f64 y) : an.gt.sp x y = decide (val .f64 y < val .f64 x) := by
  unfold an.gt.sp
  rw [order_val hx hy, cmp_gt]
theorem q_ok {a b : Nat} (ha : fin .f64 a) (hb : fin .f64 b) (h1 : 0 ≤ val .f64 a) (h2 : 0 ≤ val .f64 b) (h3 : ¬ (val .f64 a = 0 ∧ val .f64 b = 0)) : In01 (an.q.sv a b) := by
  unfold an.q.sv
  rw [gt_val' ha hb]
  have e : sc 1 0 = big := one_big
  by_cases c : val .f64 b < val .f64 a
  · rw [decide_eq_true c, cond_true]
    obtain ⟨x, y, z⟩ := div_ok hb ha h2 (by omega) (M := 1) (by omega) (by
      rw [e, Nat.mul_comm big]
      exact Nat.mul_le_mul_right big (by omega))
    exact ⟨x, y, z⟩
  · rw [decide_eq_false c, cond_false]
    obtain ⟨x, y, z⟩ := div_ok ha hb h1 (by omega) (M := 1) (by omega) (by
      rw [e, Nat.mul_comm big]
      exact Nat.mul_le_mul_right big (by omega))
    exact ⟨x, y, z⟩
theorem ck_all {y x : Nat} (hx : flo.fin.sp x = true) (hy : flo.fin.sp y = true) (hn : (an.null.sp x && an.null.sp y) = false) : an.ck.sp y x = true := by
  have fx := fin_flo hx
  have fy := fin_flo hy
  rw [null_val fx, null_val fy] at hn
  obtain ⟨wx, vx, _⟩ := fwid_val fx
  obtain ⟨wy, vy, _⟩ := fwid_val fy
  obtain ⟨ax, bx⟩ := abs_fin wx
  obtain ⟨ay, by_⟩ := abs_fin wy
  have hz : ¬ (val .f32 x = 0 ∧ val .f32 y = 0) := by
    intro ⟨h1, h2⟩
    rw [decide_eq_true h1, decide_eq_true h2] at hn
    cases hn
  have q := q_ok ay ax (by rw [by_]; omega) (by rw [bx]; omega) (by rw [bx, by_, vx, vy]; omega)
  obtain ⟨h1, h2⟩ := q.all 3
  unfold an.ck.sp an.a.sv
  rw [Bool.and_eq_true]
  exact ⟨h1, (w3_ok h2).nar⟩
end fl

namespace AngleTurns
def R : List AVal → Option (Bool × AVal × List Blk)
  | [.flt .f32 y, .flt .f32 x] => some (true, .flt .f32 (an.at.sv y x), [])
  | _ => none
def R23 : List AVal → Option (Bool × AVal × List Blk)
  | [.flt .f32 y, .flt .f32 x] => some (!((flo.fin.sp x && flo.fin.sp y) && !(an.null.sp x && an.null.sp y)), .flt .f32 (an.at.sv y x), [])
  | _ => none
theorem ok23 : EntOk Tryz.prog ⟨34, R23⟩ := by
  refine ok2.cases ok3 fun args v new h => ?_
  unfold R23 at h
  split at h
  · rename_i y x
    simp only [Option.some.injEq, Prod.mk.injEq] at h
    obtain ⟨h1, rfl, rfl⟩ := h
    unfold an.at.sv
    cases hx : flo.fin.sp x
    · left; simp only [R2, hx]; rfl
    · cases hy : flo.fin.sp y
      · left; simp only [R2, hx, hy]; rfl
      · right
        rw [hx, hy] at h1
        have h2 : (an.null.sp x && an.null.sp y) = true := by simpa using h1
        simp only [R3, hx, hy, h2]; rfl
  · cases h
theorem ok : EntOk Tryz.prog ⟨34, R⟩ := by
  refine ok1.cases ok23 fun args v new h => ?_
  unfold R at h
  split at h
  · rename_i y x
    simp only [Option.some.injEq, Prod.mk.injEq] at h
    obtain ⟨h1, rfl, rfl⟩ := h
    cases hc : (flo.fin.sp x && flo.fin.sp y) && !(an.null.sp x && an.null.sp y)
    · right; simp only [R23, hc]; rfl
    · left
      have hc' := hc
      simp only [Bool.and_eq_true, Bool.not_eq_true'] at hc'
      obtain ⟨⟨hx, hy⟩, hn⟩ := hc'
      unfold an.at.sv
      simp only [R1, hc, fl.ck_all hx hy hn, hn, hx, hy]
      rfl
  · cases h
end AngleTurns
namespace AngleOf
def R : List AVal → Option (Bool × AVal × List Blk)
  | [.cpx .f32 a b] => some (true, .flt .f32 (an.at.sv b a), [])
  | _ => none
theorem go (a b : Nat) :
  runFn Tryz.prog (orc [⟨34, AngleTurns.R⟩]) hd0 Dr.std none 0 (bodyOf Tryz.f35) 8 [2] [.cpx .f32 a b] []
  = (bif true && (true && (true && true) || true && true) then some (AVal.flt FloatKind.f32 (an.at.sv b a), []) else none) := by kernel_rfl
theorem run : ∀ args v new, R args = some (true, v, new) → ∃ fuel, runFn Tryz.prog (orc [⟨34, AngleTurns.R⟩]) hd0 Dr.std none fuel (bodyOf Tryz.f35) 8 [2] args [] = some (v, new) := by
  intro args v new h
  unfold R at h
  split at h
  · rename_i a b
    simp only [Option.some.injEq, Prod.mk.injEq] at h
    obtain ⟨h1, rfl, rfl⟩ := h
    exact ⟨0, by rw [go]; rfl⟩
  · cases h
theorem ok : EntOk Tryz.prog ⟨35, R⟩ :=
  ent_okA mixed (A := (orc [⟨34, AngleTurns.R⟩])) (orc_ok (by simp only [List.mem_cons, List.not_mem_nil, or_false, forall_eq_or_imp, forall_eq]; exact AngleTurns.ok)) Tryz.func35 (by kernel_rfl) (by kernel_rfl) (n := 8) (ts := [2]) (hd := hd0) (dr := Dr.std) (cut := none) (by kernel_rfl) (by kernel_rfl) (by kernel_rfl) run
end AngleOf

namespace SineTurns
def R : List AVal → Option (Bool × AVal × List Blk)
  | [.flt .f32 x] => some (x == 1048576000, .flt .f32 1065353216, [])
  | _ => none
theorem go :
  runFn Tryz.prog (orc [⟨61, iIsFinite.R⟩, ⟨65, nAbs.R⟩, ⟨67, sine.R⟩]) hd0 Dr.std none 0 (bodyOf Tryz.f37) 16 [2] [.flt .f32 1048576000] []
  = (some (AVal.flt FloatKind.f32 (1065353216 : Nat), [])) := by kernel_rfl
theorem run : ∀ args v new, R args = some (true, v, new) → ∃ fuel, runFn Tryz.prog (orc [⟨61, iIsFinite.R⟩, ⟨65, nAbs.R⟩, ⟨67, sine.R⟩]) hd0 Dr.std none fuel (bodyOf Tryz.f37) 16 [2] args [] = some (v, new) := by
  intro args v new h
  unfold R at h
  split at h
  · rename_i x
    simp only [Option.some.injEq, Prod.mk.injEq, beq_iff_eq] at h
    obtain ⟨rfl, rfl, rfl⟩ := h
    exact ⟨0, go⟩
  · cases h
theorem ok : EntOk Tryz.prog ⟨37, R⟩ :=
  ent_okA mixed (A := (orc [⟨61, iIsFinite.R⟩, ⟨65, nAbs.R⟩, ⟨67, sine.R⟩])) (orc_ok (by simp only [List.mem_cons, List.not_mem_nil, or_false, forall_eq_or_imp, forall_eq]; exact ⟨iIsFinite.ok, nAbs.ok, sine.ok⟩)) Tryz.func37 (by kernel_rfl) (by kernel_rfl) (n := 16) (ts := [2]) (hd := hd0) (dr := Dr.std) (cut := none) (by kernel_rfl) (by kernel_rfl) (by kernel_rfl) run
end SineTurns

end Go.Proofs.YtjhofofieiiplaaGreatDoor.Ab
