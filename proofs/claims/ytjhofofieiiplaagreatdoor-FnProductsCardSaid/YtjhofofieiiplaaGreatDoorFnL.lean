/-
  Functions: roads with slopes and bases.
-/
import Derived.Test.YtjhofofieiiplaaGreatDoorFnJ
namespace Go.Proofs.YtjhofofieiiplaaGreatDoor.Ab
open Go
set_option linter.unusedVariables false
set_option linter.unusedSimpArgs false
set_option maxRecDepth 100000

def fidx.sq {α : Type} (p : α → Bool) : List α → Nat → Int
  | [], _ => -1
  | x :: r, i => bif p x then (i : Int) else fidx.sq p r (i + 1)
theorem fidx_ge {α : Type} (p : α → Bool) (l : List α) (i : Nat) : decide (0 ≤ fidx.sq p l i) = l.any p := by
  induction l generalizing i with
  | nil => rfl
  | cons x r ih =>
    have hi := ih (i + 1)
    by_cases hp : p x = true
    · simp [fidx.sq, hp]
    · have hp' : p x = false := by simpa using hp
      simp only [fidx.sq, List.any_cons, hp', cond_false, Bool.false_or]
      exact hi

namespace flo
def fin.sp (x : Nat) : Bool := FloatKind.f32.format.order (fsub .f32 x x) 0 == some Ordering.eq
def nn.sp (x : Nat) : Bool := FloatKind.f32.format.order x 0 == some Ordering.gt || FloatKind.f32.format.order x 0 == some Ordering.eq
def above.sp (x : Nat) : Bool := fin.sp x && FloatKind.f32.format.order x 0 == some Ordering.gt
def least.sp (x : Nat) : Bool := fin.sp x && nn.sp x
theorem order_comm (k : FloatKind) (a b : Nat) : (k.format.order a b == some Ordering.eq) = (k.format.order b a == some Ordering.eq) := by
  unfold Ieee.Format.order
  cases k.format.read a with
  | nan s f => cases k.format.read b <;> rfl
  | infinity s => cases k.format.read b with
    | nan s f => rfl
    | infinity t => cases s <;> cases t <;> rfl
    | number t m e => cases s <;> rfl
  | number s m e => cases k.format.read b with
    | nan s f => rfl
    | infinity t => cases t <;> rfl
    | number t m' e' =>
      simp only [Ieee.Datum.order, Int.min_comm e' e]
      generalize Ieee.signed s m _ = x
      generalize Ieee.signed t m' _ = y
      rw [Bool.eq_iff_iff]
      simp only [beq_iff_eq, Option.some.injEq, Int.compare_eq_eq]
      exact eq_comm
/-- Not less than zero and not zero is above zero. -/
theorem above_eq (x : Nat) : above.sp x = (least.sp x && !(FloatKind.f32.format.order 0 x == some Ordering.eq)) := by
  unfold above.sp least.sp nn.sp
  rw [order_comm .f32 0 x]
  cases fin.sp x
  · rfl
  · cases FloatKind.f32.format.order x 0 with
    | none => rfl
    | some o => cases o <;> rfl
end flo
namespace l01Finite
def R : List AVal → Option (Bool × AVal × List Blk)
  | [.flt .f32 x] => some (true, .bool (flo.fin.sp x), [])
  | _ => none
theorem go (x : Nat) :
  runFn Tryz.prog (orc []) hd0 Dr.std none 0 (bodyOf Tryz.f62) 7 [2] [.flt .f32 x] []
  = (some (AVal.bool (FloatKind.f32.format.order (fsub FloatKind.f32 x x) (0 : Nat) == some Ordering.eq), [])) := by kernel_rfl
theorem run : ∀ args v new, R args = some (true, v, new) → ∃ fuel, runFn Tryz.prog (orc []) hd0 Dr.std none fuel (bodyOf Tryz.f62) 7 [2] args [] = some (v, new) := by
  intro args v new h
  unfold R at h
  split at h
  · rename_i x
    simp only [Option.some.injEq, Prod.mk.injEq] at h
    obtain ⟨_, rfl, rfl⟩ := h
    refine ⟨0, ?_⟩
    rw [go]
    rfl
  · cases h
theorem ok : EntOk Tryz.prog ⟨62, R⟩ :=
  ent_okA mixed (A := (orc [])) (orc_ok (by simp)) Tryz.func62 (by kernel_rfl) (by kernel_rfl) (n := 7) (ts := [2]) (hd := hd0) (dr := Dr.std) (cut := none) (by kernel_rfl) (by kernel_rfl) (by kernel_rfl) run
end l01Finite

namespace iIsFinite
def R : List AVal → Option (Bool × AVal × List Blk)
  | [.flt .f32 x] => some (true, .bool (flo.fin.sp x), [])
  | _ => none
theorem go (x : Nat) :
  runFn Tryz.prog (orc []) hd0 Dr.std none 0 (bodyOf Tryz.f61) 7 [2] [.flt .f32 x] []
  = (some (AVal.bool (FloatKind.f32.format.order (fsub FloatKind.f32 x x) (0 : Nat) == some Ordering.eq), [])) := by kernel_rfl
theorem run : ∀ args v new, R args = some (true, v, new) → ∃ fuel, runFn Tryz.prog (orc []) hd0 Dr.std none fuel (bodyOf Tryz.f61) 7 [2] args [] = some (v, new) := by
  intro args v new h
  unfold R at h
  split at h
  · rename_i x
    simp only [Option.some.injEq, Prod.mk.injEq] at h
    obtain ⟨_, rfl, rfl⟩ := h
    refine ⟨0, ?_⟩
    rw [go]
    rfl
  · cases h
theorem ok : EntOk Tryz.prog ⟨61, R⟩ :=
  ent_okA mixed (A := (orc [])) (orc_ok (by simp)) Tryz.func61 (by kernel_rfl) (by kernel_rfl) (n := 7) (ts := [2]) (hd := hd0) (dr := Dr.std) (cut := none) (by kernel_rfl) (by kernel_rfl) (by kernel_rfl) run
end iIsFinite












def feq.sp (v x : Nat) : Bool := FloatKind.f32.format.order v x == some Ordering.eq


namespace rdl
def sp (xs ys : List Nat) : Bool := ((decide (1 ≤ xs.length) && decide (xs.length ≤ 8)) && decide (ys.length = xs.length)) && (xs.all flo.above.sp && ys.all flo.least.sp)
end rdl


end Go.Proofs.YtjhofofieiiplaaGreatDoor.Ab
