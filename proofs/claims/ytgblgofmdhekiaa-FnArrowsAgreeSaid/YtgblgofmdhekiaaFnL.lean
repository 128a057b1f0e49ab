/-
  Functions: roads with slopes and bases.
-/
import Derived.Test.YtgblgofmdhekiaaFnJ
namespace Go.Proofs.Ytgblgofmdhekiaa.Ab
open Go
set_option linter.unusedVariables false
set_option linter.unusedSimpArgs false
set_option maxRecDepth 100000

def fidx.sq {α : Type} (p : α → Bool) : List α → Nat → Int
  | [], _ => -1
  | x :: r, i => bif p x then (i : Int) else fidx.sq p r (i + 1)
theorem fidx_ge {α : Type} (p : α → Bool) (l : List α) (i : Nat) : decide (0 ≤ fidx.sq p l i) = l.any p := by
  induction l generalizing i with
  | nil => rfl
  | cons x r ih =>
    have hi := ih (i + 1)
    by_cases hp : p x = true
    · simp [fidx.sq, hp]
    · have hp' : p x = false := by simpa using hp
      simp only [fidx.sq, List.any_cons, hp', cond_false, Bool.false_or]
      exact hi

namespace flo
def fin.sp (x : Nat) : Bool := FloatKind.f32.format.order (fsub .f32 x x) 0 == some Ordering.eq
def nn.sp (x : Nat) : Bool := FloatKind.f32.format.order x 0 == some Ordering.gt || FloatKind.f32.format.order x 0 == some Ordering.eq
def above.sp (x : Nat) : Bool := fin.sp x && FloatKind.f32.format.order x 0 == some Ordering.gt
def least.sp (x : Nat) : Bool := fin.sp x && nn.sp x
theorem order_comm (k : FloatKind) (a b : Nat) : (k.format.order a b == some Ordering.eq) = (k.format.order b a == some Ordering.eq) := by
  unfold Ieee.Format.order
  cases k.format.read a with
  | nan s f => cases k.format.read b <;> rfl
  | infinity s => cases k.format.read b with
    | nan s f => rfl
    | infinity t => cases s <;> cases t <;> rfl
    | number t m e => cases s <;> rfl
  | number s m e => cases k.format.read b with
    | nan s f => rfl
    | infinity t => cases t <;> rfl
    | number t m' e' =>
      simp only [Ieee.Datum.order, Int.min_comm e' e]
      generalize Ieee.signed s m _ = x
      generalize Ieee.signed t m' _ = y
      rw [Bool.eq_iff_iff]
      simp only [beq_iff_eq, Option.some.injEq, Int.compare_eq_eq]
      exact eq_comm
/-- Not less than zero and not zero is above zero. -/
theorem above_eq (x : Nat) : above.sp x = (least.sp x && !(FloatKind.f32.format.order 0 x == some Ordering.eq)) := by
  unfold above.sp least.sp nn.sp
  rw [order_comm .f32 0 x]
  cases fin.sp x
  · rfl
  · cases FloatKind.f32.format.order x 0 with
    | none => rfl
    | some o => cases o <;> rfl
end flo

namespace iIsFinite
def R : List AVal → Option (Bool × AVal × List Blk)
  | [.flt .f32 x] => some (true, .bool (flo.fin.sp x), [])
  | _ => none
theorem go (x : Nat) :
  runFn Try.prog (orc []) hd0 Dr.std none 0 (bodyOf Try.f50) 7 [2] [.flt .f32 x] []
  = (some (AVal.bool (FloatKind.f32.format.order (fsub FloatKind.f32 x x) (0 : Nat) == some Ordering.eq), [])) := by kernel_rfl
theorem run : ∀ args v new, R args = some (true, v, new) → ∃ fuel, runFn Try.prog (orc []) hd0 Dr.std none fuel (bodyOf Try.f50) 7 [2] args [] = some (v, new) := by
  intro args v new h
  unfold R at h
  split at h
  · rename_i x
    simp only [Option.some.injEq, Prod.mk.injEq] at h
    obtain ⟨_, rfl, rfl⟩ := h
    refine ⟨0, ?_⟩
    rw [go]
    rfl
  · cases h
theorem ok : EntOk Try.prog ⟨50, R⟩ :=
  ent_okA mixed (A := (orc [])) (orc_ok (by simp)) Try.func50 (by kernel_rfl) (by kernel_rfl) (n := 7) (ts := [2]) (hd := hd0) (dr := Dr.std) (cut := none) (by kernel_rfl) (by kernel_rfl) (by kernel_rfl) run
end iIsFinite




namespace areFinite_1
def sp (x : Nat) : Bool := !flo.fin.sp x
def R : List AVal → Option (Bool × AVal × List Blk)
  | [.flt .f32 x] => some (true, .bool (sp x), [])
  | _ => none
theorem go (x : Nat) :
  runFn Try.prog (orc [⟨50, iIsFinite.R⟩]) hd0 Dr.std none 0 (bodyOf Try.f80) 6 [2] [.flt .f32 x] []
  = (bif true && (true && true || true && true) then some (AVal.bool !flo.fin.sp x, []) else none) := by kernel_rfl
theorem run : ∀ args v new, R args = some (true, v, new) → ∃ fuel, runFn Try.prog (orc [⟨50, iIsFinite.R⟩]) hd0 Dr.std none fuel (bodyOf Try.f80) 6 [2] args [] = some (v, new) := by
  intro args v new h
  unfold R at h
  split at h
  · rename_i x
    simp only [Option.some.injEq, Prod.mk.injEq] at h
    obtain ⟨_, rfl, rfl⟩ := h
    refine ⟨0, ?_⟩
    rw [go]
    rfl
  · cases h
theorem ok : EntOk Try.prog ⟨80, R⟩ :=
  ent_okA mixed (A := (orc [⟨50, iIsFinite.R⟩])) (orc_ok (by simp only [List.mem_cons, List.not_mem_nil, or_false, forall_eq_or_imp, forall_eq]; exact iIsFinite.ok)) Try.func80 (by kernel_rfl) (by kernel_rfl) (n := 6) (ts := [2]) (hd := hd0) (dr := Dr.std) (cut := none) (by kernel_rfl) (by kernel_rfl) (by kernel_rfl) run
end areFinite_1

namespace areNotLess_1
def sp (x : Nat) : Bool := !flo.nn.sp x
def R : List AVal → Option (Bool × AVal × List Blk)
  | [.flt .f32 x] => some (true, .bool (sp x), [])
  | _ => none
theorem go (x : Nat) :
  runFn Try.prog (orc []) hd0 Dr.std none 0 (bodyOf Try.f86) 6 [2] [.flt .f32 x] []
  = (some (AVal.bool !(FloatKind.f32.format.order x (0 : Nat) == some Ordering.gt || FloatKind.f32.format.order x (0 : Nat) == some Ordering.eq), [])) := by kernel_rfl
theorem run : ∀ args v new, R args = some (true, v, new) → ∃ fuel, runFn Try.prog (orc []) hd0 Dr.std none fuel (bodyOf Try.f86) 6 [2] args [] = some (v, new) := by
  intro args v new h
  unfold R at h
  split at h
  · rename_i x
    simp only [Option.some.injEq, Prod.mk.injEq] at h
    obtain ⟨_, rfl, rfl⟩ := h
    refine ⟨0, ?_⟩
    rw [go]
    rfl
  · cases h
theorem ok : EntOk Try.prog ⟨86, R⟩ :=
  ent_okA mixed (A := (orc [])) (orc_ok (by simp)) Try.func86 (by kernel_rfl) (by kernel_rfl) (n := 6) (ts := [2]) (hd := hd0) (dr := Dr.std) (cut := none) (by kernel_rfl) (by kernel_rfl) (by kernel_rfl) run
end areNotLess_1

namespace idxFinite
def R : List AVal → Option (Bool × AVal × List Blk)
  | [.ro (.flts .f32 xs) m 1, .fn ff []] => some (decide (m ≤ xs.length ∧ m ≤ 4611686018427387904 ∧ ff = 80), .int .i64 (fidx.sq (areFinite_1.sp) (xs.take m) 0), [])
  | _ => none
def hd : Nat → Head := fun _ => ⟨[0, 1, 4, 7, 8], none⟩
noncomputable def L (f n : Nat) (s : State) := loopAt Try.prog (orc [⟨80, areFinite_1.R⟩]) hd Dr.std 0 f (bodyOf Try.f98) 0 [true, false, true] (retK Try.prog [4] 0 none) n s
theorem start (xs : List (Nat)) (m : Nat)  (f : Nat) :
  runFn Try.prog (orc [⟨80, areFinite_1.R⟩]) hd Dr.std none f (bodyOf Try.f98) 19 [4] [.ro (.flts .f32 xs) m 1, .fn 80 []] []
  = (L f f (mkS (19 : Nat) [((0 : Nat), AVal.ro (Cont.flts FloatKind.f32 xs) m (1 : Nat)), ((1 : Nat), AVal.fn (80 : Nat) []), ((4 : Nat), AVal.int IntKind.i64 (0 : Int)), ((7 : Nat), AVal.int IntKind.i64 (↑m : Int)), ((8 : Nat), AVal.int IntKind.i64 (0 : Int))] [])) := by kernel_rfl
theorem round (xs : List (Nat)) (m i : Nat)  (f n : Nat) :
  L f (n + 1) (mkS 19 [(0, .ro (.flts .f32 xs) m 1), (1, .fn 80 []), (4, .int .i64 0), (7, .int .i64 m), (8, .int .i64 i)] [])
  = (bif decide ((↑i : Int) < (↑m : Int)) then bif true && (decide ((0 : Int) ≤ (↑i : Int)) && decide ((↑i : Int) < (↑m : Int))) then bif decide ((↑i : Int).toNat < xs.length) then bif true && (true && true || true && true) then bif areFinite_1.sp (gn xs (↑i : Int).toNat) then some (AVal.int IntKind.i64 (↑i : Int), []) else L f n (mkS (19 : Nat) [((0 : Nat), AVal.ro (Cont.flts FloatKind.f32 xs) m (1 : Nat)), ((1 : Nat), AVal.fn (80 : Nat) []), ((4 : Nat), AVal.int IntKind.i64 (0 : Int)), ((7 : Nat), AVal.int IntKind.i64 (↑m : Int)), ((8 : Nat), AVal.int IntKind.i64 (IntKind.i64.wrap ((↑i : Int) + (1 : Int))))] []) else none else none else none else some (AVal.int IntKind.i64 (-1 : Int), [])) := by kernel_rfl
theorem loop (xs : List (Nat)) (m : Nat)  (f : Nat) (hx : m ≤ xs.length) (hb : m ≤ 4611686018427387904) : ∀ (d i n : Nat) , i + d = m → d < n →
    L f n (mkS 19 [(0, .ro (.flts .f32 xs) m 1), (1, .fn 80 []), (4, .int .i64 0), (7, .int .i64 m), (8, .int .i64 i)] []) = some (.int .i64 (fidx.sq (areFinite_1.sp) ((xs.take m).drop i) i), []) := by
  intro d
  induction d with
  | zero =>
    intro i n  hi hn 
    obtain ⟨n, rfl⟩ : ∃ k, n = k + 1 := ⟨n - 1, by omega⟩
    obtain rfl : i = m := by omega
    rw [round]
    have e : (xs.take i).drop i = [] := by simp
    rw [e]
    simp [fidx.sq]
  | succ d ih =>
    intro i n  hi hn 
    obtain ⟨n, rfl⟩ : ∃ k, n = k + 1 := ⟨n - 1, by omega⟩
    have h1 : i < m := by omega
    have h4 : (0 : Int) ≤ (i : Int) := Int.natCast_nonneg _
    have h5 : (i : Int) < (m : Int) := by omega
    have h2 : i < xs.length := by omega
    rw [round]
    rw [drop_take_consN hx h1]
    simp only [fidx.sq]
    have hr := ih (i + 1) n (by omega) (by omega)
    simp only [h4, h5, h2, gn_eq h2, decide_true, Bool.and_self, Bool.or_self, Bool.and_true, Bool.true_and, cond_true, Int.toNat_natCast, wrap_nat i (by omega)]
    first
      | (rw [hr]; cases areFinite_1.sp xs[i] <;> rfl)
      | (cases hp : areFinite_1.sp xs[i] <;> simp_all)
theorem run : ∀ args v new, R args = some (true, v, new) → ∃ fuel, runFn Try.prog (orc [⟨80, areFinite_1.R⟩]) hd Dr.std none fuel (bodyOf Try.f98) 19 [4] args [] = some (v, new) := by
  intro args v new h
  unfold R at h
  split at h
  · rename_i xs m ff 
    simp only [Option.some.injEq, Prod.mk.injEq, decide_eq_true_eq] at h
    obtain ⟨⟨h1, h2, rfl⟩, rfl, rfl⟩ := h
    refine ⟨m + 1, ?_⟩
    rw [start]
    have hl := loop xs m  (m + 1) h1 h2 m 0 (m + 1) (by omega) (by omega)
    simpa using hl
  · cases h
theorem ok : EntOk Try.prog ⟨98, R⟩ :=
  ent_okA mixed (A := (orc [⟨80, areFinite_1.R⟩])) (orc_ok (by simp only [List.mem_cons, List.not_mem_nil, or_false, forall_eq_or_imp, forall_eq]; exact areFinite_1.ok)) Try.func98 (by kernel_rfl) (by kernel_rfl) (n := 19) (ts := [4]) (hd := hd) (dr := Dr.std) (cut := none) (by kernel_rfl) (by kernel_rfl) (by kernel_rfl) run
end idxFinite

namespace hasFinite
def R : List AVal → Option (Bool × AVal × List Blk)
  | [.ro (.flts .f32 xs) m 1, .fn ff []] => some (decide (m ≤ xs.length ∧ m ≤ 4611686018427387904 ∧ ff = 80), .bool ((xs.take m).any (areFinite_1.sp)), [])
  | _ => none
theorem go (xs : List (Nat)) (m : Nat) :
  runFn Try.prog (orc [⟨98, idxFinite.R⟩]) hd0 Dr.std none 0 (bodyOf Try.f79) 9 [4] [.ro (.flts .f32 xs) m 1, .fn 80 []] []
  = (bif decide (m ≤ xs.length ∧ m ≤ (4611686018427387904 : Nat) ∧ (80 : FuncId) = (80 : FuncId)) && (true && true || true && true) then some (AVal.bool (decide ((0 : Int) ≤ fidx.sq areFinite_1.sp (List.take m xs) (0 : Nat))), []) else none) := by kernel_rfl
theorem run : ∀ args v new, R args = some (true, v, new) → ∃ fuel, runFn Try.prog (orc [⟨98, idxFinite.R⟩]) hd0 Dr.std none fuel (bodyOf Try.f79) 9 [4] args [] = some (v, new) := by
  intro args v new h
  unfold R at h
  split at h
  · rename_i xs m ff 
    simp only [Option.some.injEq, Prod.mk.injEq, decide_eq_true_eq] at h
    obtain ⟨⟨h1, h2, rfl⟩, rfl, rfl⟩ := h
    refine ⟨0, ?_⟩
    rw [go]
    simp only [h1, h2, true_and, and_self, decide_true, Bool.and_self, Bool.or_self, Bool.and_true, Bool.or_true, cond_true, fidx_ge]
  · cases h
theorem ok : EntOk Try.prog ⟨79, R⟩ :=
  ent_okA mixed (A := (orc [⟨98, idxFinite.R⟩])) (orc_ok (by simp only [List.mem_cons, List.not_mem_nil, or_false, forall_eq_or_imp, forall_eq]; exact idxFinite.ok)) Try.func79 (by kernel_rfl) (by kernel_rfl) (n := 9) (ts := [4]) (hd := hd0) (dr := Dr.std) (cut := none) (by kernel_rfl) (by kernel_rfl) (by kernel_rfl) run
end hasFinite

namespace idxNotLess
def R : List AVal → Option (Bool × AVal × List Blk)
  | [.ro (.flts .f32 xs) m 1, .fn ff []] => some (decide (m ≤ xs.length ∧ m ≤ 4611686018427387904 ∧ ff = 86), .int .i64 (fidx.sq (areNotLess_1.sp) (xs.take m) 0), [])
  | _ => none
def hd : Nat → Head := fun _ => ⟨[0, 1, 4, 7, 8], none⟩
noncomputable def L (f n : Nat) (s : State) := loopAt Try.prog (orc [⟨86, areNotLess_1.R⟩]) hd Dr.std 0 f (bodyOf Try.f98) 0 [true, false, true] (retK Try.prog [4] 0 none) n s
theorem start (xs : List (Nat)) (m : Nat)  (f : Nat) :
  runFn Try.prog (orc [⟨86, areNotLess_1.R⟩]) hd Dr.std none f (bodyOf Try.f98) 19 [4] [.ro (.flts .f32 xs) m 1, .fn 86 []] []
  = (L f f (mkS (19 : Nat) [((0 : Nat), AVal.ro (Cont.flts FloatKind.f32 xs) m (1 : Nat)), ((1 : Nat), AVal.fn (86 : Nat) []), ((4 : Nat), AVal.int IntKind.i64 (0 : Int)), ((7 : Nat), AVal.int IntKind.i64 (↑m : Int)), ((8 : Nat), AVal.int IntKind.i64 (0 : Int))] [])) := by kernel_rfl
theorem round (xs : List (Nat)) (m i : Nat)  (f n : Nat) :
  L f (n + 1) (mkS 19 [(0, .ro (.flts .f32 xs) m 1), (1, .fn 86 []), (4, .int .i64 0), (7, .int .i64 m), (8, .int .i64 i)] [])
  = (bif decide ((↑i : Int) < (↑m : Int)) then bif true && (decide ((0 : Int) ≤ (↑i : Int)) && decide ((↑i : Int) < (↑m : Int))) then bif decide ((↑i : Int).toNat < xs.length) then bif true && (true && true || true && true) then bif areNotLess_1.sp (gn xs (↑i : Int).toNat) then some (AVal.int IntKind.i64 (↑i : Int), []) else L f n (mkS (19 : Nat) [((0 : Nat), AVal.ro (Cont.flts FloatKind.f32 xs) m (1 : Nat)), ((1 : Nat), AVal.fn (86 : Nat) []), ((4 : Nat), AVal.int IntKind.i64 (0 : Int)), ((7 : Nat), AVal.int IntKind.i64 (↑m : Int)), ((8 : Nat), AVal.int IntKind.i64 (IntKind.i64.wrap ((↑i : Int) + (1 : Int))))] []) else none else none else none else some (AVal.int IntKind.i64 (-1 : Int), [])) := by kernel_rfl
theorem loop (xs : List (Nat)) (m : Nat)  (f : Nat) (hx : m ≤ xs.length) (hb : m ≤ 4611686018427387904) : ∀ (d i n : Nat) , i + d = m → d < n →
    L f n (mkS 19 [(0, .ro (.flts .f32 xs) m 1), (1, .fn 86 []), (4, .int .i64 0), (7, .int .i64 m), (8, .int .i64 i)] []) = some (.int .i64 (fidx.sq (areNotLess_1.sp) ((xs.take m).drop i) i), []) := by
  intro d
  induction d with
  | zero =>
    intro i n  hi hn 
    obtain ⟨n, rfl⟩ : ∃ k, n = k + 1 := ⟨n - 1, by omega⟩
    obtain rfl : i = m := by omega
    rw [round]
    have e : (xs.take i).drop i = [] := by simp
    rw [e]
    simp [fidx.sq]
  | succ d ih =>
    intro i n  hi hn 
    obtain ⟨n, rfl⟩ : ∃ k, n = k + 1 := ⟨n - 1, by omega⟩
    have h1 : i < m := by omega
    have h4 : (0 : Int) ≤ (i : Int) := Int.natCast_nonneg _
    have h5 : (i : Int) < (m : Int) := by omega
    have h2 : i < xs.length := by omega
    rw [round]
    rw [drop_take_consN hx h1]
    simp only [fidx.sq]
    have hr := ih (i + 1) n (by omega) (by omega)
    simp only [h4, h5, h2, gn_eq h2, decide_true, Bool.and_self, Bool.or_self, Bool.and_true, Bool.true_and, cond_true, Int.toNat_natCast, wrap_nat i (by omega)]
    first
      | (rw [hr]; cases areNotLess_1.sp xs[i] <;> rfl)
      | (cases hp : areNotLess_1.sp xs[i] <;> simp_all)
theorem run : ∀ args v new, R args = some (true, v, new) → ∃ fuel, runFn Try.prog (orc [⟨86, areNotLess_1.R⟩]) hd Dr.std none fuel (bodyOf Try.f98) 19 [4] args [] = some (v, new) := by
  intro args v new h
  unfold R at h
  split at h
  · rename_i xs m ff 
    simp only [Option.some.injEq, Prod.mk.injEq, decide_eq_true_eq] at h
    obtain ⟨⟨h1, h2, rfl⟩, rfl, rfl⟩ := h
    refine ⟨m + 1, ?_⟩
    rw [start]
    have hl := loop xs m  (m + 1) h1 h2 m 0 (m + 1) (by omega) (by omega)
    simpa using hl
  · cases h
theorem ok : EntOk Try.prog ⟨98, R⟩ :=
  ent_okA mixed (A := (orc [⟨86, areNotLess_1.R⟩])) (orc_ok (by simp only [List.mem_cons, List.not_mem_nil, or_false, forall_eq_or_imp, forall_eq]; exact areNotLess_1.ok)) Try.func98 (by kernel_rfl) (by kernel_rfl) (n := 19) (ts := [4]) (hd := hd) (dr := Dr.std) (cut := none) (by kernel_rfl) (by kernel_rfl) (by kernel_rfl) run
end idxNotLess

namespace hasNotLess
def R : List AVal → Option (Bool × AVal × List Blk)
  | [.ro (.flts .f32 xs) m 1, .fn ff []] => some (decide (m ≤ xs.length ∧ m ≤ 4611686018427387904 ∧ ff = 86), .bool ((xs.take m).any (areNotLess_1.sp)), [])
  | _ => none
theorem go (xs : List (Nat)) (m : Nat) :
  runFn Try.prog (orc [⟨98, idxNotLess.R⟩]) hd0 Dr.std none 0 (bodyOf Try.f79) 9 [4] [.ro (.flts .f32 xs) m 1, .fn 86 []] []
  = (bif decide (m ≤ xs.length ∧ m ≤ (4611686018427387904 : Nat) ∧ (86 : FuncId) = (86 : FuncId)) && (true && true || true && true) then some (AVal.bool (decide ((0 : Int) ≤ fidx.sq areNotLess_1.sp (List.take m xs) (0 : Nat))), []) else none) := by kernel_rfl
theorem run : ∀ args v new, R args = some (true, v, new) → ∃ fuel, runFn Try.prog (orc [⟨98, idxNotLess.R⟩]) hd0 Dr.std none fuel (bodyOf Try.f79) 9 [4] args [] = some (v, new) := by
  intro args v new h
  unfold R at h
  split at h
  · rename_i xs m ff 
    simp only [Option.some.injEq, Prod.mk.injEq, decide_eq_true_eq] at h
    obtain ⟨⟨h1, h2, rfl⟩, rfl, rfl⟩ := h
    refine ⟨0, ?_⟩
    rw [go]
    simp only [h1, h2, true_and, and_self, decide_true, Bool.and_self, Bool.or_self, Bool.and_true, Bool.or_true, cond_true, fidx_ge]
  · cases h
theorem ok : EntOk Try.prog ⟨79, R⟩ :=
  ent_okA mixed (A := (orc [⟨98, idxNotLess.R⟩])) (orc_ok (by simp only [List.mem_cons, List.not_mem_nil, or_false, forall_eq_or_imp, forall_eq]; exact idxNotLess.ok)) Try.func79 (by kernel_rfl) (by kernel_rfl) (n := 9) (ts := [4]) (hd := hd0) (dr := Dr.std) (cut := none) (by kernel_rfl) (by kernel_rfl) (by kernel_rfl) run
end hasNotLess

namespace areFinite
def R : List AVal → Option (Bool × AVal × List Blk)
  | [.ro (.flts .f32 xs) m 1] => some (decide (m ≤ xs.length ∧ m ≤ 4611686018427387904), .bool (!(xs.take m).any areFinite_1.sp), [])
  | _ => none
theorem go (xs : List Nat) (m : Nat) :
  runFn Try.prog (orc [⟨79, hasFinite.R⟩]) hd0 Dr.std none 0 (bodyOf Try.f54) 6 [2] [.ro (.flts .f32 xs) m 1] []
  = (bif decide (m ≤ xs.length ∧ m ≤ (4611686018427387904 : Nat) ∧ (80 : Nat) = (80 : FuncId)) && (true && true || true && true) then some (AVal.bool !(List.take m xs).any areFinite_1.sp, []) else none) := by kernel_rfl
theorem run : ∀ args v new, R args = some (true, v, new) → ∃ fuel, runFn Try.prog (orc [⟨79, hasFinite.R⟩]) hd0 Dr.std none fuel (bodyOf Try.f54) 6 [2] args [] = some (v, new) := by
  intro args v new h
  unfold R at h
  split at h
  · rename_i xs m
    simp only [Option.some.injEq, Prod.mk.injEq, decide_eq_true_eq] at h
    obtain ⟨⟨h1, h2⟩, rfl, rfl⟩ := h
    refine ⟨0, ?_⟩
    rw [go]
    simp only [h1, h2, and_self, decide_true, Bool.and_self, Bool.or_self, Bool.and_true, Bool.or_true, cond_true]
  · cases h
theorem ok : EntOk Try.prog ⟨54, R⟩ :=
  ent_okA mixed (A := (orc [⟨79, hasFinite.R⟩])) (orc_ok (by simp only [List.mem_cons, List.not_mem_nil, or_false, forall_eq_or_imp, forall_eq]; exact hasFinite.ok)) Try.func54 (by kernel_rfl) (by kernel_rfl) (n := 6) (ts := [2]) (hd := hd0) (dr := Dr.std) (cut := none) (by kernel_rfl) (by kernel_rfl) (by kernel_rfl) run
end areFinite

namespace areNotLess
theorem all_split (l : List Nat) : l.all flo.least.sp = (!l.any areFinite_1.sp && !l.any areNotLess_1.sp) := by
  induction l with
  | nil => rfl
  | cons x r ih =>
    simp only [List.all_cons, List.any_cons, ih, flo.least.sp, areFinite_1.sp, areNotLess_1.sp]
    cases flo.fin.sp x <;> cases flo.nn.sp x <;> simp
def R : List AVal → Option (Bool × AVal × List Blk)
  | [.ro (.flts .f32 xs) m 1] => some (decide (m ≤ xs.length ∧ m ≤ 4611686018427387904), .bool ((xs.take m).all flo.least.sp), [])
  | _ => none
theorem go (xs : List Nat) (m : Nat) :
  runFn Try.prog (orc [⟨54, areFinite.R⟩, ⟨79, hasNotLess.R⟩]) hd0 Dr.std none 0 (bodyOf Try.f63) 10 [2] [.ro (.flts .f32 xs) m 1] []
  = (bif decide (m ≤ xs.length ∧ m ≤ (4611686018427387904 : Nat)) && (true && true || true && true) then bif !(List.take m xs).any areFinite_1.sp then bif decide (m ≤ xs.length ∧ m ≤ (4611686018427387904 : Nat) ∧ (86 : Nat) = (86 : FuncId)) && (true && true || true && true) then some (AVal.bool !(List.take m xs).any areNotLess_1.sp, []) else none else some (AVal.bool false, []) else none) := by kernel_rfl
theorem run : ∀ args v new, R args = some (true, v, new) → ∃ fuel, runFn Try.prog (orc [⟨54, areFinite.R⟩, ⟨79, hasNotLess.R⟩]) hd0 Dr.std none fuel (bodyOf Try.f63) 10 [2] args [] = some (v, new) := by
  intro args v new h
  unfold R at h
  split at h
  · rename_i xs m
    simp only [Option.some.injEq, Prod.mk.injEq, decide_eq_true_eq] at h
    obtain ⟨⟨h1, h2⟩, rfl, rfl⟩ := h
    refine ⟨0, ?_⟩
    rw [go]
    simp only [h1, h2, and_self, decide_true, Bool.and_self, Bool.or_self, Bool.and_true, Bool.or_true, cond_true]
    rw [all_split]
    cases (xs.take m).any areFinite_1.sp <;> rfl
  · cases h
theorem ok : EntOk Try.prog ⟨63, R⟩ :=
  ent_okA mixed (A := (orc [⟨54, areFinite.R⟩, ⟨79, hasNotLess.R⟩])) (orc_ok (by simp only [List.mem_cons, List.not_mem_nil, or_false, forall_eq_or_imp, forall_eq]; exact ⟨areFinite.ok, hasNotLess.ok⟩)) Try.func63 (by kernel_rfl) (by kernel_rfl) (n := 10) (ts := [2]) (hd := hd0) (dr := Dr.std) (cut := none) (by kernel_rfl) (by kernel_rfl) (by kernel_rfl) run
end areNotLess

def feq.sp (v x : Nat) : Bool := FloatKind.f32.format.order v x == some Ordering.eq
namespace slIndexF
def R : List AVal → Option (Bool × AVal × List Blk)
  | [.ro (.flts .f32 xs) m 1, .flt .f32 v] => some (decide (m ≤ xs.length ∧ m ≤ 4611686018427387904), .int .i64 (fidx.sq (feq.sp v) (xs.take m) 0), [])
  | _ => none
def hd : Nat → Head := fun _ => ⟨[0, 1, 4, 7, 8], none⟩
noncomputable def L (f n : Nat) (s : State) := loopAt Try.prog (orc []) hd Dr.std 0 f (bodyOf Try.f99) 0 [true, false, true] (retK Try.prog [4] 0 none) n s
theorem start (xs : List Nat) (m v : Nat) (f : Nat) :
  runFn Try.prog (orc []) hd Dr.std none f (bodyOf Try.f99) 19 [4] [.ro (.flts .f32 xs) m 1, .flt .f32 v] []
  = (L f f (mkS (19 : Nat) [((0 : Nat), AVal.ro (Cont.flts FloatKind.f32 xs) m (1 : Nat)), ((1 : Nat), AVal.flt FloatKind.f32 v), ((4 : Nat), AVal.int IntKind.i64 (0 : Int)), ((7 : Nat), AVal.int IntKind.i64 (↑m : Int)), ((8 : Nat), AVal.int IntKind.i64 (0 : Int))] [])) := by kernel_rfl
theorem round (xs : List Nat) (m v i : Nat) (f n : Nat) :
  L f (n + 1) (mkS 19 [(0, .ro (.flts .f32 xs) m 1), (1, .flt .f32 v), (4, .int .i64 0), (7, .int .i64 m), (8, .int .i64 i)] [])
  = (bif decide ((↑i : Int) < (↑m : Int)) then bif true && (decide ((0 : Int) ≤ (↑i : Int)) && decide ((↑i : Int) < (↑m : Int))) then bif decide ((↑i : Int).toNat < xs.length) then bif FloatKind.f32.format.order v (gn xs (↑i : Int).toNat) == some Ordering.eq then some (AVal.int IntKind.i64 (↑i : Int), []) else L f n (mkS (19 : Nat) [((0 : Nat), AVal.ro (Cont.flts FloatKind.f32 xs) m (1 : Nat)), ((1 : Nat), AVal.flt FloatKind.f32 v), ((4 : Nat), AVal.int IntKind.i64 (0 : Int)), ((7 : Nat), AVal.int IntKind.i64 (↑m : Int)), ((8 : Nat), AVal.int IntKind.i64 (IntKind.i64.wrap ((↑i : Int) + (1 : Int))))] []) else none else none else some (AVal.int IntKind.i64 (-1 : Int), [])) := by kernel_rfl
theorem loop (xs : List Nat) (m v : Nat) (f : Nat) (hx : m ≤ xs.length) (hb : m ≤ 4611686018427387904) : ∀ (d i n : Nat) , i + d = m → d < n →
    L f n (mkS 19 [(0, .ro (.flts .f32 xs) m 1), (1, .flt .f32 v), (4, .int .i64 0), (7, .int .i64 m), (8, .int .i64 i)] []) = some (.int .i64 (fidx.sq (feq.sp v) ((xs.take m).drop i) i), []) := by
  intro d
  induction d with
  | zero =>
    intro i n  hi hn 
    obtain ⟨n, rfl⟩ : ∃ k, n = k + 1 := ⟨n - 1, by omega⟩
    obtain rfl : i = m := by omega
    rw [round]
    have e : (xs.take i).drop i = [] := by simp
    rw [e]
    simp [fidx.sq]
  | succ d ih =>
    intro i n  hi hn 
    obtain ⟨n, rfl⟩ : ∃ k, n = k + 1 := ⟨n - 1, by omega⟩
    have h1 : i < m := by omega
    have h4 : (0 : Int) ≤ (i : Int) := Int.natCast_nonneg _
    have h5 : (i : Int) < (m : Int) := by omega
    have h2 : i < xs.length := by omega
    rw [round]
    rw [drop_take_consN hx h1]
    simp only [fidx.sq]
    have hr := ih (i + 1) n (by omega) (by omega)
    simp only [h4, h5, h2, gn_eq h2, decide_true, Bool.and_self, Bool.or_self, Bool.and_true, Bool.true_and, cond_true, Int.toNat_natCast, wrap_nat i (by omega)]
    rw [hr]
    have hp : (FloatKind.f32.format.order v xs[i] == some Ordering.eq) = feq.sp v xs[i] := rfl
    rw [hp]
    cases feq.sp v xs[i] <;> rfl
theorem run : ∀ args v new, R args = some (true, v, new) → ∃ fuel, runFn Try.prog (orc []) hd Dr.std none fuel (bodyOf Try.f99) 19 [4] args [] = some (v, new) := by
  intro args v new h
  unfold R at h
  split at h
  · rename_i xs m v
    simp only [Option.some.injEq, Prod.mk.injEq, decide_eq_true_eq] at h
    obtain ⟨⟨h1, h2⟩, rfl, rfl⟩ := h
    refine ⟨m + 1, ?_⟩
    rw [start]
    have hl := loop xs m v (m + 1) h1 h2 m 0 (m + 1) (by omega) (by omega)
    simpa using hl
  · cases h
theorem ok : EntOk Try.prog ⟨99, R⟩ :=
  ent_okA mixed (A := (orc [])) (orc_ok (by simp)) Try.func99 (by kernel_rfl) (by kernel_rfl) (n := 19) (ts := [4]) (hd := hd) (dr := Dr.std) (cut := none) (by kernel_rfl) (by kernel_rfl) (by kernel_rfl) run
end slIndexF

namespace slContainsF
def R : List AVal → Option (Bool × AVal × List Blk)
  | [.ro (.flts .f32 xs) m 1, .flt .f32 v] => some (decide (m ≤ xs.length ∧ m ≤ 4611686018427387904), .bool ((xs.take m).any (feq.sp v)), [])
  | _ => none
theorem go (xs : List Nat) (m v : Nat) :
  runFn Try.prog (orc [⟨99, slIndexF.R⟩]) hd0 Dr.std none 0 (bodyOf Try.f84) 9 [4] [.ro (.flts .f32 xs) m 1, .flt .f32 v] []
  = (bif decide (m ≤ xs.length ∧ m ≤ (4611686018427387904 : Nat)) && (true && (true && true) || true && true) then some (AVal.bool (decide ((0 : Int) ≤ fidx.sq (feq.sp v) (List.take m xs) (0 : Nat))), []) else none) := by kernel_rfl
theorem run : ∀ args v new, R args = some (true, v, new) → ∃ fuel, runFn Try.prog (orc [⟨99, slIndexF.R⟩]) hd0 Dr.std none fuel (bodyOf Try.f84) 9 [4] args [] = some (v, new) := by
  intro args v new h
  unfold R at h
  split at h
  · rename_i xs m v
    simp only [Option.some.injEq, Prod.mk.injEq, decide_eq_true_eq] at h
    obtain ⟨⟨h1, h2⟩, rfl, rfl⟩ := h
    refine ⟨0, ?_⟩
    rw [go]
    simp only [h1, h2, true_and, and_self, decide_true, Bool.and_self, Bool.or_self, Bool.and_true, Bool.or_true, cond_true, fidx_ge]
  · cases h
theorem ok : EntOk Try.prog ⟨84, R⟩ :=
  ent_okA mixed (A := (orc [⟨99, slIndexF.R⟩])) (orc_ok (by simp only [List.mem_cons, List.not_mem_nil, or_false, forall_eq_or_imp, forall_eq]; exact slIndexF.ok)) Try.func84 (by kernel_rfl) (by kernel_rfl) (n := 9) (ts := [4]) (hd := hd0) (dr := Dr.std) (cut := none) (by kernel_rfl) (by kernel_rfl) (by kernel_rfl) run
end slContainsF

namespace rdl
def sp (xs ys : List Nat) : Bool := ((decide (1 ≤ xs.length) && decide (xs.length ≤ 8)) && decide (ys.length = xs.length)) && (xs.all flo.above.sp && ys.all flo.least.sp)
end rdl

namespace areSlopes
theorem above_split (l : List Nat) : l.all flo.above.sp = (l.all flo.least.sp && !l.any (feq.sp 0)) := by
  induction l with
  | nil => rfl
  | cons x r ih =>
    simp only [List.all_cons, List.any_cons, ih, flo.above_eq, feq.sp]
    cases flo.least.sp x <;> cases (FloatKind.f32.format.order 0 x == some Ordering.eq) <;> simp
def R : List AVal → Option (Bool × AVal × List Blk)
  | [.ro (.flts .f32 xs) m 1, .ro (.flts .f32 ys) k 1] => some (decide (m ≤ xs.length ∧ m ≤ 4611686018427387904 ∧ k ≤ ys.length ∧ k ≤ 4611686018427387904), .bool (rdl.sp (xs.take m) (ys.take k)), [])
  | _ => none
theorem go (xs ys : List Nat) (m k : Nat) :
  runFn Try.prog (orc [⟨63, areNotLess.R⟩, ⟨84, slContainsF.R⟩]) hd0 Dr.std none 0 (bodyOf Try.f59) 33 [4] [.ro (.flts .f32 xs) m 1, .ro (.flts .f32 ys) k 1] []
  = (bif decide ((1 : Int) ≤ (↑m : Int)) then bif decide ((↑m : Int) ≤ (8 : Int)) then bif (↑k : Int) == (↑m : Int) then bif decide (m ≤ xs.length ∧ m ≤ (4611686018427387904 : Nat)) && (true && true || true && true) then bif (List.take m xs).all flo.least.sp then bif decide (k ≤ ys.length ∧ k ≤ (4611686018427387904 : Nat)) && (true && true || true && true) then bif (List.take k ys).all flo.least.sp then bif decide (m ≤ xs.length ∧ m ≤ (4611686018427387904 : Nat)) && (true && true || true && true) then some (AVal.bool !(List.take m xs).any (feq.sp (0 : Nat)), []) else none else some (AVal.bool false, []) else none else some (AVal.bool false, []) else none else some (AVal.bool false, []) else some (AVal.bool false, []) else some (AVal.bool false, [])) := by kernel_rfl
theorem run : ∀ args v new, R args = some (true, v, new) → ∃ fuel, runFn Try.prog (orc [⟨63, areNotLess.R⟩, ⟨84, slContainsF.R⟩]) hd0 Dr.std none fuel (bodyOf Try.f59) 33 [4] args [] = some (v, new) := by
  intro args v new h
  unfold R at h
  split at h
  · rename_i xs m ys k
    simp only [Option.some.injEq, Prod.mk.injEq, decide_eq_true_eq] at h
    obtain ⟨⟨h1, h2, h3, h4⟩, rfl, rfl⟩ := h
    have e1 : (xs.take m).length = m := by simp; omega
    have e2 : (ys.take k).length = k := by simp; omega
    refine ⟨0, ?_⟩
    rw [go]
    have d1 : decide ((1 : Int) ≤ (m : Int)) = decide (1 ≤ m) := by congr 1; apply propext; omega
    have d2 : decide ((m : Int) ≤ 8) = decide (m ≤ 8) := by congr 1; apply propext; omega
    have d3 : ((k : Int) == (m : Int)) = decide (k = m) := by rw [Bool.eq_iff_iff]; simp only [beq_iff_eq, decide_eq_true_eq]; omega
    simp only [h1, h2, h3, h4, d1, d2, d3, e1, e2, and_self, decide_true, Bool.and_self, Bool.or_self, Bool.and_true, Bool.or_true, cond_true, rdl.sp]
    rw [above_split]
    generalize (xs.take m).all flo.least.sp = b1
    generalize (ys.take k).all flo.least.sp = b2
    generalize (xs.take m).any (feq.sp 0) = b3
    cases decide (1 ≤ m) <;> cases decide (m ≤ 8) <;> cases decide (k = m) <;> cases b1 <;> cases b2 <;> cases b3 <;> rfl
  · cases h
theorem ok : EntOk Try.prog ⟨59, R⟩ :=
  ent_okA mixed (A := (orc [⟨63, areNotLess.R⟩, ⟨84, slContainsF.R⟩])) (orc_ok (by simp only [List.mem_cons, List.not_mem_nil, or_false, forall_eq_or_imp, forall_eq]; exact ⟨areNotLess.ok, slContainsF.ok⟩)) Try.func59 (by kernel_rfl) (by kernel_rfl) (n := 33) (ts := [4]) (hd := hd0) (dr := Dr.std) (cut := none) (by kernel_rfl) (by kernel_rfl) (by kernel_rfl) run
end areSlopes

end Go.Proofs.Ytgblgofmdhekiaa.Ab
