/-
  Functions: roads with slopes and bases.
-/
import Derived.Test.YtgeglpommdckgaaFnJ
namespace Go.Proofs.Ytgeglpommdckgaa.Ab
open Go
set_option linter.unusedVariables false
set_option linter.unusedSimpArgs false
set_option maxRecDepth 100000

def fidx.sq {α : Type} (p : α → Bool) : List α → Nat → Int
  | [], _ => -1
  | x :: r, i => bif p x then (i : Int) else fidx.sq p r (i + 1)
theorem fidx_ge {α : Type} (p : α → Bool) (l : List α) (i : Nat) : decide (0 ≤ fidx.sq p l i) = l.any p := by
  induction l generalizing i with
  | nil => rfl
  | cons x r ih =>
    have hi := ih (i + 1)
    by_cases hp : p x = true
    · simp [fidx.sq, hp]
    · have hp' : p x = false := by simpa using hp
      simp only [fidx.sq, List.any_cons, hp', cond_false, Bool.false_or]
      exact hi

namespace flo
def fin.sp (x : Nat) : Bool := FloatKind.f32.format.order (fsub .f32 x x) 0 == some Ordering.eq
def nn.sp (x : Nat) : Bool := FloatKind.f32.format.order x 0 == some Ordering.gt || FloatKind.f32.format.order x 0 == some Ordering.eq
def above.sp (x : Nat) : Bool := fin.sp x && FloatKind.f32.format.order x 0 == some Ordering.gt
def least.sp (x : Nat) : Bool := fin.sp x && nn.sp x
theorem order_comm (k : FloatKind) (a b : Nat) : (k.format.order a b == some Ordering.eq) = (k.format.order b a == some Ordering.eq) := by
  unfold Ieee.Format.order
  cases k.format.read a with
  | nan s f => cases k.format.read b <;> rfl
  | infinity s => cases k.format.read b with
    | nan s f => rfl
    | infinity t => cases s <;> cases t <;> rfl
    | number t m e => cases s <;> rfl
  | number s m e => cases k.format.read b with
    | nan s f => rfl
    | infinity t => cases t <;> rfl
    | number t m' e' =>
      simp only [Ieee.Datum.order, Int.min_comm e' e]
      generalize Ieee.signed s m _ = x
      generalize Ieee.signed t m' _ = y
      rw [Bool.eq_iff_iff]
      simp only [beq_iff_eq, Option.some.injEq, Int.compare_eq_eq]
      exact eq_comm
/-- Not less than zero and not zero is above zero. -/
theorem above_eq (x : Nat) : above.sp x = (least.sp x && !(FloatKind.f32.format.order 0 x == some Ordering.eq)) := by
  unfold above.sp least.sp nn.sp
  rw [order_comm .f32 0 x]
  cases fin.sp x
  · rfl
  · cases FloatKind.f32.format.order x 0 with
    | none => rfl
    | some o => cases o <;> rfl
end flo
namespace l01Finite
def R : List AVal → Option (Bool × AVal × List Blk)
  | [.flt .f32 x] => some (true, .bool (flo.fin.sp x), [])
  | _ => none
theorem go (x : Nat) :
  runFn Try.prog (orc []) hd0 Dr.std none 0 (bodyOf Try.f60) 7 [2] [.flt .f32 x] []
  = (some (AVal.bool (FloatKind.f32.format.order (fsub FloatKind.f32 x x) (0 : Nat) == some Ordering.eq), [])) := by kernel_rfl
theorem run : ∀ args v new, R args = some (true, v, new) → ∃ fuel, runFn Try.prog (orc []) hd0 Dr.std none fuel (bodyOf Try.f60) 7 [2] args [] = some (v, new) := by
  intro args v new h
  unfold R at h
  split at h
  · rename_i x
    simp only [Option.some.injEq, Prod.mk.injEq] at h
    obtain ⟨_, rfl, rfl⟩ := h
    refine ⟨0, ?_⟩
    rw [go]
    rfl
  · cases h
theorem ok : EntOk Try.prog ⟨60, R⟩ :=
  ent_okA mixed (A := (orc [])) (orc_ok (by simp)) Try.func60 (by kernel_rfl) (by kernel_rfl) (n := 7) (ts := [2]) (hd := hd0) (dr := Dr.std) (cut := none) (by kernel_rfl) (by kernel_rfl) (by kernel_rfl) run
end l01Finite

namespace iIsFinite
def R : List AVal → Option (Bool × AVal × List Blk)
  | [.flt .f32 x] => some (true, .bool (flo.fin.sp x), [])
  | _ => none
theorem go (x : Nat) :
  runFn Try.prog (orc []) hd0 Dr.std none 0 (bodyOf Try.f62) 7 [2] [.flt .f32 x] []
  = (some (AVal.bool (FloatKind.f32.format.order (fsub FloatKind.f32 x x) (0 : Nat) == some Ordering.eq), [])) := by kernel_rfl
theorem run : ∀ args v new, R args = some (true, v, new) → ∃ fuel, runFn Try.prog (orc []) hd0 Dr.std none fuel (bodyOf Try.f62) 7 [2] args [] = some (v, new) := by
  intro args v new h
  unfold R at h
  split at h
  · rename_i x
    simp only [Option.some.injEq, Prod.mk.injEq] at h
    obtain ⟨_, rfl, rfl⟩ := h
    refine ⟨0, ?_⟩
    rw [go]
    rfl
  · cases h
theorem ok : EntOk Try.prog ⟨62, R⟩ :=
  ent_okA mixed (A := (orc [])) (orc_ok (by simp)) Try.func62 (by kernel_rfl) (by kernel_rfl) (n := 7) (ts := [2]) (hd := hd0) (dr := Dr.std) (cut := none) (by kernel_rfl) (by kernel_rfl) (by kernel_rfl) run
end iIsFinite

namespace l02Least
def R : List AVal → Option (Bool × AVal × List Blk)
  | [.flt .f32 x] => some (true, .bool (flo.least.sp x), [])
  | _ => none
theorem go (x : Nat) :
  runFn Try.prog (orc [⟨60, l01Finite.R⟩]) hd0 Dr.std none 0 (bodyOf Try.f57) 9 [2] [.flt .f32 x] []
  = (bif true && (true && true || true && true) then bif flo.fin.sp x then some (AVal.bool (FloatKind.f32.format.order x (0 : Nat) == some Ordering.gt || FloatKind.f32.format.order x (0 : Nat) == some Ordering.eq), []) else some (AVal.bool false, []) else none) := by kernel_rfl
theorem run : ∀ args v new, R args = some (true, v, new) → ∃ fuel, runFn Try.prog (orc [⟨60, l01Finite.R⟩]) hd0 Dr.std none fuel (bodyOf Try.f57) 9 [2] args [] = some (v, new) := by
  intro args v new h
  unfold R at h
  split at h
  · rename_i x
    simp only [Option.some.injEq, Prod.mk.injEq] at h
    obtain ⟨_, rfl, rfl⟩ := h
    refine ⟨0, ?_⟩
    rw [go]
    simp only [Bool.and_self, Bool.or_self, cond_true]
    unfold flo.least.sp
    cases flo.fin.sp x <;> rfl
  · cases h
theorem ok : EntOk Try.prog ⟨57, R⟩ :=
  ent_okA mixed (A := (orc [⟨60, l01Finite.R⟩])) (orc_ok (by simp only [List.mem_cons, List.not_mem_nil, or_false, forall_eq_or_imp, forall_eq]; exact l01Finite.ok)) Try.func57 (by kernel_rfl) (by kernel_rfl) (n := 9) (ts := [2]) (hd := hd0) (dr := Dr.std) (cut := none) (by kernel_rfl) (by kernel_rfl) (by kernel_rfl) run
end l02Least

namespace l02Above
def R : List AVal → Option (Bool × AVal × List Blk)
  | [.flt .f32 x] => some (true, .bool (flo.above.sp x), [])
  | _ => none
theorem go (x : Nat) :
  runFn Try.prog (orc [⟨60, l01Finite.R⟩]) hd0 Dr.std none 0 (bodyOf Try.f73) 9 [2] [.flt .f32 x] []
  = (bif true && (true && true || true && true) then bif flo.fin.sp x then some (AVal.bool (FloatKind.f32.format.order x (0 : Nat) == some Ordering.gt), []) else some (AVal.bool false, []) else none) := by kernel_rfl
theorem run : ∀ args v new, R args = some (true, v, new) → ∃ fuel, runFn Try.prog (orc [⟨60, l01Finite.R⟩]) hd0 Dr.std none fuel (bodyOf Try.f73) 9 [2] args [] = some (v, new) := by
  intro args v new h
  unfold R at h
  split at h
  · rename_i x
    simp only [Option.some.injEq, Prod.mk.injEq] at h
    obtain ⟨_, rfl, rfl⟩ := h
    refine ⟨0, ?_⟩
    rw [go]
    simp only [Bool.and_self, Bool.or_self, cond_true]
    unfold flo.above.sp
    cases flo.fin.sp x <;> rfl
  · cases h
theorem ok : EntOk Try.prog ⟨73, R⟩ :=
  ent_okA mixed (A := (orc [⟨60, l01Finite.R⟩])) (orc_ok (by simp only [List.mem_cons, List.not_mem_nil, or_false, forall_eq_or_imp, forall_eq]; exact l01Finite.ok)) Try.func73 (by kernel_rfl) (by kernel_rfl) (n := 9) (ts := [2]) (hd := hd0) (dr := Dr.std) (cut := none) (by kernel_rfl) (by kernel_rfl) (by kernel_rfl) run
end l02Above


namespace areFinite_1
def sp (x : Nat) : Bool := !flo.fin.sp x
def R : List AVal → Option (Bool × AVal × List Blk)
  | [.flt .f32 x] => some (true, .bool (sp x), [])
  | _ => none
theorem go (x : Nat) :
  runFn Try.prog (orc [⟨62, iIsFinite.R⟩]) hd0 Dr.std none 0 (bodyOf Try.f77) 6 [2] [.flt .f32 x] []
  = (bif true && (true && true || true && true) then some (AVal.bool !flo.fin.sp x, []) else none) := by kernel_rfl
theorem run : ∀ args v new, R args = some (true, v, new) → ∃ fuel, runFn Try.prog (orc [⟨62, iIsFinite.R⟩]) hd0 Dr.std none fuel (bodyOf Try.f77) 6 [2] args [] = some (v, new) := by
  intro args v new h
  unfold R at h
  split at h
  · rename_i x
    simp only [Option.some.injEq, Prod.mk.injEq] at h
    obtain ⟨_, rfl, rfl⟩ := h
    refine ⟨0, ?_⟩
    rw [go]
    rfl
  · cases h
theorem ok : EntOk Try.prog ⟨77, R⟩ :=
  ent_okA mixed (A := (orc [⟨62, iIsFinite.R⟩])) (orc_ok (by simp only [List.mem_cons, List.not_mem_nil, or_false, forall_eq_or_imp, forall_eq]; exact iIsFinite.ok)) Try.func77 (by kernel_rfl) (by kernel_rfl) (n := 6) (ts := [2]) (hd := hd0) (dr := Dr.std) (cut := none) (by kernel_rfl) (by kernel_rfl) (by kernel_rfl) run
end areFinite_1

namespace areNotLess_1
def sp (x : Nat) : Bool := !flo.nn.sp x
def R : List AVal → Option (Bool × AVal × List Blk)
  | [.flt .f32 x] => some (true, .bool (sp x), [])
  | _ => none
theorem go (x : Nat) :
  runFn Try.prog (orc []) hd0 Dr.std none 0 (bodyOf Try.f78) 6 [2] [.flt .f32 x] []
  = (some (AVal.bool !(FloatKind.f32.format.order x (0 : Nat) == some Ordering.gt || FloatKind.f32.format.order x (0 : Nat) == some Ordering.eq), [])) := by kernel_rfl
theorem run : ∀ args v new, R args = some (true, v, new) → ∃ fuel, runFn Try.prog (orc []) hd0 Dr.std none fuel (bodyOf Try.f78) 6 [2] args [] = some (v, new) := by
  intro args v new h
  unfold R at h
  split at h
  · rename_i x
    simp only [Option.some.injEq, Prod.mk.injEq] at h
    obtain ⟨_, rfl, rfl⟩ := h
    refine ⟨0, ?_⟩
    rw [go]
    rfl
  · cases h
theorem ok : EntOk Try.prog ⟨78, R⟩ :=
  ent_okA mixed (A := (orc [])) (orc_ok (by simp)) Try.func78 (by kernel_rfl) (by kernel_rfl) (n := 6) (ts := [2]) (hd := hd0) (dr := Dr.std) (cut := none) (by kernel_rfl) (by kernel_rfl) (by kernel_rfl) run
end areNotLess_1

namespace idxFinite
def R : List AVal → Option (Bool × AVal × List Blk)
  | [.ro (.flts .f32 xs) m 1, .fn ff []] => some (decide (m ≤ xs.length ∧ m ≤ 4611686018427387904 ∧ ff = 77), .int .i64 (fidx.sq (areFinite_1.sp) (xs.take m) 0), [])
  | _ => none
def hd : Nat → Head := fun _ => ⟨[0, 1, 4, 7, 8], none⟩
noncomputable def L (f n : Nat) (s : State) := loopAt Try.prog (orc [⟨77, areFinite_1.R⟩]) hd Dr.std 0 f (bodyOf Try.f84) 0 [true, false, true] (retK Try.prog [4] 0 none) n s
theorem start (xs : List (Nat)) (m : Nat)  (f : Nat) :
  runFn Try.prog (orc [⟨77, areFinite_1.R⟩]) hd Dr.std none f (bodyOf Try.f84) 19 [4] [.ro (.flts .f32 xs) m 1, .fn 77 []] []
  = (L f f (mkS (19 : Nat) [((0 : Nat), AVal.ro (Cont.flts FloatKind.f32 xs) m (1 : Nat)), ((1 : Nat), AVal.fn (77 : Nat) []), ((4 : Nat), AVal.int IntKind.i64 (0 : Int)), ((7 : Nat), AVal.int IntKind.i64 (↑m : Int)), ((8 : Nat), AVal.int IntKind.i64 (0 : Int))] [])) := by kernel_rfl
theorem round (xs : List (Nat)) (m i : Nat)  (f n : Nat) :
  L f (n + 1) (mkS 19 [(0, .ro (.flts .f32 xs) m 1), (1, .fn 77 []), (4, .int .i64 0), (7, .int .i64 m), (8, .int .i64 i)] [])
  = (bif decide ((↑i : Int) < (↑m : Int)) then bif true && (decide ((0 : Int) ≤ (↑i : Int)) && decide ((↑i : Int) < (↑m : Int))) then bif decide ((↑i : Int).toNat < xs.length) then bif true && (true && true || true && true) then bif areFinite_1.sp (gn xs (↑i : Int).toNat) then some (AVal.int IntKind.i64 (↑i : Int), []) else L f n (mkS (19 : Nat) [((0 : Nat), AVal.ro (Cont.flts FloatKind.f32 xs) m (1 : Nat)), ((1 : Nat), AVal.fn (77 : Nat) []), ((4 : Nat), AVal.int IntKind.i64 (0 : Int)), ((7 : Nat), AVal.int IntKind.i64 (↑m : Int)), ((8 : Nat), AVal.int IntKind.i64 (IntKind.i64.wrap ((↑i : Int) + (1 : Int))))] []) else none else none else none else some (AVal.int IntKind.i64 (-1 : Int), [])) := by kernel_rfl
theorem loop (xs : List (Nat)) (m : Nat)  (f : Nat) (hx : m ≤ xs.length) (hb : m ≤ 4611686018427387904) : ∀ (d i n : Nat) , i + d = m → d < n →
    L f n (mkS 19 [(0, .ro (.flts .f32 xs) m 1), (1, .fn 77 []), (4, .int .i64 0), (7, .int .i64 m), (8, .int .i64 i)] []) = some (.int .i64 (fidx.sq (areFinite_1.sp) ((xs.take m).drop i) i), []) := by
  intro d
  induction d with
  | zero =>
    intro i n  hi hn 
    obtain ⟨n, rfl⟩ : ∃ k, n = k + 1 := ⟨n - 1, by omega⟩
    obtain rfl : i = m := by omega
    rw [round]
    have e : (xs.take i).drop i = [] := by simp
    rw [e]
    simp [fidx.sq]
  | succ d ih =>
    intro i n  hi hn 
    obtain ⟨n, rfl⟩ : ∃ k, n = k + 1 := ⟨n - 1, by omega⟩
    have h1 : i < m := by omega
    have h4 : (0 : Int) ≤ (i : Int) := Int.natCast_nonneg _
    have h5 : (i : Int) < (m : Int) := by omega
    have h2 : i < xs.length := by omega
    rw [round]
    rw [drop_take_consN hx h1]
    simp only [fidx.sq]
    have hr := ih (i + 1) n (by omega) (by omega)
    simp only [h4, h5, h2, gn_eq h2, decide_true, Bool.and_self, Bool.or_self, Bool.and_true, Bool.true_and, cond_true, Int.toNat_natCast, wrap_nat i (by omega)]
    first
      | (rw [hr]; cases areFinite_1.sp xs[i] <;> rfl)
      | (cases hp : areFinite_1.sp xs[i] <;> simp_all)
theorem run : ∀ args v new, R args = some (true, v, new) → ∃ fuel, runFn Try.prog (orc [⟨77, areFinite_1.R⟩]) hd Dr.std none fuel (bodyOf Try.f84) 19 [4] args [] = some (v, new) := by
  intro args v new h
  unfold R at h
  split at h
  · rename_i xs m ff 
    simp only [Option.some.injEq, Prod.mk.injEq, decide_eq_true_eq] at h
    obtain ⟨⟨h1, h2, rfl⟩, rfl, rfl⟩ := h
    refine ⟨m + 1, ?_⟩
    rw [start]
    have hl := loop xs m  (m + 1) h1 h2 m 0 (m + 1) (by omega) (by omega)
    simpa using hl
  · cases h
theorem ok : EntOk Try.prog ⟨84, R⟩ :=
  ent_okA mixed (A := (orc [⟨77, areFinite_1.R⟩])) (orc_ok (by simp only [List.mem_cons, List.not_mem_nil, or_false, forall_eq_or_imp, forall_eq]; exact areFinite_1.ok)) Try.func84 (by kernel_rfl) (by kernel_rfl) (n := 19) (ts := [4]) (hd := hd) (dr := Dr.std) (cut := none) (by kernel_rfl) (by kernel_rfl) (by kernel_rfl) run
end idxFinite

namespace hasFinite
def R : List AVal → Option (Bool × AVal × List Blk)
  | [.ro (.flts .f32 xs) m 1, .fn ff []] => some (decide (m ≤ xs.length ∧ m ≤ 4611686018427387904 ∧ ff = 77), .bool ((xs.take m).any (areFinite_1.sp)), [])
  | _ => none
theorem go (xs : List (Nat)) (m : Nat) :
  runFn Try.prog (orc [⟨84, idxFinite.R⟩]) hd0 Dr.std none 0 (bodyOf Try.f76) 9 [4] [.ro (.flts .f32 xs) m 1, .fn 77 []] []
  = (bif decide (m ≤ xs.length ∧ m ≤ (4611686018427387904 : Nat) ∧ (77 : FuncId) = (77 : FuncId)) && (true && true || true && true) then some (AVal.bool (decide ((0 : Int) ≤ fidx.sq areFinite_1.sp (List.take m xs) (0 : Nat))), []) else none) := by kernel_rfl
theorem run : ∀ args v new, R args = some (true, v, new) → ∃ fuel, runFn Try.prog (orc [⟨84, idxFinite.R⟩]) hd0 Dr.std none fuel (bodyOf Try.f76) 9 [4] args [] = some (v, new) := by
  intro args v new h
  unfold R at h
  split at h
  · rename_i xs m ff 
    simp only [Option.some.injEq, Prod.mk.injEq, decide_eq_true_eq] at h
    obtain ⟨⟨h1, h2, rfl⟩, rfl, rfl⟩ := h
    refine ⟨0, ?_⟩
    rw [go]
    simp only [h1, h2, true_and, and_self, decide_true, Bool.and_self, Bool.or_self, Bool.and_true, Bool.or_true, cond_true, fidx_ge]
  · cases h
theorem ok : EntOk Try.prog ⟨76, R⟩ :=
  ent_okA mixed (A := (orc [⟨84, idxFinite.R⟩])) (orc_ok (by simp only [List.mem_cons, List.not_mem_nil, or_false, forall_eq_or_imp, forall_eq]; exact idxFinite.ok)) Try.func76 (by kernel_rfl) (by kernel_rfl) (n := 9) (ts := [4]) (hd := hd0) (dr := Dr.std) (cut := none) (by kernel_rfl) (by kernel_rfl) (by kernel_rfl) run
end hasFinite

namespace idxNotLess
def R : List AVal → Option (Bool × AVal × List Blk)
  | [.ro (.flts .f32 xs) m 1, .fn ff []] => some (decide (m ≤ xs.length ∧ m ≤ 4611686018427387904 ∧ ff = 78), .int .i64 (fidx.sq (areNotLess_1.sp) (xs.take m) 0), [])
  | _ => none
def hd : Nat → Head := fun _ => ⟨[0, 1, 4, 7, 8], none⟩
noncomputable def L (f n : Nat) (s : State) := loopAt Try.prog (orc [⟨78, areNotLess_1.R⟩]) hd Dr.std 0 f (bodyOf Try.f84) 0 [true, false, true] (retK Try.prog [4] 0 none) n s
theorem start (xs : List (Nat)) (m : Nat)  (f : Nat) :
  runFn Try.prog (orc [⟨78, areNotLess_1.R⟩]) hd Dr.std none f (bodyOf Try.f84) 19 [4] [.ro (.flts .f32 xs) m 1, .fn 78 []] []
  = (L f f (mkS (19 : Nat) [((0 : Nat), AVal.ro (Cont.flts FloatKind.f32 xs) m (1 : Nat)), ((1 : Nat), AVal.fn (78 : Nat) []), ((4 : Nat), AVal.int IntKind.i64 (0 : Int)), ((7 : Nat), AVal.int IntKind.i64 (↑m : Int)), ((8 : Nat), AVal.int IntKind.i64 (0 : Int))] [])) := by kernel_rfl
theorem round (xs : List (Nat)) (m i : Nat)  (f n : Nat) :
  L f (n + 1) (mkS 19 [(0, .ro (.flts .f32 xs) m 1), (1, .fn 78 []), (4, .int .i64 0), (7, .int .i64 m), (8, .int .i64 i)] [])
  = (bif decide ((↑i : Int) < (↑m : Int)) then bif true && (decide ((0 : Int) ≤ (↑i : Int)) && decide ((↑i : Int) < (↑m : Int))) then bif decide ((↑i : Int).toNat < xs.length) then bif true && (true && true || true && true) then bif areNotLess_1.sp (gn xs (↑i : Int).toNat) then some (AVal.int IntKind.i64 (↑i : Int), []) else L f n (mkS (19 : Nat) [((0 : Nat), AVal.ro (Cont.flts FloatKind.f32 xs) m (1 : Nat)), ((1 : Nat), AVal.fn (78 : Nat) []), ((4 : Nat), AVal.int IntKind.i64 (0 : Int)), ((7 : Nat), AVal.int IntKind.i64 (↑m : Int)), ((8 : Nat), AVal.int IntKind.i64 (IntKind.i64.wrap ((↑i : Int) + (1 : Int))))] []) else none else none else none else some (AVal.int IntKind.i64 (-1 : Int), [])) := by kernel_rfl
theorem loop (xs : List (Nat)) (m : Nat)  (f : Nat) (hx : m ≤ xs.length) (hb : m ≤ 4611686018427387904) : ∀ (d i n : Nat) , i + d = m → d < n →
    L f n (mkS 19 [(0, .ro (.flts .f32 xs) m 1), (1, .fn 78 []), (4, .int .i64 0), (7, .int .i64 m), (8, .int .i64 i)] []) = some (.int .i64 (fidx.sq (areNotLess_1.sp) ((xs.take m).drop i) i), []) := by
  intro d
  induction d with
  | zero =>
    intro i n  hi hn 
    obtain ⟨n, rfl⟩ : ∃ k, n = k + 1 := ⟨n - 1, by omega⟩
    obtain rfl : i = m := by omega
    rw [round]
    have e : (xs.take i).drop i = [] := by simp
    rw [e]
    simp [fidx.sq]
  | succ d ih =>
    intro i n  hi hn 
    obtain ⟨n, rfl⟩ : ∃ k, n = k + 1 := ⟨n - 1, by omega⟩
    have h1 : i < m := by omega
    have h4 : (0 : Int) ≤ (i : Int) := Int.natCast_nonneg _
    have h5 : (i : Int) < (m : Int) := by omega
    have h2 : i < xs.length := by omega
    rw [round]
    rw [drop_take_consN hx h1]
    simp only [fidx.sq]
    have hr := ih (i + 1) n (by omega) (by omega)
    simp only [h4, h5, h2, gn_eq h2, decide_true, Bool.and_self, Bool.or_self, Bool.and_true, Bool.true_and, cond_true, Int.toNat_natCast, wrap_nat i (by omega)]
    first
      | (rw [hr]; cases areNotLess_1.sp xs[i] <;> rfl)
      | (cases hp : areNotLess_1.sp xs[i] <;> simp_all)
theorem run : ∀ args v new, R args = some (true, v, new) → ∃ fuel, runFn Try.prog (orc [⟨78, areNotLess_1.R⟩]) hd Dr.std none fuel (bodyOf Try.f84) 19 [4] args [] = some (v, new) := by
  intro args v new h
  unfold R at h
  split at h
  · rename_i xs m ff 
    simp only [Option.some.injEq, Prod.mk.injEq, decide_eq_true_eq] at h
    obtain ⟨⟨h1, h2, rfl⟩, rfl, rfl⟩ := h
    refine ⟨m + 1, ?_⟩
    rw [start]
    have hl := loop xs m  (m + 1) h1 h2 m 0 (m + 1) (by omega) (by omega)
    simpa using hl
  · cases h
theorem ok : EntOk Try.prog ⟨84, R⟩ :=
  ent_okA mixed (A := (orc [⟨78, areNotLess_1.R⟩])) (orc_ok (by simp only [List.mem_cons, List.not_mem_nil, or_false, forall_eq_or_imp, forall_eq]; exact areNotLess_1.ok)) Try.func84 (by kernel_rfl) (by kernel_rfl) (n := 19) (ts := [4]) (hd := hd) (dr := Dr.std) (cut := none) (by kernel_rfl) (by kernel_rfl) (by kernel_rfl) run
end idxNotLess

namespace hasNotLess
def R : List AVal → Option (Bool × AVal × List Blk)
  | [.ro (.flts .f32 xs) m 1, .fn ff []] => some (decide (m ≤ xs.length ∧ m ≤ 4611686018427387904 ∧ ff = 78), .bool ((xs.take m).any (areNotLess_1.sp)), [])
  | _ => none
theorem go (xs : List (Nat)) (m : Nat) :
  runFn Try.prog (orc [⟨84, idxNotLess.R⟩]) hd0 Dr.std none 0 (bodyOf Try.f76) 9 [4] [.ro (.flts .f32 xs) m 1, .fn 78 []] []
  = (bif decide (m ≤ xs.length ∧ m ≤ (4611686018427387904 : Nat) ∧ (78 : FuncId) = (78 : FuncId)) && (true && true || true && true) then some (AVal.bool (decide ((0 : Int) ≤ fidx.sq areNotLess_1.sp (List.take m xs) (0 : Nat))), []) else none) := by kernel_rfl
theorem run : ∀ args v new, R args = some (true, v, new) → ∃ fuel, runFn Try.prog (orc [⟨84, idxNotLess.R⟩]) hd0 Dr.std none fuel (bodyOf Try.f76) 9 [4] args [] = some (v, new) := by
  intro args v new h
  unfold R at h
  split at h
  · rename_i xs m ff 
    simp only [Option.some.injEq, Prod.mk.injEq, decide_eq_true_eq] at h
    obtain ⟨⟨h1, h2, rfl⟩, rfl, rfl⟩ := h
    refine ⟨0, ?_⟩
    rw [go]
    simp only [h1, h2, true_and, and_self, decide_true, Bool.and_self, Bool.or_self, Bool.and_true, Bool.or_true, cond_true, fidx_ge]
  · cases h
theorem ok : EntOk Try.prog ⟨76, R⟩ :=
  ent_okA mixed (A := (orc [⟨84, idxNotLess.R⟩])) (orc_ok (by simp only [List.mem_cons, List.not_mem_nil, or_false, forall_eq_or_imp, forall_eq]; exact idxNotLess.ok)) Try.func76 (by kernel_rfl) (by kernel_rfl) (n := 9) (ts := [4]) (hd := hd0) (dr := Dr.std) (cut := none) (by kernel_rfl) (by kernel_rfl) (by kernel_rfl) run
end hasNotLess

namespace areFinite
def R : List AVal → Option (Bool × AVal × List Blk)
  | [.ro (.flts .f32 xs) m 1] => some (decide (m ≤ xs.length ∧ m ≤ 4611686018427387904), .bool (!(xs.take m).any areFinite_1.sp), [])
  | _ => none
theorem go (xs : List Nat) (m : Nat) :
  runFn Try.prog (orc [⟨76, hasFinite.R⟩]) hd0 Dr.std none 0 (bodyOf Try.f66) 6 [2] [.ro (.flts .f32 xs) m 1] []
  = (bif decide (m ≤ xs.length ∧ m ≤ (4611686018427387904 : Nat) ∧ (77 : Nat) = (77 : FuncId)) && (true && true || true && true) then some (AVal.bool !(List.take m xs).any areFinite_1.sp, []) else none) := by kernel_rfl
theorem run : ∀ args v new, R args = some (true, v, new) → ∃ fuel, runFn Try.prog (orc [⟨76, hasFinite.R⟩]) hd0 Dr.std none fuel (bodyOf Try.f66) 6 [2] args [] = some (v, new) := by
  intro args v new h
  unfold R at h
  split at h
  · rename_i xs m
    simp only [Option.some.injEq, Prod.mk.injEq, decide_eq_true_eq] at h
    obtain ⟨⟨h1, h2⟩, rfl, rfl⟩ := h
    refine ⟨0, ?_⟩
    rw [go]
    simp only [h1, h2, and_self, decide_true, Bool.and_self, Bool.or_self, Bool.and_true, Bool.or_true, cond_true]
  · cases h
theorem ok : EntOk Try.prog ⟨66, R⟩ :=
  ent_okA mixed (A := (orc [⟨76, hasFinite.R⟩])) (orc_ok (by simp only [List.mem_cons, List.not_mem_nil, or_false, forall_eq_or_imp, forall_eq]; exact hasFinite.ok)) Try.func66 (by kernel_rfl) (by kernel_rfl) (n := 6) (ts := [2]) (hd := hd0) (dr := Dr.std) (cut := none) (by kernel_rfl) (by kernel_rfl) (by kernel_rfl) run
end areFinite

namespace areNotLess
theorem all_split (l : List Nat) : l.all flo.least.sp = (!l.any areFinite_1.sp && !l.any areNotLess_1.sp) := by
  induction l with
  | nil => rfl
  | cons x r ih =>
    simp only [List.all_cons, List.any_cons, ih, flo.least.sp, areFinite_1.sp, areNotLess_1.sp]
    cases flo.fin.sp x <;> cases flo.nn.sp x <;> simp
def R : List AVal → Option (Bool × AVal × List Blk)
  | [.ro (.flts .f32 xs) m 1] => some (decide (m ≤ xs.length ∧ m ≤ 4611686018427387904), .bool ((xs.take m).all flo.least.sp), [])
  | _ => none
theorem go (xs : List Nat) (m : Nat) :
  runFn Try.prog (orc [⟨66, areFinite.R⟩, ⟨76, hasNotLess.R⟩]) hd0 Dr.std none 0 (bodyOf Try.f67) 10 [2] [.ro (.flts .f32 xs) m 1] []
  = (bif decide (m ≤ xs.length ∧ m ≤ (4611686018427387904 : Nat)) && (true && true || true && true) then bif !(List.take m xs).any areFinite_1.sp then bif decide (m ≤ xs.length ∧ m ≤ (4611686018427387904 : Nat) ∧ (78 : Nat) = (78 : FuncId)) && (true && true || true && true) then some (AVal.bool !(List.take m xs).any areNotLess_1.sp, []) else none else some (AVal.bool false, []) else none) := by kernel_rfl
theorem run : ∀ args v new, R args = some (true, v, new) → ∃ fuel, runFn Try.prog (orc [⟨66, areFinite.R⟩, ⟨76, hasNotLess.R⟩]) hd0 Dr.std none fuel (bodyOf Try.f67) 10 [2] args [] = some (v, new) := by
  intro args v new h
  unfold R at h
  split at h
  · rename_i xs m
    simp only [Option.some.injEq, Prod.mk.injEq, decide_eq_true_eq] at h
    obtain ⟨⟨h1, h2⟩, rfl, rfl⟩ := h
    refine ⟨0, ?_⟩
    rw [go]
    simp only [h1, h2, and_self, decide_true, Bool.and_self, Bool.or_self, Bool.and_true, Bool.or_true, cond_true]
    rw [all_split]
    cases (xs.take m).any areFinite_1.sp <;> rfl
  · cases h
theorem ok : EntOk Try.prog ⟨67, R⟩ :=
  ent_okA mixed (A := (orc [⟨66, areFinite.R⟩, ⟨76, hasNotLess.R⟩])) (orc_ok (by simp only [List.mem_cons, List.not_mem_nil, or_false, forall_eq_or_imp, forall_eq]; exact ⟨areFinite.ok, hasNotLess.ok⟩)) Try.func67 (by kernel_rfl) (by kernel_rfl) (n := 10) (ts := [2]) (hd := hd0) (dr := Dr.std) (cut := none) (by kernel_rfl) (by kernel_rfl) (by kernel_rfl) run
end areNotLess

def feq.sp (v x : Nat) : Bool := FloatKind.f32.format.order v x == some Ordering.eq
namespace slIndexF
def R : List AVal → Option (Bool × AVal × List Blk)
  | [.ro (.flts .f32 xs) m 1, .flt .f32 v] => some (decide (m ≤ xs.length ∧ m ≤ 4611686018427387904), .int .i64 (fidx.sq (feq.sp v) (xs.take m) 0), [])
  | _ => none
def hd : Nat → Head := fun _ => ⟨[0, 1, 4, 7, 8], none⟩
noncomputable def L (f n : Nat) (s : State) := loopAt Try.prog (orc []) hd Dr.std 0 f (bodyOf Try.f81) 0 [true, false, true] (retK Try.prog [4] 0 none) n s
theorem start (xs : List Nat) (m v : Nat) (f : Nat) :
  runFn Try.prog (orc []) hd Dr.std none f (bodyOf Try.f81) 19 [4] [.ro (.flts .f32 xs) m 1, .flt .f32 v] []
  = (L f f (mkS (19 : Nat) [((0 : Nat), AVal.ro (Cont.flts FloatKind.f32 xs) m (1 : Nat)), ((1 : Nat), AVal.flt FloatKind.f32 v), ((4 : Nat), AVal.int IntKind.i64 (0 : Int)), ((7 : Nat), AVal.int IntKind.i64 (↑m : Int)), ((8 : Nat), AVal.int IntKind.i64 (0 : Int))] [])) := by kernel_rfl
theorem round (xs : List Nat) (m v i : Nat) (f n : Nat) :
  L f (n + 1) (mkS 19 [(0, .ro (.flts .f32 xs) m 1), (1, .flt .f32 v), (4, .int .i64 0), (7, .int .i64 m), (8, .int .i64 i)] [])
  = (bif decide ((↑i : Int) < (↑m : Int)) then bif true && (decide ((0 : Int) ≤ (↑i : Int)) && decide ((↑i : Int) < (↑m : Int))) then bif decide ((↑i : Int).toNat < xs.length) then bif FloatKind.f32.format.order v (gn xs (↑i : Int).toNat) == some Ordering.eq then some (AVal.int IntKind.i64 (↑i : Int), []) else L f n (mkS (19 : Nat) [((0 : Nat), AVal.ro (Cont.flts FloatKind.f32 xs) m (1 : Nat)), ((1 : Nat), AVal.flt FloatKind.f32 v), ((4 : Nat), AVal.int IntKind.i64 (0 : Int)), ((7 : Nat), AVal.int IntKind.i64 (↑m : Int)), ((8 : Nat), AVal.int IntKind.i64 (IntKind.i64.wrap ((↑i : Int) + (1 : Int))))] []) else none else none else some (AVal.int IntKind.i64 (-1 : Int), [])) := by kernel_rfl
theorem loop (xs : List Nat) (m v : Nat) (f : Nat) (hx : m ≤ xs.length) (hb : m ≤ 4611686018427387904) : ∀ (d i n : Nat) , i + d = m → d < n →
    L f n (mkS 19 [(0, .ro (.flts .f32 xs) m 1), (1, .flt .f32 v), (4, .int .i64 0), (7, .int .i64 m), (8, .int .i64 i)] []) = some (.int .i64 (fidx.sq (feq.sp v) ((xs.take m).drop i) i), []) := by
  intro d
  induction d with
  | zero =>
    intro i n  hi hn 
    obtain ⟨n, rfl⟩ : ∃ k, n = k + 1 := ⟨n - 1, by omega⟩
    obtain rfl : i = m := by omega
    rw [round]
    have e : (xs.take i).drop i = [] := by simp
    rw [e]
    simp [fidx.sq]
  | succ d ih =>
    intro i n  hi hn 
    obtain ⟨n, rfl⟩ : ∃ k, n = k + 1 := ⟨n - 1, by omega⟩
    have h1 : i < m := by omega
    have h4 : (0 : Int) ≤ (i : Int) := Int.natCast_nonneg _
    have h5 : (i : Int) < (m : Int) := by omega
    have h2 : i < xs.length := by omega
    rw [round]
    rw [drop_take_consN hx h1]
    simp only [fidx.sq]
    have hr := ih (i + 1) n (by omega) (by omega)
    simp only [h4, h5, h2, gn_eq h2, decide_true, Bool.and_self, Bool.or_self, Bool.and_true, Bool.true_and, cond_true, Int.toNat_natCast, wrap_nat i (by omega)]
    rw [hr]
    have hp : (FloatKind.f32.format.order v xs[i] == some Ordering.eq) = feq.sp v xs[i] := rfl
    rw [hp]
    cases feq.sp v xs[i] <;> rfl
theorem run : ∀ args v new, R args = some (true, v, new) → ∃ fuel, runFn Try.prog (orc []) hd Dr.std none fuel (bodyOf Try.f81) 19 [4] args [] = some (v, new) := by
  intro args v new h
  unfold R at h
  split at h
  · rename_i xs m v
    simp only [Option.some.injEq, Prod.mk.injEq, decide_eq_true_eq] at h
    obtain ⟨⟨h1, h2⟩, rfl, rfl⟩ := h
    refine ⟨m + 1, ?_⟩
    rw [start]
    have hl := loop xs m v (m + 1) h1 h2 m 0 (m + 1) (by omega) (by omega)
    simpa using hl
  · cases h
theorem ok : EntOk Try.prog ⟨81, R⟩ :=
  ent_okA mixed (A := (orc [])) (orc_ok (by simp)) Try.func81 (by kernel_rfl) (by kernel_rfl) (n := 19) (ts := [4]) (hd := hd) (dr := Dr.std) (cut := none) (by kernel_rfl) (by kernel_rfl) (by kernel_rfl) run
end slIndexF

namespace slContainsF
def R : List AVal → Option (Bool × AVal × List Blk)
  | [.ro (.flts .f32 xs) m 1, .flt .f32 v] => some (decide (m ≤ xs.length ∧ m ≤ 4611686018427387904), .bool ((xs.take m).any (feq.sp v)), [])
  | _ => none
theorem go (xs : List Nat) (m v : Nat) :
  runFn Try.prog (orc [⟨81, slIndexF.R⟩]) hd0 Dr.std none 0 (bodyOf Try.f74) 9 [4] [.ro (.flts .f32 xs) m 1, .flt .f32 v] []
  = (bif decide (m ≤ xs.length ∧ m ≤ (4611686018427387904 : Nat)) && (true && (true && true) || true && true) then some (AVal.bool (decide ((0 : Int) ≤ fidx.sq (feq.sp v) (List.take m xs) (0 : Nat))), []) else none) := by kernel_rfl
theorem run : ∀ args v new, R args = some (true, v, new) → ∃ fuel, runFn Try.prog (orc [⟨81, slIndexF.R⟩]) hd0 Dr.std none fuel (bodyOf Try.f74) 9 [4] args [] = some (v, new) := by
  intro args v new h
  unfold R at h
  split at h
  · rename_i xs m v
    simp only [Option.some.injEq, Prod.mk.injEq, decide_eq_true_eq] at h
    obtain ⟨⟨h1, h2⟩, rfl, rfl⟩ := h
    refine ⟨0, ?_⟩
    rw [go]
    simp only [h1, h2, true_and, and_self, decide_true, Bool.and_self, Bool.or_self, Bool.and_true, Bool.or_true, cond_true, fidx_ge]
  · cases h
theorem ok : EntOk Try.prog ⟨74, R⟩ :=
  ent_okA mixed (A := (orc [⟨81, slIndexF.R⟩])) (orc_ok (by simp only [List.mem_cons, List.not_mem_nil, or_false, forall_eq_or_imp, forall_eq]; exact slIndexF.ok)) Try.func74 (by kernel_rfl) (by kernel_rfl) (n := 9) (ts := [4]) (hd := hd0) (dr := Dr.std) (cut := none) (by kernel_rfl) (by kernel_rfl) (by kernel_rfl) run
end slContainsF

namespace l06Lines
def sp (xs ys : List Nat) : Bool := ((decide (1 ≤ xs.length) && decide (xs.length ≤ 8)) && decide (ys.length = xs.length)) && (xs.all flo.above.sp && ys.all flo.least.sp)
def R : List AVal → Option (Bool × AVal × List Blk)
  | [.ro (.flts .f32 xs) m 1, .ro (.flts .f32 ys) k 1] => some (decide (m ≤ xs.length ∧ m ≤ 4611686018427387904 ∧ k ≤ ys.length ∧ k ≤ 4611686018427387904), .bool (sp (xs.take m) (ys.take k)), [])
  | _ => none
def hd : Nat → Head := fun _ => ⟨[0, 1, 4, 5], none⟩
noncomputable def L (f n : Nat) (s : State) := loopAt Try.prog (orc [⟨73, l02Above.R⟩, ⟨57, l02Least.R⟩]) hd Dr.std 0 f (bodyOf Try.f56) 0 [true, true, false, true] (retK Try.prog [4] 0 none) n s
theorem start (xs ys : List Nat) (m k : Nat) (f : Nat) :
  runFn Try.prog (orc [⟨73, l02Above.R⟩, ⟨57, l02Least.R⟩]) hd Dr.std none f (bodyOf Try.f56) 41 [4] [.ro (.flts .f32 xs) m 1, .ro (.flts .f32 ys) k 1] []
  = (bif decide ((↑m : Int) < (1 : Int)) then some (AVal.bool false, []) else bif decide ((8 : Int) < (↑m : Int)) then some (AVal.bool false, []) else bif (↑k : Int) != (↑m : Int) then some (AVal.bool false, []) else L f f (mkS (41 : Nat) [((0 : Nat), AVal.ro (Cont.flts FloatKind.f32 xs) m (1 : Nat)), ((1 : Nat), AVal.ro (Cont.flts FloatKind.f32 ys) k (1 : Nat)), ((4 : Nat), AVal.bool false), ((5 : Nat), AVal.int IntKind.i64 (0 : Int))] [])) := by kernel_rfl
theorem round (xs ys : List Nat) (m i : Nat) (f n : Nat) :
  L f (n + 1) (mkS 41 [(0, .ro (.flts .f32 xs) m 1), (1, .ro (.flts .f32 ys) m 1), (4, .bool false), (5, .int .i64 i)] [])
  = (bif decide ((↑i : Int) < (↑m : Int)) then bif true && (decide ((0 : Int) ≤ (↑i : Int)) && decide ((↑i : Int) < (↑m : Int))) then bif decide ((↑i : Int).toNat < xs.length) then bif true && (true && true || true && true) then bif !flo.above.sp (gn xs (↑i : Int).toNat) then some (AVal.bool false, []) else bif true && (decide ((0 : Int) ≤ (↑i : Int)) && decide ((↑i : Int) < (↑m : Int))) then bif decide ((↑i : Int).toNat < ys.length) then bif true && (true && true || true && true) then bif !flo.least.sp (gn ys (↑i : Int).toNat) then some (AVal.bool false, []) else L f n (mkS (41 : Nat) [((0 : Nat), AVal.ro (Cont.flts FloatKind.f32 xs) m (1 : Nat)), ((1 : Nat), AVal.ro (Cont.flts FloatKind.f32 ys) m (1 : Nat)), ((4 : Nat), AVal.bool false), ((5 : Nat), AVal.int IntKind.i64 (IntKind.i64.wrap ((↑i : Int) + (1 : Int))))] []) else none else none else none else none else none else none else some (AVal.bool true, [])) := by kernel_rfl
theorem loop (xs ys : List Nat) (m : Nat) (f : Nat) (hx : m ≤ xs.length) (hy : m ≤ ys.length) (hb : m ≤ 4611686018427387904) : ∀ (d i n : Nat) , i + d = m → d < n →
    L f n (mkS 41 [(0, .ro (.flts .f32 xs) m 1), (1, .ro (.flts .f32 ys) m 1), (4, .bool false), (5, .int .i64 i)] []) = some (.bool (((xs.take m).drop i).all flo.above.sp && ((ys.take m).drop i).all flo.least.sp), []) := by
  intro d
  induction d with
  | zero =>
    intro i n  hi hn 
    obtain ⟨n, rfl⟩ : ∃ k, n = k + 1 := ⟨n - 1, by omega⟩
    obtain rfl : i = m := by omega
    rw [round]
    simp
  | succ d ih =>
    intro i n  hi hn 
    obtain ⟨n, rfl⟩ : ∃ k, n = k + 1 := ⟨n - 1, by omega⟩
    have h1 : i < m := by omega
    have h4 : (0 : Int) ≤ (i : Int) := Int.natCast_nonneg _
    have h5 : (i : Int) < (m : Int) := by omega
    have h2 : i < xs.length := by omega
    have h3 : i < ys.length := by omega
    rw [round]
    rw [drop_take_consN hx h1, drop_take_consN hy h1, List.all_cons, List.all_cons]
    have hr := ih (i + 1) n (by omega) (by omega)
    simp only [h4, h5, h2, h3, gn_eq h2, gn_eq h3, decide_true, Bool.and_self, Bool.or_self, Bool.and_true, Bool.true_and, cond_true, Int.toNat_natCast, wrap_nat i (by omega)]
    rw [hr]
    generalize ((xs.take m).drop (i + 1)).all flo.above.sp = b1
    generalize ((ys.take m).drop (i + 1)).all flo.least.sp = b2
    cases flo.above.sp xs[i] <;> cases flo.least.sp ys[i] <;> simp
theorem run : ∀ args v new, R args = some (true, v, new) → ∃ fuel, runFn Try.prog (orc [⟨73, l02Above.R⟩, ⟨57, l02Least.R⟩]) hd Dr.std none fuel (bodyOf Try.f56) 41 [4] args [] = some (v, new) := by
  intro args v new h
  unfold R at h
  split at h
  · rename_i xs m ys k
    simp only [Option.some.injEq, Prod.mk.injEq, decide_eq_true_eq] at h
    obtain ⟨⟨h1, h2, h3, h4⟩, rfl, rfl⟩ := h
    have e1 : (xs.take m).length = m := by simp; omega
    have e2 : (ys.take k).length = k := by simp; omega
    refine ⟨m + 1, ?_⟩
    rw [start]
    simp only [sp, e1, e2]
    by_cases c1 : (m : Int) < 1
    · have : ¬ 1 ≤ m := by omega
      simp [c1, this]
    by_cases c2 : (8 : Int) < (m : Int)
    · have : ¬ m ≤ 8 := by omega
      simp [c1, c2, this]
    have d1 : 1 ≤ m := by omega
    have d2 : m ≤ 8 := by omega
    by_cases hk : k = m
    · subst hk
      have hl := loop xs ys k (k + 1) h1 h3 h2 k 0 (k + 1) (by omega) (by omega)
      simp only [c1, c2, d1, d2, bne_self_eq_false, decide_true, decide_false, cond_false, Bool.and_self, Bool.true_and]
      simpa using hl
    · have c : ((k : Int) != (m : Int)) = true := by simp only [bne_iff_ne, ne_eq, Int.natCast_inj]; exact hk
      simp [c1, c2, c, hk]
  · cases h
theorem ok : EntOk Try.prog ⟨56, R⟩ :=
  ent_okA mixed (A := (orc [⟨73, l02Above.R⟩, ⟨57, l02Least.R⟩])) (orc_ok (by simp only [List.mem_cons, List.not_mem_nil, or_false, forall_eq_or_imp, forall_eq]; exact ⟨l02Above.ok, l02Least.ok⟩)) Try.func56 (by kernel_rfl) (by kernel_rfl) (n := 41) (ts := [4]) (hd := hd) (dr := Dr.std) (cut := none) (by kernel_rfl) (by kernel_rfl) (by kernel_rfl) run
end l06Lines

namespace areSlopes
theorem above_split (l : List Nat) : l.all flo.above.sp = (l.all flo.least.sp && !l.any (feq.sp 0)) := by
  induction l with
  | nil => rfl
  | cons x r ih =>
    simp only [List.all_cons, List.any_cons, ih, flo.above_eq, feq.sp]
    cases flo.least.sp x <;> cases (FloatKind.f32.format.order 0 x == some Ordering.eq) <;> simp
def R : List AVal → Option (Bool × AVal × List Blk)
  | [.ro (.flts .f32 xs) m 1, .ro (.flts .f32 ys) k 1] => some (decide (m ≤ xs.length ∧ m ≤ 4611686018427387904 ∧ k ≤ ys.length ∧ k ≤ 4611686018427387904), .bool (l06Lines.sp (xs.take m) (ys.take k)), [])
  | _ => none
theorem go (xs ys : List Nat) (m k : Nat) :
  runFn Try.prog (orc [⟨67, areNotLess.R⟩, ⟨74, slContainsF.R⟩]) hd0 Dr.std none 0 (bodyOf Try.f61) 33 [4] [.ro (.flts .f32 xs) m 1, .ro (.flts .f32 ys) k 1] []
  = (bif decide ((1 : Int) ≤ (↑m : Int)) then bif decide ((↑m : Int) ≤ (8 : Int)) then bif (↑k : Int) == (↑m : Int) then bif decide (m ≤ xs.length ∧ m ≤ (4611686018427387904 : Nat)) && (true && true || true && true) then bif (List.take m xs).all flo.least.sp then bif decide (k ≤ ys.length ∧ k ≤ (4611686018427387904 : Nat)) && (true && true || true && true) then bif (List.take k ys).all flo.least.sp then bif decide (m ≤ xs.length ∧ m ≤ (4611686018427387904 : Nat)) && (true && true || true && true) then some (AVal.bool !(List.take m xs).any (feq.sp (0 : Nat)), []) else none else some (AVal.bool false, []) else none else some (AVal.bool false, []) else none else some (AVal.bool false, []) else some (AVal.bool false, []) else some (AVal.bool false, [])) := by kernel_rfl
theorem run : ∀ args v new, R args = some (true, v, new) → ∃ fuel, runFn Try.prog (orc [⟨67, areNotLess.R⟩, ⟨74, slContainsF.R⟩]) hd0 Dr.std none fuel (bodyOf Try.f61) 33 [4] args [] = some (v, new) := by
  intro args v new h
  unfold R at h
  split at h
  · rename_i xs m ys k
    simp only [Option.some.injEq, Prod.mk.injEq, decide_eq_true_eq] at h
    obtain ⟨⟨h1, h2, h3, h4⟩, rfl, rfl⟩ := h
    have e1 : (xs.take m).length = m := by simp; omega
    have e2 : (ys.take k).length = k := by simp; omega
    refine ⟨0, ?_⟩
    rw [go]
    have d1 : decide ((1 : Int) ≤ (m : Int)) = decide (1 ≤ m) := by congr 1; apply propext; omega
    have d2 : decide ((m : Int) ≤ 8) = decide (m ≤ 8) := by congr 1; apply propext; omega
    have d3 : ((k : Int) == (m : Int)) = decide (k = m) := by rw [Bool.eq_iff_iff]; simp only [beq_iff_eq, decide_eq_true_eq]; omega
    simp only [h1, h2, h3, h4, d1, d2, d3, e1, e2, and_self, decide_true, Bool.and_self, Bool.or_self, Bool.and_true, Bool.or_true, cond_true, l06Lines.sp]
    rw [above_split]
    generalize (xs.take m).all flo.least.sp = b1
    generalize (ys.take k).all flo.least.sp = b2
    generalize (xs.take m).any (feq.sp 0) = b3
    cases decide (1 ≤ m) <;> cases decide (m ≤ 8) <;> cases decide (k = m) <;> cases b1 <;> cases b2 <;> cases b3 <;> rfl
  · cases h
theorem ok : EntOk Try.prog ⟨61, R⟩ :=
  ent_okA mixed (A := (orc [⟨67, areNotLess.R⟩, ⟨74, slContainsF.R⟩])) (orc_ok (by simp only [List.mem_cons, List.not_mem_nil, or_false, forall_eq_or_imp, forall_eq]; exact ⟨areNotLess.ok, slContainsF.ok⟩)) Try.func61 (by kernel_rfl) (by kernel_rfl) (n := 33) (ts := [4]) (hd := hd0) (dr := Dr.std) (cut := none) (by kernel_rfl) (by kernel_rfl) (by kernel_rfl) run
end areSlopes

end Go.Proofs.Ytgeglpommdckgaa.Ab
