/-
  Functions: lists of complex numbers.
-/
import Derived.Test.YtdnnpdmeklpcoaaFnJ
import Derived.Test.YtdnnpdmeklpcoaaFnME
namespace Go.Proofs.Ytdnnpdmeklpcoaa.Ab
open Go
set_option linter.unusedVariables false
set_option linter.unusedSimpArgs false
set_option maxRecDepth 100000

theorem gc_eq {xs : List (Nat × Nat)} {i : Nat} (h : i < xs.length) : gc xs i = xs[i] := by
  simp [gc, h]
theorem drop_take_consC {xs : List (Nat × Nat)} {m i : Nat} (hx : m ≤ xs.length) (hi : i < m) : (xs.take m).drop i = xs[i]'(by omega) :: (xs.take m).drop (i + 1) := by
  rw [List.drop_eq_getElem_cons (by simp; omega)]
  congr 1
  simp
def markC.sv (k : Int) : Nat × Nat := (nar.sv (FloatKind.f64.nearest k), 1065353216)
theorem one32 : nar.sv 4607182418800017408 = 1065353216 := by decide +kernel
def marksC.sv (k : Int) (m : Nat) : List (Nat × Nat) := (List.range m).map fun i : Nat => markC.sv (k + (i : Int))
theorem marksC_length (k : Int) (m : Nat) : (marksC.sv k m).length = m := by simp [marksC.sv]
theorem marksC_get (k : Int) (m i : Nat) (h : i < (marksC.sv k m).length) : (marksC.sv k m)[i] = markC.sv (k + (i : Int)) := by simp [marksC.sv]
theorem take_marksC (k : Int) (n : Nat) : (marksC.sv k n).take n = marksC.sv k n := List.take_of_length_le (by rw [marksC_length]; omega)
/-- Both parts are numbers. -/
def cfin.sp (z : Nat × Nat) : Bool := num32.sp z.1 && num32.sp z.2
theorem fl.fin_num32 {x : Nat} (h : fl.fin .f32 x) : num32.sp x = true := by
  obtain ⟨s, m, e, hd⟩ := h
  unfold num32.sp; rw [hd]
theorem fl.num32_fin {x : Nat} (h : num32.sp x = true) : fl.fin .f32 x := by
  unfold num32.sp at h
  split at h
  · rename_i s m e hd; exact ⟨s, m, e, hd⟩
  · cases h
theorem fl.eq_self {k : FloatKind} {x : Nat} (h : fl.fin k x) : (k.format.order x x == some Ordering.eq) = true := by
  rw [fl.order_val h h, fl.cmp_eq]; exact decide_eq_true rfl
theorem markC_ok {k : Int} (h0 : 0 ≤ k) (h1 : k ≤ 9007199254740991) : nar.ok.sp (FloatKind.f64.nearest k) = true ∧ nar.ok.sp 4607182418800017408 = true ∧ fl.fin .f32 (markC.sv k).1 ∧ fl.fin .f32 (markC.sv k).2 := by
  have e1 : 2 * FloatKind.f64.format.binade = 9007199254740992 := by decide
  obtain ⟨f1, f2⟩ := fl.ofInt_ok (k := .f64) (n := k) (by omega)
  have r53 : fl.Rep .f32 1 (53 : Nat) := fl.rep32 (by omega) (by omega) (by omega)
  have r0 : fl.Rep .f32 1 0 := fl.rep32 (by omega) (by omega) (by omega)
  have hb : (fl.val .f64 (FloatKind.f64.nearest k)).natAbs ≤ fl.sc 1 (53 : Nat) := by
    rw [f2, Int.natAbs_mul, Int.natAbs_natCast]
    have := fl.sc_add 1 0 53 (by omega)
    rw [Int.zero_add, Nat.one_mul] at this
    rw [this, fl.sc_nat (2 ^ 53)]
    exact Nat.mul_le_mul_right _ (by omega)
  obtain ⟨a1, a2, _⟩ := fl.nar_rn f1 r53 hb
  obtain ⟨b1, b2, _⟩ := fl.nar_rn fl.one_ok.1 r0 (by rw [fl.one_ok.2, Int.natAbs_natCast]; exact Nat.le_refl _)
  rw [one32] at b2
  exact ⟨a1, b1, a2, b2⟩

namespace sameComplex
def R : List AVal → Option (Bool × AVal × List Blk)
  | [.cpx .f64 a b, .cpx .f64 c d] => some (decide (a = c ∧ b = d), .bool true, [])
  | _ => none
theorem go (a b : Nat) :
  runFn Try.prog (orc [⟨41, sameFloat.R⟩]) hd0 Dr.std none 0 (bodyOf Try.f46) 17 [4] [.cpx .f64 a b, .cpx .f64 a b] []
  = (bif decide (a = a) && (true && (true && true) || true && true) then bif decide (b = b) && (true && (true && true) || true && true) then some (AVal.bool true, []) else none else none) := by kernel_rfl
theorem run : ∀ args v new, R args = some (true, v, new) → ∃ fuel, runFn Try.prog (orc [⟨41, sameFloat.R⟩]) hd0 Dr.std none fuel (bodyOf Try.f46) 17 [4] args [] = some (v, new) := by
  intro args v new h
  unfold R at h
  split at h
  · rename_i a b c d
    simp only [Option.some.injEq, Prod.mk.injEq, decide_eq_true_eq] at h
    obtain ⟨⟨rfl, rfl⟩, rfl, rfl⟩ := h
    refine ⟨0, ?_⟩
    rw [go]
    simp
  · cases h
theorem ok : EntOk Try.prog ⟨46, R⟩ :=
  ent_okA mixed (A := (orc [⟨41, sameFloat.R⟩])) (orc_ok (by simp only [List.mem_cons, List.not_mem_nil, or_false, forall_eq_or_imp, forall_eq]; exact sameFloat.ok)) Try.func46 (by kernel_rfl) (by kernel_rfl) (n := 17) (ts := [4]) (hd := hd0) (dr := Dr.std) (cut := none) (by kernel_rfl) (by kernel_rfl) (by kernel_rfl) run
end sameComplex

namespace eqComplex64N
def R : List AVal → Option (Bool × AVal × List Blk)
  | [.ro (.cpxs .f32 xs) m 1, .ro (.cpxs .f32 ys) k 1] => some (decide (m ≤ xs.length ∧ k ≤ ys.length ∧ m ≤ 4611686018427387904 ∧ m = k ∧ xs.take m = ys.take k) && (xs.take m).all cfin.sp, .bool true, [])
  | [.nils, .nils] => some (true, .bool true, [])
  | _ => none
def hd : Nat → Head := fun _ => ⟨[0, 1, 4, 5], none⟩
noncomputable def L (f n : Nat) (s : State) := loopAt Try.prog (orc [⟨46, sameComplex.R⟩]) hd Dr.std 0 f (bodyOf Try.f16) 0 [true, true, false, true] (retK Try.prog [4] 0 none) n s
theorem start (xs ys : List (Nat × Nat)) (m f : Nat) :
  runFn Try.prog (orc [⟨46, sameComplex.R⟩]) hd Dr.std none f (bodyOf Try.f16) 29 [4] [.ro (.cpxs .f32 xs) m 1, .ro (.cpxs .f32 ys) m 1] []
  = (bif (↑m : Int) != (↑m : Int) then some (AVal.bool false, []) else L f f (mkS (29 : Nat) [((0 : Nat), AVal.ro (Cont.cpxs FloatKind.f32 xs) m (1 : Nat)), ((1 : Nat), AVal.ro (Cont.cpxs FloatKind.f32 ys) m (1 : Nat)), ((4 : Nat), AVal.bool false), ((5 : Nat), AVal.int IntKind.i64 (0 : Int))] [])) := by kernel_rfl
theorem round (xs ys : List (Nat × Nat)) (m i : Nat) (f n : Nat) :
  L f (n + 1) (mkS 29 [(0, .ro (.cpxs .f32 xs) m 1), (1, .ro (.cpxs .f32 ys) m 1), (4, .bool false), (5, .int .i64 i)] [])
  = (bif decide ((↑i : Int) < (↑m : Int)) then bif true && (decide ((0 : Int) ≤ (↑i : Int)) && decide ((↑i : Int) < (↑m : Int))) then bif decide ((↑i : Int).toNat < xs.length) then bif num32.sp (gc xs (↑i : Int).toNat).1 && num32.sp (gc xs (↑i : Int).toNat).2 then bif true && (decide ((0 : Int) ≤ (↑i : Int)) && decide ((↑i : Int) < (↑m : Int))) then bif decide ((↑i : Int).toNat < ys.length) then bif num32.sp (gc ys (↑i : Int).toNat).1 && num32.sp (gc ys (↑i : Int).toNat).2 then bif decide (fwid.sv (gc xs (↑i : Int).toNat).1 = fwid.sv (gc ys (↑i : Int).toNat).1 ∧ fwid.sv (gc xs (↑i : Int).toNat).2 = fwid.sv (gc ys (↑i : Int).toNat).2) && (true && (true && true) || true && true) then L f n (mkS (29 : Nat) [((0 : Nat), AVal.ro (Cont.cpxs FloatKind.f32 xs) m (1 : Nat)), ((1 : Nat), AVal.ro (Cont.cpxs FloatKind.f32 ys) m (1 : Nat)), ((4 : Nat), AVal.bool false), ((5 : Nat), AVal.int IntKind.i64 (IntKind.i64.wrap ((↑i : Int) + (1 : Int))))] []) else none else none else none else none else none else none else none else some (AVal.bool true, [])) := by kernel_rfl
theorem nil :
  runFn Try.prog (orc [⟨46, sameComplex.R⟩]) hd Dr.std none 1 (bodyOf Try.f16) 29 [4] [.nils, .nils] []
  = (some (AVal.bool true, [])) := by kernel_rfl
theorem loop (xs ys : List (Nat × Nat)) (m : Nat) (f : Nat) (hx : m ≤ xs.length) (hy : m ≤ ys.length) (he : xs.take m = ys.take m) (hf : (xs.take m).all cfin.sp = true) (hb : m ≤ 4611686018427387904) : ∀ (d i n : Nat) , i + d = m → d < n →
    L f n (mkS 29 [(0, .ro (.cpxs .f32 xs) m 1), (1, .ro (.cpxs .f32 ys) m 1), (4, .bool false), (5, .int .i64 i)] []) = some (.bool true, []) := by
  intro d
  induction d with
  | zero =>
    intro i n  hi hn 
    obtain ⟨n, rfl⟩ : ∃ k, n = k + 1 := ⟨n - 1, by omega⟩
    obtain rfl : i = m := by omega
    rw [round]
    simp
  | succ d ih =>
    intro i n  hi hn 
    obtain ⟨n, rfl⟩ : ∃ k, n = k + 1 := ⟨n - 1, by omega⟩
    have h1 : i < m := by omega
    have h4 : (0 : Int) ≤ (i : Int) := Int.natCast_nonneg _
    have h5 : (i : Int) < (m : Int) := by omega
    have h2 : i < xs.length := by omega
    have h3 : i < ys.length := by omega
    rw [round]
    have e : ys[i] = xs[i] := by
      have := congrArg (fun l => l[i]?) he
      simp only [List.getElem?_take, h1, if_true, List.getElem?_eq_getElem h2, List.getElem?_eq_getElem h3, Option.some.injEq] at this
      exact this.symm
    have hfi : cfin.sp xs[i] = true := by
      refine List.all_eq_true.1 hf _ ?_
      rw [List.mem_iff_getElem]
      exact ⟨i, by rw [List.length_take]; omega, by rw [List.getElem_take]⟩
    unfold cfin.sp at hfi
    simp only [h4, h5, h2, h3, gc_eq h2, gc_eq h3, e, hfi, and_self, decide_true, Bool.and_self, Bool.or_self, Bool.and_true, Bool.true_and, Bool.not_true, cond_true, cond_false, Int.toNat_natCast, wrap_nat i (by omega)]
    exact ih (i + 1) n (by omega) (by omega)
theorem run : ∀ args v new, R args = some (true, v, new) → ∃ fuel, runFn Try.prog (orc [⟨46, sameComplex.R⟩]) hd Dr.std none fuel (bodyOf Try.f16) 29 [4] args [] = some (v, new) := by
  intro args v new h
  unfold R at h
  split at h
  · rename_i xs m ys k
    simp only [Option.some.injEq, Prod.mk.injEq, decide_eq_true_eq, Bool.and_eq_true] at h
    obtain ⟨⟨⟨h1, h2, h3, rfl, h4⟩, h5⟩, rfl, rfl⟩ := h
    refine ⟨m + 1, ?_⟩
    rw [start]
    have hl := loop xs ys m (m + 1) h1 h2 h4 h5 h3 m 0 (m + 1) (by omega) (by omega)
    simpa using hl
  · simp only [Option.some.injEq, Prod.mk.injEq] at h
    obtain ⟨_, rfl, rfl⟩ := h
    exact ⟨1, nil⟩
  · cases h
theorem ok : EntOk Try.prog ⟨16, R⟩ :=
  ent_okA mixed (A := (orc [⟨46, sameComplex.R⟩])) (orc_ok (by simp only [List.mem_cons, List.not_mem_nil, or_false, forall_eq_or_imp, forall_eq]; exact sameComplex.ok)) Try.func16 (by kernel_rfl) (by kernel_rfl) (n := 29) (ts := [4]) (hd := hd) (dr := Dr.std) (cut := none) (by kernel_rfl) (by kernel_rfl) (by kernel_rfl) run
end eqComplex64N

namespace markComplex64S
def R : List AVal → Heap → Option (Bool × AVal × Heap)
  | [.own 0 0 m 0 1, .int .i64 k], [⟨.typ (.cpxs .f32 xs), 0⟩] => some (decide (m = xs.length ∧ m ≤ 1000000000 ∧ 0 ≤ k ∧ k ≤ 1000000000), .int .i64 (k + m), [⟨.typ (.cpxs .f32 (marksC.sv k m)), 0⟩])
  | [.nils, .int .i64 k], [] => some (true, .int .i64 k, [])
  | _, _ => none
def hd : Nat → Head := fun _ => ⟨[0, 1, 5], none⟩
noncomputable def L (f n : Nat) (s : State) := loopAt Try.prog (orc []) hd Dr.std 1 f (bodyOf Try.f19) 0 [true, false, true] (retK Try.prog [4] 1 none) n s
theorem start (xs : List (Nat × Nat)) (m : Nat) (k : Int) (f : Nat) :
  runFn Try.prog (orc []) hd Dr.std none f (bodyOf Try.f19) 22 [4] [.own 0 0 m 0 1, .int .i64 k] [⟨.typ (.cpxs .f32 xs), 0⟩]
  = (bif true && true then L f f (mkS (22 : Nat) [((0 : Nat), AVal.own (0 : Nat) (0 : Nat) m (0 : Nat) (1 : Nat)), ((1 : Nat), AVal.int IntKind.i64 k), ((5 : Nat), AVal.int IntKind.i64 (0 : Int))] [{ c := BC.typ (Cont.cpxs FloatKind.f32 xs), ver := (0 : Nat) }]) else none) := by kernel_rfl
theorem round (ys : List (Nat × Nat)) (m i : Nat) (k : Int) (f n : Nat) :
  L f (n + 1) (mkS 22 [(0, .own 0 0 m 0 1), (1, .int .i64 k), (5, .int .i64 i)] [⟨.typ (.cpxs .f32 ys), 0⟩])
  = (bif decide ((↑i : Int) < (↑m : Int)) then bif nar.ok.sp (FloatKind.f64.nearest k) && nar.ok.sp (4607182418800017408 : Nat) then bif true && (decide ((0 : Int) ≤ (↑i : Int)) && decide ((↑i : Int) < (↑m : Int))) then bif true && (true && (decide ((↑i : Int).toNat < ys.length) && true)) then L f n (mkS (22 : Nat) [((0 : Nat), AVal.own (0 : Nat) (0 : Nat) m (0 : Nat) (1 : Nat)), ((1 : Nat), AVal.int IntKind.i64 (IntKind.i64.wrap (k + (1 : Int)))), ((5 : Nat), AVal.int IntKind.i64 (IntKind.i64.wrap ((↑i : Int) + (1 : Int))))] [{ c := BC.typ (Cont.cpxs FloatKind.f32 (ys.set (↑i : Int).toNat (nar.sv (FloatKind.f64.nearest k), (1065353216 : Nat)))), ver := (0 : Nat) }]) else none else none else none else some (AVal.int IntKind.i64 k, [{ c := BC.typ (Cont.cpxs FloatKind.f32 ys), ver := (0 : Nat) }])) := by kernel_rfl
theorem nil (k : Int) :
  runFn Try.prog (orc []) hd Dr.std none 1 (bodyOf Try.f19) 22 [4] [.nils, .int .i64 k] []
  = (some (AVal.int IntKind.i64 k, [])) := by kernel_rfl
theorem loop (m : Nat) (k : Int) (f : Nat) (hb : m ≤ 1000000000) (hk : 0 ≤ k) (hk2 : k ≤ 1000000000) : ∀ (d i n : Nat) (ys : List (Nat × Nat)), i + d = m → d < n → ys.length = m → ys.take i = (marksC.sv k m).take i →
    L f n (mkS 22 [(0, .own 0 0 m 0 1), (1, .int .i64 (k + i)), (5, .int .i64 i)] [⟨.typ (.cpxs .f32 ys), 0⟩]) = some (.int .i64 (k + m), [⟨.typ (.cpxs .f32 (marksC.sv k m)), 0⟩]) := by
  intro d
  induction d with
  | zero =>
    intro i n ys hi hn hl ht
    obtain ⟨n, rfl⟩ : ∃ k, n = k + 1 := ⟨n - 1, by omega⟩
    obtain rfl : i = m := by omega
    rw [round]
    have : ys = marksC.sv k i := by
      rw [List.take_of_length_le (by omega), List.take_of_length_le (by rw [marksC_length]; omega)] at ht; exact ht
    simp [this]
  | succ d ih =>
    intro i n ys hi hn hl ht
    obtain ⟨n, rfl⟩ : ∃ k, n = k + 1 := ⟨n - 1, by omega⟩
    have h1 : i < m := by omega
    have h4 : (0 : Int) ≤ (i : Int) := Int.natCast_nonneg _
    have h5 : (i : Int) < (m : Int) := by omega
    have h3 : i < ys.length := by omega
    rw [round]
    have e1 : IntKind.i64.wrap (k + (i : Int) + 1) = k + ((i + 1 : Nat) : Int) := by rw [IntWalk.i64_in _ (by omega)]; omega
    obtain ⟨q1, q2, _, _⟩ := markC_ok (k := k + (i : Int)) (by omega) (by omega)
    simp only [h4, h5, h3, q1, q2, decide_true, Bool.and_self, Bool.and_true, Bool.true_and, cond_true, Int.toNat_natCast, wrap_nat i (by omega), e1]
    refine ih (i + 1) n _ (by omega) (by omega) (by simpa using hl) ?_
    have hm : i < (marksC.sv k m).length := by rw [marksC_length]; exact h1
    rw [List.take_add_one, List.take_add_one, List.take_set_of_le (Nat.le_refl _), ht, List.getElem?_eq_getElem hm, marksC_get]
    simp [h3, markC.sv]
theorem run : ∀ args H v new, R args H = some (true, v, new) → ∃ fuel, runFn Try.prog (orc []) hd Dr.std none fuel (bodyOf Try.f19) 22 [4] args H = some (v, new) := by
  intro args H v new h
  unfold R at h
  split at h
  · rename_i m k xs
    simp only [Option.some.injEq, Prod.mk.injEq, decide_eq_true_eq] at h
    obtain ⟨⟨h1, h2, h3, h4⟩, rfl, rfl⟩ := h
    refine ⟨m + 1, ?_⟩
    rw [start]
    have := loop m k (m + 1) h2 h3 h4 m 0 (m + 1) xs (by omega) (by omega) h1.symm (by simp)
    simpa using this
  · simp only [Option.some.injEq, Prod.mk.injEq] at h
    obtain ⟨_, rfl, rfl⟩ := h
    exact ⟨1, nil _⟩
  · cases h
theorem ok : EntWOk Try.prog ⟨19, R⟩ :=
  entw_ok mixed (A := (orc [])) (orc_ok (by simp)) Try.func19 (by kernel_rfl) (by kernel_rfl) (n := 22) (ts := [4]) (hd := hd) (dr := Dr.std) (cut := none) (by kernel_rfl) (by kernel_rfl) (by kernel_rfl) run
end markComplex64S

namespace heldComplex64S
def R : List AVal → Option (Bool × AVal × List Blk)
  | [.ro (.cpxs .f32 xs) m 1, .int .i64 k] => some (decide (m ≤ xs.length ∧ m ≤ 1000000000 ∧ 0 ≤ k ∧ k ≤ 1000000000 ∧ xs.take m = marksC.sv k m), .int .i64 (k + m), [])
  | [.nils, .int .i64 k] => some (true, .int .i64 k, [])
  | _ => none
def hd : Nat → Head := fun _ => ⟨[0, 1, 4, 5], none⟩
noncomputable def L (f n : Nat) (s : State) := loopAt Try.prog (orc []) hd Dr.std 0 f (bodyOf Try.f20) 0 [true, false, true] (retK Try.prog [4] 0 none) n s
theorem start (xs : List (Nat × Nat)) (m : Nat) (k : Int) (f : Nat) :
  runFn Try.prog (orc []) hd Dr.std none f (bodyOf Try.f20) 24 [4] [.ro (.cpxs .f32 xs) m 1, .int .i64 k] []
  = (L f f (mkS (24 : Nat) [((0 : Nat), AVal.ro (Cont.cpxs FloatKind.f32 xs) m (1 : Nat)), ((1 : Nat), AVal.int IntKind.i64 k), ((4 : Nat), AVal.int IntKind.i64 (0 : Int)), ((5 : Nat), AVal.int IntKind.i64 (0 : Int))] [])) := by kernel_rfl
theorem round (xs : List (Nat × Nat)) (m i : Nat) (k : Int) (f n : Nat) :
  L f (n + 1) (mkS 24 [(0, .ro (.cpxs .f32 xs) m 1), (1, .int .i64 k), (4, .int .i64 0), (5, .int .i64 i)] [])
  = (bif decide ((↑i : Int) < (↑m : Int)) then bif true && (decide ((0 : Int) ≤ (↑i : Int)) && decide ((↑i : Int) < (↑m : Int))) then bif decide ((↑i : Int).toNat < xs.length) then bif nar.ok.sp (FloatKind.f64.nearest k) && nar.ok.sp (4607182418800017408 : Nat) then bif !(FloatKind.f32.format.order (gc xs (↑i : Int).toNat).1 (nar.sv (FloatKind.f64.nearest k)) == some Ordering.eq && FloatKind.f32.format.order (gc xs (↑i : Int).toNat).2 (1065353216 : Nat) == some Ordering.eq) then some (AVal.int IntKind.i64 (-1 : Int), []) else L f n (mkS (24 : Nat) [((0 : Nat), AVal.ro (Cont.cpxs FloatKind.f32 xs) m (1 : Nat)), ((1 : Nat), AVal.int IntKind.i64 (IntKind.i64.wrap (k + (1 : Int)))), ((4 : Nat), AVal.int IntKind.i64 (0 : Int)), ((5 : Nat), AVal.int IntKind.i64 (IntKind.i64.wrap ((↑i : Int) + (1 : Int))))] []) else none else none else none else some (AVal.int IntKind.i64 k, [])) := by kernel_rfl
theorem nil (k : Int) :
  runFn Try.prog (orc []) hd Dr.std none 1 (bodyOf Try.f20) 24 [4] [.nils, .int .i64 k] []
  = (some (AVal.int IntKind.i64 k, [])) := by kernel_rfl
theorem loop (xs : List (Nat × Nat)) (m : Nat) (k : Int) (f : Nat) (hx : m ≤ xs.length) (he : xs.take m = marksC.sv k m) (hb : m ≤ 1000000000) (hk : 0 ≤ k) (hk2 : k ≤ 1000000000) : ∀ (d i n : Nat) , i + d = m → d < n →
    L f n (mkS 24 [(0, .ro (.cpxs .f32 xs) m 1), (1, .int .i64 (k + i)), (4, .int .i64 0), (5, .int .i64 i)] []) = some (.int .i64 (k + m), []) := by
  intro d
  induction d with
  | zero =>
    intro i n  hi hn 
    obtain ⟨n, rfl⟩ : ∃ k, n = k + 1 := ⟨n - 1, by omega⟩
    obtain rfl : i = m := by omega
    rw [round]
    simp
  | succ d ih =>
    intro i n  hi hn 
    obtain ⟨n, rfl⟩ : ∃ k, n = k + 1 := ⟨n - 1, by omega⟩
    have h1 : i < m := by omega
    have h4 : (0 : Int) ≤ (i : Int) := Int.natCast_nonneg _
    have h5 : (i : Int) < (m : Int) := by omega
    have h2 : i < xs.length := by omega
    rw [round]
    have e : xs[i] = markC.sv (k + (i : Int)) := by
      have hm : i < (marksC.sv k m).length := by rw [marksC_length]; exact h1
      have := congrArg (fun l => l[i]?) he
      simp only [List.getElem?_take, h1, if_true, List.getElem?_eq_getElem h2, List.getElem?_eq_getElem hm, marksC_get, Option.some.injEq] at this
      exact this
    have e1 : IntKind.i64.wrap (k + (i : Int) + 1) = k + ((i + 1 : Nat) : Int) := by rw [IntWalk.i64_in _ (by omega)]; omega
    obtain ⟨q1, q2, q3, q4⟩ := markC_ok (k := k + (i : Int)) (by omega) (by omega)
    have s1 := fl.eq_self q3
    have s2 := fl.eq_self q4
    simp only [markC.sv] at e s1 s2
    simp only [h4, h5, h2, gc_eq h2, e, e1, q1, q2, s1, s2, decide_true, Bool.and_self, Bool.or_self, Bool.and_true, Bool.true_and, Bool.not_true, cond_true, cond_false, Int.toNat_natCast, wrap_nat i (by omega)]
    exact ih (i + 1) n (by omega) (by omega)
theorem run : ∀ args v new, R args = some (true, v, new) → ∃ fuel, runFn Try.prog (orc []) hd Dr.std none fuel (bodyOf Try.f20) 24 [4] args [] = some (v, new) := by
  intro args v new h
  unfold R at h
  split at h
  · rename_i xs m k
    simp only [Option.some.injEq, Prod.mk.injEq, decide_eq_true_eq] at h
    obtain ⟨⟨h1, h2, h3, h4, h5⟩, rfl, rfl⟩ := h
    refine ⟨m + 1, ?_⟩
    rw [start]
    have := loop xs m k (m + 1) h1 h5 h2 h3 h4 m 0 (m + 1) (by omega) (by omega)
    simpa using this
  · simp only [Option.some.injEq, Prod.mk.injEq] at h
    obtain ⟨_, rfl, rfl⟩ := h
    exact ⟨1, nil _⟩
  · cases h
theorem ok : EntOk Try.prog ⟨20, R⟩ :=
  ent_okA mixed (A := (orc [])) (orc_ok (by simp)) Try.func20 (by kernel_rfl) (by kernel_rfl) (n := 24) (ts := [4]) (hd := hd) (dr := Dr.std) (cut := none) (by kernel_rfl) (by kernel_rfl) (by kernel_rfl) run
end heldComplex64S

end Go.Proofs.Ytdnnpdmeklpcoaa.Ab
