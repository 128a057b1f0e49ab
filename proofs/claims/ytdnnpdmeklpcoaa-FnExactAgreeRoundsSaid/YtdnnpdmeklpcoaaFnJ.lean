/-
  Functions: lists of floats.
-/
import Derived.Test.YtdnnpdmeklpcoaaFnE
namespace Go.Proofs.Ytdnnpdmeklpcoaa.Ab
open Go
set_option linter.unusedVariables false
set_option linter.unusedSimpArgs false
set_option maxRecDepth 100000

theorem gn_eq {xs : List Nat} {i : Nat} (h : i < xs.length) : gn xs i = xs[i] := by
  simp [gn, h]
theorem drop_take_consN {xs : List Nat} {m i : Nat} (hx : m ≤ xs.length) (hi : i < m) : (xs.take m).drop i = xs[i]'(by omega) :: (xs.take m).drop (i + 1) := by
  rw [List.drop_eq_getElem_cons (by simp; omega)]
  congr 1
  simp
def marksF.sv (k : Int) (m : Nat) : List Nat := (List.range m).map fun i : Nat => FloatKind.f32.nearest (k + (i : Int))
theorem marksF_length (k : Int) (m : Nat) : (marksF.sv k m).length = m := by simp [marksF.sv]
theorem marksF_get (k : Int) (m i : Nat) (h : i < (marksF.sv k m).length) : (marksF.sv k m)[i] = FloatKind.f32.nearest (k + (i : Int)) := by simp [marksF.sv]
theorem take_marksF (k : Int) (n : Nat) : (marksF.sv k n).take n = marksF.sv k n := List.take_of_length_le (by rw [marksF_length]; omega)

namespace sameFloat
def R : List AVal → Option (Bool × AVal × List Blk)
  | [.flt .f64 a, .flt .f64 b] => some (decide (a = b), .bool true, [])
  | _ => none
theorem go (a : Nat) :
  runFn Try.prog (orc []) hd0 Dr.std none 0 (bodyOf Try.f41) 37 [4] [.flt .f64 a, .flt .f64 a] []
  = (bif FloatKind.f64.format.order a a != some Ordering.eq then bif FloatKind.f64.format.order a a != some Ordering.eq then some (AVal.bool (FloatKind.f64.format.order a a != some Ordering.eq), []) else some (AVal.bool false, []) else bif FloatKind.f64.format.order a a != some Ordering.eq then bif FloatKind.f64.format.order a a != some Ordering.eq then some (AVal.bool (FloatKind.f64.format.order a a != some Ordering.eq), []) else some (AVal.bool false, []) else bif FloatKind.f64.format.order a (0 : Nat) == some Ordering.eq then bif FloatKind.f64.format.order a (0 : Nat) == some Ordering.eq then some (AVal.bool ((FloatKind.f64.format.order (fdiv FloatKind.f64 (4607182418800017408 : Nat) a) (0 : Nat) == some Ordering.gt) == (FloatKind.f64.format.order (fdiv FloatKind.f64 (4607182418800017408 : Nat) a) (0 : Nat) == some Ordering.gt)), []) else some (AVal.bool (FloatKind.f64.format.order a a == some Ordering.eq), []) else some (AVal.bool (FloatKind.f64.format.order a a == some Ordering.eq), [])) := by kernel_rfl
theorem run : ∀ args v new, R args = some (true, v, new) → ∃ fuel, runFn Try.prog (orc []) hd0 Dr.std none fuel (bodyOf Try.f41) 37 [4] args [] = some (v, new) := by
  intro args v new h
  unfold R at h
  split at h
  · rename_i a b
    simp only [Option.some.injEq, Prod.mk.injEq, decide_eq_true_eq] at h
    obtain ⟨rfl, rfl, rfl⟩ := h
    refine ⟨0, ?_⟩
    rw [go]
    cases hc : (FloatKind.f64.format.order a a != some Ordering.eq)
    · have : FloatKind.f64.format.order a a = some Ordering.eq := by simpa using hc
      simp [this]
    · simp
  · cases h
theorem ok : EntOk Try.prog ⟨41, R⟩ :=
  ent_okA mixed (A := (orc [])) (orc_ok (by simp)) Try.func41 (by kernel_rfl) (by kernel_rfl) (n := 37) (ts := [4]) (hd := hd0) (dr := Dr.std) (cut := none) (by kernel_rfl) (by kernel_rfl) (by kernel_rfl) run
end sameFloat

namespace toFloat32S
def R : List AVal → Option (Bool × AVal × List Blk)
  | [.ro (.flts .f32 xs) m 1] => some (decide (m ≤ xs.length ∧ m ≤ 1048576), .own 0 0 m 0 1, [⟨.typ (.flts .f32 (xs.take m)), 0⟩])
  | _ => none
def hd : Nat → Head := fun _ => ⟨[0, 3, 4], some 1⟩
noncomputable def L (f n : Nat) (s : State) := loopAt Try.prog (orc []) hd Dr.std 0 f (bodyOf Try.f8) 0 [true, true, false, true] (retK Try.prog [2] 0 (some 1)) n s
theorem start (xs : List Nat) (m f : Nat) :
  runFn Try.prog (orc []) hd Dr.std (some 1) f (bodyOf Try.f8) 22 [2] [.ro (.flts .f32 xs) m 1] []
  = (bif (1 : Nat) == (1 : Nat) && ((↑m : Int) == (↑m : Int) && (decide ((0 : Int) ≤ (↑m : Int)) && (decide ((↑m : Int) * (4 : Int) ≤ (140737488355328 : Int)) && decide ((↑m : Int) ≤ (4611686018427387904 : Int))))) then L f f (mkS (22 : Nat) [((0 : Nat), AVal.ro (Cont.flts FloatKind.f32 xs) m (1 : Nat)), ((3 : Nat), AVal.own (0 : Nat) (0 : Nat) (↑m : Int).toNat (0 : Nat) (1 : Nat)), ((4 : Nat), AVal.int IntKind.i64 (0 : Int))] [{ c := BC.typ (Cont.flts FloatKind.f32 (List.replicate (↑m : Int).toNat (0 : Nat))), ver := (0 : Nat) }]) else none) := by kernel_rfl
theorem round (xs : List Nat) (m i : Nat) (ys : List Nat) (f n : Nat) :
  L f (n + 1) (mkS 22 [(0, .ro (.flts .f32 xs) m 1), (3, .own 0 0 m 0 1), (4, .int .i64 i)] [⟨.typ (.flts .f32 ys), 0⟩])
  = (bif decide ((↑i : Int) < (↑m : Int)) then bif true && (decide ((0 : Int) ≤ (↑i : Int)) && decide ((↑i : Int) < (↑m : Int))) then bif decide ((↑i : Int).toNat < xs.length) then bif true && (decide ((0 : Int) ≤ (↑i : Int)) && decide ((↑i : Int) < (↑m : Int))) then bif true && (true && (decide ((↑i : Int).toNat < ys.length) && true)) then L f n (mkS (22 : Nat) [((0 : Nat), AVal.ro (Cont.flts FloatKind.f32 xs) m (1 : Nat)), ((3 : Nat), AVal.own (0 : Nat) (0 : Nat) m (0 : Nat) (1 : Nat)), ((4 : Nat), AVal.int IntKind.i64 (IntKind.i64.wrap ((↑i : Int) + (1 : Int))))] [{ c := BC.typ (Cont.flts FloatKind.f32 (ys.set (↑i : Int).toNat (gn xs (↑i : Int).toNat))), ver := (0 : Nat) }]) else none else none else none else none else some (AVal.own (0 : Nat) (0 : Nat) m (0 : Nat) (1 : Nat), [{ c := BC.typ (Cont.flts FloatKind.f32 ys), ver := (0 : Nat) }])) := by kernel_rfl
theorem loop (xs : List Nat) (m : Nat) (f : Nat) (hm : m ≤ xs.length) (hb : m ≤ 1048576) : ∀ (d i n : Nat) (ys : List Nat), i + d = m → d < n → ys.length = m → ys.take i = xs.take i →
    L f n (mkS 22 [(0, .ro (.flts .f32 xs) m 1), (3, .own 0 0 m 0 1), (4, .int .i64 i)] [⟨.typ (.flts .f32 ys), 0⟩]) = some (.own 0 0 m 0 1, [⟨.typ (.flts .f32 (xs.take m)), 0⟩]) := by
  intro d
  induction d with
  | zero =>
    intro i n ys hi hn hl ht
    obtain ⟨n, rfl⟩ : ∃ k, n = k + 1 := ⟨n - 1, by omega⟩
    obtain rfl : i = m := by omega
    rw [round]
    have : ys = xs.take i := by rw [← ht, List.take_of_length_le (by omega)]
    simp [this]
  | succ d ih =>
    intro i n ys hi hn hl ht
    obtain ⟨n, rfl⟩ : ∃ k, n = k + 1 := ⟨n - 1, by omega⟩
    have h1 : i < m := by omega
    have h4 : (0 : Int) ≤ (i : Int) := Int.natCast_nonneg _
    have h5 : (i : Int) < (m : Int) := by omega
    have h2 : i < xs.length := by omega
    have h3 : i < ys.length := by omega
    rw [round]
    simp only [h4, h5, h2, h3, decide_true, Bool.and_self, cond_true, Int.toNat_natCast, wrap_nat i (by omega)]
    refine ih (i + 1) n _ (by omega) (by omega) (by simpa using hl) ?_
    rw [List.take_add_one, List.take_add_one, List.take_set_of_le (Nat.le_refl _), ht, gn_eq h2]
    simp [h2, h3]
theorem run : ∀ args v new, R args = some (true, v, new) → ∃ fuel, runFn Try.prog (orc []) hd Dr.std (some 1) fuel (bodyOf Try.f8) 22 [2] args [] = some (v, new) := by
  intro args v new h
  unfold R at h
  split at h
  · rename_i xs m
    simp only [Option.some.injEq, Prod.mk.injEq, decide_eq_true_eq] at h
    obtain ⟨⟨h1, h2⟩, rfl, rfl⟩ := h
    refine ⟨m + 1, ?_⟩
    rw [start]
    have c1 : (0 : Int) ≤ (m : Int) := Int.natCast_nonneg _
    have c2 : (m : Int) * 4 ≤ 140737488355328 := by omega
    have c3 : (m : Int) ≤ 4611686018427387904 := by omega
    have hl := loop xs m (m + 1) h1 h2 m 0 (m + 1) (List.replicate m 0) (by omega) (by omega) (by simp) (by simp)
    simp [c1, c2, c3]
    exact hl
  · cases h
theorem ok : EntOk Try.prog ⟨8, R⟩ :=
  ent_okA mixed (A := (orc [])) (orc_ok (by simp)) Try.func8 (by kernel_rfl) (by kernel_rfl) (n := 22) (ts := [2]) (hd := hd) (dr := Dr.std) (cut := (some 1)) (by kernel_rfl) (by kernel_rfl) (by kernel_rfl) run
end toFloat32S

namespace eqFloat32N
def dr : Nat → Dr := Dr.std
def R : List AVal → Option (Bool × AVal × List Blk)
  | [.ro (.flts .f32 xs) m 1, .ro (.flts .f32 ys) k 1] => some (decide (m ≤ xs.length ∧ k ≤ ys.length ∧ m ≤ 4611686018427387904 ∧ m = k ∧ xs.take m = ys.take k), .bool true, [])
  | [.nils, .nils] => some (true, .bool true, [])
  | _ => none
def hd : Nat → Head := fun _ => ⟨[0, 1, 4, 5], none⟩
noncomputable def L (f n : Nat) (s : State) := loopAt Try.prog (orc [⟨41, sameFloat.R⟩]) hd dr 0 f (bodyOf Try.f10) 0 [true, true, false, true] (retK Try.prog [4] 0 none) n s
theorem start (xs ys : List Nat) (m f : Nat) :
  runFn Try.prog (orc [⟨41, sameFloat.R⟩]) hd dr none f (bodyOf Try.f10) 29 [4] [.ro (.flts .f32 xs) m 1, .ro (.flts .f32 ys) m 1] []
  = (bif (↑m : Int) != (↑m : Int) then some (AVal.bool false, []) else L f f (mkS (29 : Nat) [((0 : Nat), AVal.ro (Cont.flts FloatKind.f32 xs) m (1 : Nat)), ((1 : Nat), AVal.ro (Cont.flts FloatKind.f32 ys) m (1 : Nat)), ((4 : Nat), AVal.bool false), ((5 : Nat), AVal.int IntKind.i64 (0 : Int))] [])) := by kernel_rfl
theorem round (xs ys : List Nat) (m i : Nat) (f n : Nat) :
  L f (n + 1) (mkS 29 [(0, .ro (.flts .f32 xs) m 1), (1, .ro (.flts .f32 ys) m 1), (4, .bool false), (5, .int .i64 i)] [])
  = (bif decide ((↑i : Int) < (↑m : Int)) then bif true && (decide ((0 : Int) ≤ (↑i : Int)) && decide ((↑i : Int) < (↑m : Int))) then bif decide ((↑i : Int).toNat < xs.length) then bif true && (decide ((0 : Int) ≤ (↑i : Int)) && decide ((↑i : Int) < (↑m : Int))) then bif decide ((↑i : Int).toNat < ys.length) then bif decide (fwid.sv (gn xs (↑i : Int).toNat) = fwid.sv (gn ys (↑i : Int).toNat)) && (true && (true && true) || true && true) then L f n (mkS (29 : Nat) [((0 : Nat), AVal.ro (Cont.flts FloatKind.f32 xs) m (1 : Nat)), ((1 : Nat), AVal.ro (Cont.flts FloatKind.f32 ys) m (1 : Nat)), ((4 : Nat), AVal.bool false), ((5 : Nat), AVal.int IntKind.i64 (IntKind.i64.wrap ((↑i : Int) + (1 : Int))))] []) else none else none else none else none else none else some (AVal.bool true, [])) := by kernel_rfl
theorem nil :
  runFn Try.prog (orc [⟨41, sameFloat.R⟩]) hd dr none 1 (bodyOf Try.f10) 29 [4] [.nils, .nils] []
  = (some (AVal.bool true, [])) := by kernel_rfl
theorem loop (xs ys : List Nat) (m : Nat) (f : Nat) (hx : m ≤ xs.length) (hy : m ≤ ys.length) (he : xs.take m = ys.take m) (hb : m ≤ 4611686018427387904) : ∀ (d i n : Nat) , i + d = m → d < n →
    L f n (mkS 29 [(0, .ro (.flts .f32 xs) m 1), (1, .ro (.flts .f32 ys) m 1), (4, .bool false), (5, .int .i64 i)] []) = some (.bool true, []) := by
  intro d
  induction d with
  | zero =>
    intro i n  hi hn 
    obtain ⟨n, rfl⟩ : ∃ k, n = k + 1 := ⟨n - 1, by omega⟩
    obtain rfl : i = m := by omega
    rw [round]
    simp
  | succ d ih =>
    intro i n  hi hn 
    obtain ⟨n, rfl⟩ : ∃ k, n = k + 1 := ⟨n - 1, by omega⟩
    have h1 : i < m := by omega
    have h4 : (0 : Int) ≤ (i : Int) := Int.natCast_nonneg _
    have h5 : (i : Int) < (m : Int) := by omega
    have h2 : i < xs.length := by omega
    have h3 : i < ys.length := by omega
    rw [round]
    have e : ys[i] = xs[i] := by
      have := congrArg (fun l => l[i]?) he
      simp only [List.getElem?_take, h1, if_true, List.getElem?_eq_getElem h2, List.getElem?_eq_getElem h3, Option.some.injEq] at this
      exact this.symm
    simp only [h4, h5, h2, h3, gn_eq h2, gn_eq h3, e, decide_true, Bool.and_self, Bool.or_self, Bool.and_true, Bool.true_and, Bool.not_true, cond_true, cond_false, Int.toNat_natCast, wrap_nat i (by omega)]
    exact ih (i + 1) n (by omega) (by omega)
theorem run : ∀ args v new, R args = some (true, v, new) → ∃ fuel, runFn Try.prog (orc [⟨41, sameFloat.R⟩]) hd dr none fuel (bodyOf Try.f10) 29 [4] args [] = some (v, new) := by
  intro args v new h
  unfold R at h
  split at h
  · rename_i xs m ys k
    simp only [Option.some.injEq, Prod.mk.injEq, decide_eq_true_eq] at h
    obtain ⟨⟨h1, h2, h3, rfl, h4⟩, rfl, rfl⟩ := h
    refine ⟨m + 1, ?_⟩
    rw [start]
    have hl := loop xs ys m (m + 1) h1 h2 h4 h3 m 0 (m + 1) (by omega) (by omega)
    simpa using hl
  · simp only [Option.some.injEq, Prod.mk.injEq] at h
    obtain ⟨_, rfl, rfl⟩ := h
    exact ⟨1, nil⟩
  · cases h
theorem ok : EntOk Try.prog ⟨10, R⟩ :=
  ent_okA mixed (A := (orc [⟨41, sameFloat.R⟩])) (orc_ok (by simp only [List.mem_cons, List.not_mem_nil, or_false, forall_eq_or_imp, forall_eq]; exact sameFloat.ok)) Try.func10 (by kernel_rfl) (by kernel_rfl) (n := 29) (ts := [4]) (hd := hd) (dr := dr) (cut := none) (by kernel_rfl) (by kernel_rfl) (by kernel_rfl) run
end eqFloat32N

namespace markFloat32S
def R : List AVal → Heap → Option (Bool × AVal × Heap)
  | [.own 0 0 m 0 1, .int .i64 k], [⟨.typ (.flts .f32 xs), 0⟩] => some (decide (m = xs.length ∧ m ≤ 4611686018427387904 ∧ 0 ≤ k ∧ k ≤ 1000000000), .int .i64 (k + m), [⟨.typ (.flts .f32 (marksF.sv k m)), 0⟩])
  | [.nils, .int .i64 k], [] => some (true, .int .i64 k, [])
  | _, _ => none
def hd : Nat → Head := fun _ => ⟨[0, 1, 5], none⟩
noncomputable def L (f n : Nat) (s : State) := loopAt Try.prog (orc []) hd Dr.std 1 f (bodyOf Try.f11) 0 [true, false, true] (retK Try.prog [4] 1 none) n s
theorem start (xs : List Nat) (m : Nat) (k : Int) (f : Nat) :
  runFn Try.prog (orc []) hd Dr.std none f (bodyOf Try.f11) 20 [4] [.own 0 0 m 0 1, .int .i64 k] [⟨.typ (.flts .f32 xs), 0⟩]
  = (bif true && true then L f f (mkS (20 : Nat) [((0 : Nat), AVal.own (0 : Nat) (0 : Nat) m (0 : Nat) (1 : Nat)), ((1 : Nat), AVal.int IntKind.i64 k), ((5 : Nat), AVal.int IntKind.i64 (0 : Int))] [{ c := BC.typ (Cont.flts FloatKind.f32 xs), ver := (0 : Nat) }]) else none) := by kernel_rfl
theorem round (ys : List Nat) (m i : Nat) (k : Int) (f n : Nat) :
  L f (n + 1) (mkS 20 [(0, .own 0 0 m 0 1), (1, .int .i64 k), (5, .int .i64 i)] [⟨.typ (.flts .f32 ys), 0⟩])
  = (bif decide ((↑i : Int) < (↑m : Int)) then bif true && (decide ((0 : Int) ≤ (↑i : Int)) && decide ((↑i : Int) < (↑m : Int))) then bif true && (true && (decide ((↑i : Int).toNat < ys.length) && true)) then L f n (mkS (20 : Nat) [((0 : Nat), AVal.own (0 : Nat) (0 : Nat) m (0 : Nat) (1 : Nat)), ((1 : Nat), AVal.int IntKind.i64 (IntKind.i64.wrap (k + (1 : Int)))), ((5 : Nat), AVal.int IntKind.i64 (IntKind.i64.wrap ((↑i : Int) + (1 : Int))))] [{ c := BC.typ (Cont.flts FloatKind.f32 (ys.set (↑i : Int).toNat (FloatKind.f32.nearest k))), ver := (0 : Nat) }]) else none else none else some (AVal.int IntKind.i64 k, [{ c := BC.typ (Cont.flts FloatKind.f32 ys), ver := (0 : Nat) }])) := by kernel_rfl
theorem nil (k : Int) :
  runFn Try.prog (orc []) hd Dr.std none 1 (bodyOf Try.f11) 20 [4] [.nils, .int .i64 k] []
  = (some (AVal.int IntKind.i64 k, [])) := by kernel_rfl
theorem loop (m : Nat) (k : Int) (f : Nat) (hb : m ≤ 4611686018427387904) (hk : 0 ≤ k) (hk2 : k ≤ 1000000000) : ∀ (d i n : Nat) (ys : List Nat), i + d = m → d < n → ys.length = m → ys.take i = (marksF.sv k m).take i →
    L f n (mkS 20 [(0, .own 0 0 m 0 1), (1, .int .i64 (k + i)), (5, .int .i64 i)] [⟨.typ (.flts .f32 ys), 0⟩]) = some (.int .i64 (k + m), [⟨.typ (.flts .f32 (marksF.sv k m)), 0⟩]) := by
  intro d
  induction d with
  | zero =>
    intro i n ys hi hn hl ht
    obtain ⟨n, rfl⟩ : ∃ k, n = k + 1 := ⟨n - 1, by omega⟩
    obtain rfl : i = m := by omega
    rw [round]
    have : ys = marksF.sv k i := by
      rw [List.take_of_length_le (by omega), List.take_of_length_le (by rw [marksF_length]; omega)] at ht; exact ht
    simp [this]
  | succ d ih =>
    intro i n ys hi hn hl ht
    obtain ⟨n, rfl⟩ : ∃ k, n = k + 1 := ⟨n - 1, by omega⟩
    have h1 : i < m := by omega
    have h4 : (0 : Int) ≤ (i : Int) := Int.natCast_nonneg _
    have h5 : (i : Int) < (m : Int) := by omega
    have h3 : i < ys.length := by omega
    rw [round]
    have e1 : IntKind.i64.wrap (k + (i : Int) + 1) = k + ((i + 1 : Nat) : Int) := by rw [IntWalk.i64_in _ (by omega)]; omega
    simp only [h4, h5, h3, decide_true, Bool.and_self, Bool.and_true, Bool.true_and, cond_true, Int.toNat_natCast, wrap_nat i (by omega), e1]
    refine ih (i + 1) n _ (by omega) (by omega) (by simpa using hl) ?_
    have hm : i < (marksF.sv k m).length := by rw [marksF_length]; exact h1
    rw [List.take_add_one, List.take_add_one, List.take_set_of_le (Nat.le_refl _), ht, List.getElem?_eq_getElem hm, marksF_get]
    simp [h3]
theorem run : ∀ args H v new, R args H = some (true, v, new) → ∃ fuel, runFn Try.prog (orc []) hd Dr.std none fuel (bodyOf Try.f11) 20 [4] args H = some (v, new) := by
  intro args H v new h
  unfold R at h
  split at h
  · rename_i m k xs
    simp only [Option.some.injEq, Prod.mk.injEq, decide_eq_true_eq] at h
    obtain ⟨⟨h1, h2, h3, h4⟩, rfl, rfl⟩ := h
    refine ⟨m + 1, ?_⟩
    rw [start]
    have := loop m k (m + 1) h2 h3 h4 m 0 (m + 1) xs (by omega) (by omega) h1.symm (by simp)
    simpa using this
  · simp only [Option.some.injEq, Prod.mk.injEq] at h
    obtain ⟨_, rfl, rfl⟩ := h
    exact ⟨1, nil _⟩
  · cases h
theorem ok : EntWOk Try.prog ⟨11, R⟩ :=
  entw_ok mixed (A := (orc [])) (orc_ok (by simp)) Try.func11 (by kernel_rfl) (by kernel_rfl) (n := 20) (ts := [4]) (hd := hd) (dr := Dr.std) (cut := none) (by kernel_rfl) (by kernel_rfl) (by kernel_rfl) run
end markFloat32S

namespace heldFloat32S
def R : List AVal → Option (Bool × AVal × List Blk)
  | [.ro (.flts .f32 xs) m 1, .int .i64 k] => some (decide (m ≤ xs.length ∧ m ≤ 4611686018427387904 ∧ 0 ≤ k ∧ k ≤ 1000000000 ∧ xs.take m = marksF.sv k m), .int .i64 (k + m), [])
  | [.nils, .int .i64 k] => some (true, .int .i64 k, [])
  | _ => none
def hd : Nat → Head := fun _ => ⟨[0, 1, 4, 5], none⟩
noncomputable def L (f n : Nat) (s : State) := loopAt Try.prog (orc []) hd Dr.std 0 f (bodyOf Try.f12) 0 [true, false, true] (retK Try.prog [4] 0 none) n s
theorem start (xs : List Nat) (m : Nat) (k : Int) (f : Nat) :
  runFn Try.prog (orc []) hd Dr.std none f (bodyOf Try.f12) 22 [4] [.ro (.flts .f32 xs) m 1, .int .i64 k] []
  = (L f f (mkS (22 : Nat) [((0 : Nat), AVal.ro (Cont.flts FloatKind.f32 xs) m (1 : Nat)), ((1 : Nat), AVal.int IntKind.i64 k), ((4 : Nat), AVal.int IntKind.i64 (0 : Int)), ((5 : Nat), AVal.int IntKind.i64 (0 : Int))] [])) := by kernel_rfl
theorem round (xs : List Nat) (m i : Nat) (k : Int) (f n : Nat) :
  L f (n + 1) (mkS 22 [(0, .ro (.flts .f32 xs) m 1), (1, .int .i64 k), (4, .int .i64 0), (5, .int .i64 i)] [])
  = (bif decide ((↑i : Int) < (↑m : Int)) then bif true && (decide ((0 : Int) ≤ (↑i : Int)) && decide ((↑i : Int) < (↑m : Int))) then bif decide ((↑i : Int).toNat < xs.length) then bif FloatKind.f32.format.order (gn xs (↑i : Int).toNat) (FloatKind.f32.nearest k) != some Ordering.eq then some (AVal.int IntKind.i64 (-1 : Int), []) else L f n (mkS (22 : Nat) [((0 : Nat), AVal.ro (Cont.flts FloatKind.f32 xs) m (1 : Nat)), ((1 : Nat), AVal.int IntKind.i64 (IntKind.i64.wrap (k + (1 : Int)))), ((4 : Nat), AVal.int IntKind.i64 (0 : Int)), ((5 : Nat), AVal.int IntKind.i64 (IntKind.i64.wrap ((↑i : Int) + (1 : Int))))] []) else none else none else some (AVal.int IntKind.i64 k, [])) := by kernel_rfl
theorem nil (k : Int) :
  runFn Try.prog (orc []) hd Dr.std none 1 (bodyOf Try.f12) 22 [4] [.nils, .int .i64 k] []
  = (some (AVal.int IntKind.i64 k, [])) := by kernel_rfl
theorem loop (xs : List Nat) (m : Nat) (k : Int) (f : Nat) (hx : m ≤ xs.length) (he : xs.take m = marksF.sv k m) (hb : m ≤ 4611686018427387904) (hk : 0 ≤ k) (hk2 : k ≤ 1000000000) : ∀ (d i n : Nat) , i + d = m → d < n →
    L f n (mkS 22 [(0, .ro (.flts .f32 xs) m 1), (1, .int .i64 (k + i)), (4, .int .i64 0), (5, .int .i64 i)] []) = some (.int .i64 (k + m), []) := by
  intro d
  induction d with
  | zero =>
    intro i n  hi hn 
    obtain ⟨n, rfl⟩ : ∃ k, n = k + 1 := ⟨n - 1, by omega⟩
    obtain rfl : i = m := by omega
    rw [round]
    simp
  | succ d ih =>
    intro i n  hi hn 
    obtain ⟨n, rfl⟩ : ∃ k, n = k + 1 := ⟨n - 1, by omega⟩
    have h1 : i < m := by omega
    have h4 : (0 : Int) ≤ (i : Int) := Int.natCast_nonneg _
    have h5 : (i : Int) < (m : Int) := by omega
    have h2 : i < xs.length := by omega
    rw [round]
    have e : xs[i] = FloatKind.f32.nearest (k + (i : Int)) := by
      have hm : i < (marksF.sv k m).length := by rw [marksF_length]; exact h1
      have := congrArg (fun l => l[i]?) he
      simp only [List.getElem?_take, h1, if_true, List.getElem?_eq_getElem h2, List.getElem?_eq_getElem hm, marksF_get, Option.some.injEq] at this
      exact this
    have e1 : IntKind.i64.wrap (k + (i : Int) + 1) = k + ((i + 1 : Nat) : Int) := by rw [IntWalk.i64_in _ (by omega)]; omega
    simp only [h4, h5, h2, gn_eq h2, e, e1, nearest_self, bne_self_eq_false, decide_true, Bool.and_self, Bool.or_self, Bool.and_true, Bool.true_and, Bool.not_true, cond_true, cond_false, Int.toNat_natCast, wrap_nat i (by omega)]
    exact ih (i + 1) n (by omega) (by omega)
theorem run : ∀ args v new, R args = some (true, v, new) → ∃ fuel, runFn Try.prog (orc []) hd Dr.std none fuel (bodyOf Try.f12) 22 [4] args [] = some (v, new) := by
  intro args v new h
  unfold R at h
  split at h
  · rename_i xs m k
    simp only [Option.some.injEq, Prod.mk.injEq, decide_eq_true_eq] at h
    obtain ⟨⟨h1, h2, h3, h4, h5⟩, rfl, rfl⟩ := h
    refine ⟨m + 1, ?_⟩
    rw [start]
    have := loop xs m k (m + 1) h1 h5 h2 h3 h4 m 0 (m + 1) (by omega) (by omega)
    simpa using this
  · simp only [Option.some.injEq, Prod.mk.injEq] at h
    obtain ⟨_, rfl, rfl⟩ := h
    exact ⟨1, nil _⟩
  · cases h
theorem ok : EntOk Try.prog ⟨12, R⟩ :=
  ent_okA mixed (A := (orc [])) (orc_ok (by simp)) Try.func12 (by kernel_rfl) (by kernel_rfl) (n := 22) (ts := [4]) (hd := hd) (dr := Dr.std) (cut := none) (by kernel_rfl) (by kernel_rfl) (by kernel_rfl) run
end heldFloat32S

end Go.Proofs.Ytdnnpdmeklpcoaa.Ab
