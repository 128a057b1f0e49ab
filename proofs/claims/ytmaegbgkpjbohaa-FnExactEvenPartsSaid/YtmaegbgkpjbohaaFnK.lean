/-
  Functions: even parts.
-/
import Derived.Test.YtmaegbgkpjbohaaFnJ
import Derived.Test.YtmaegbgkpjbohaaFnC
namespace Go.Proofs.Ytmaegbgkpjbohaa.Ab
open Go
set_option linter.unusedVariables false
set_option linter.unusedSimpArgs false
set_option maxRecDepth 100000

namespace sEvenParts
def el (a e c : Int) : Nat := bif decide (0 < a) then fdiv .f32 (FloatKind.f32.nearest (IntKind.i64.wrap (e * c))) (FloatKind.f32.nearest a) else 0
def sv (xs : List Int) (e : Int) : List Nat := xs.map fun c => el (sumOf.sp xs) e c
theorem sv_length (xs : List Int) (e : Int) : (sv xs e).length = xs.length := by simp [sv]
theorem sv_get (xs : List Int) (e : Int) (i : Nat) (h : i < (sv xs e).length) : (sv xs e)[i] = el (sumOf.sp xs) e (xs[i]'(by rw [sv_length] at h; exact h)) := by simp [sv]
def Rt : List AVal → Option (Bool × AVal × List Blk)
  | [.ro (.ints .i64 xs) m 1, .int .i64 e] => some (decide (m ≤ xs.length ∧ m ≤ 4611686018427387904) && l07Claims.sp (xs.take m) e, .tup [.own 0 0 (sv (xs.take m) e).length 0 1, .bool true], [⟨.typ (.flts .f32 (sv (xs.take m) e)), 0⟩])
  | _ => none
def Rf : List AVal → Option (Bool × AVal × List Blk)
  | [.ro (.ints .i64 xs) m 1, .int .i64 e] => some (decide (m ≤ xs.length ∧ m ≤ 4611686018427387904) && !l07Claims.sp (xs.take m) e, .tup [.nils, .bool false], [])
  | _ => none
def hd : Nat → Head := fun _ => ⟨[0, 1, 6, 7, 18, 19], some 1⟩
noncomputable def L (f n : Nat) (s : State) := loopAt Try.prog (orc [⟨53, l07Claims.R⟩, ⟨61, l07Sum.R⟩]) hd Dr.std 0 f (bodyOf Try.f47) 0 [true, true, true, true, false, true] (retK Try.prog [4, 5] 0 (some 1)) n s
theorem start (xs : List Int) (m : Nat) (e : Int) (f : Nat) :
  runFn Try.prog (orc [⟨53, l07Claims.R⟩, ⟨61, l07Sum.R⟩]) hd Dr.std (some 1) f (bodyOf Try.f47) 40 [4, 5] [.ro (.ints .i64 xs) m 1, .int .i64 e] []
  = (bif decide (m ≤ xs.length ∧ m ≤ (4611686018427387904 : Nat)) && (true && (true && true) || true && true) then bif !l07Claims.sp (List.take m xs) e then some (AVal.tup [AVal.nils, AVal.bool false], []) else bif decide (m ≤ xs.length ∧ m ≤ (4611686018427387904 : Nat)) && (true && true || true && true) then L f f (mkS (40 : Nat) [((0 : Nat), AVal.ro (Cont.ints IntKind.i64 xs) m (1 : Nat)), ((1 : Nat), AVal.int IntKind.i64 e), ((6 : Nat), AVal.int IntKind.i64 (sumOf.sp (List.take m xs))), ((7 : Nat), AVal.own (0 : Nat) (0 : Nat) (0 : Nat) (0 : Nat) (1 : Nat)), ((18 : Nat), AVal.int IntKind.i64 (↑m : Int)), ((19 : Nat), AVal.int IntKind.i64 (0 : Int))] [{ c := BC.typ (Cont.flts FloatKind.f32 (List.replicate (0 : Nat) (0 : Nat))), ver := (0 : Nat) }]) else none else none) := by kernel_rfl
theorem round (xs : List Int) (ys : List Nat) (m i : Nat) (e al : Int) (f n : Nat) :
  L f (n + 1) (mkS 40 [(0, .ro (.ints .i64 xs) m 1), (1, .int .i64 e), (6, .int .i64 al), (7, .own 0 0 i 0 1), (18, .int .i64 m), (19, .int .i64 i)] [⟨.typ (.flts .f32 ys), 0⟩])
  = (bif decide ((↑i : Int) < (↑m : Int)) then bif decide ((0 : Int) < al) then bif true && (decide ((0 : Int) ≤ (↑i : Int)) && decide ((↑i : Int) < (↑m : Int))) then bif decide ((↑i : Int).toNat < xs.length) then bif (1 : Nat) == (1 : Nat) && (1 : Nat) == (1 : Nat) && (true && (true && true) && (true && true && (decide (i + (List.take (1 : Nat) (List.drop (0 : Nat) ((List.replicate (1 : Nat) (0 : Nat)).set (0 : Nat) (fdiv FloatKind.f32 (FloatKind.f32.nearest (IntKind.i64.wrap (e * gz xs (↑i : Int).toNat))) (FloatKind.f32.nearest al))))).length ≤ (4611686018427387904 : Nat)) && decide ((i + (List.take (1 : Nat) (List.drop (0 : Nat) ((List.replicate (1 : Nat) (0 : Nat)).set (0 : Nat) (fdiv FloatKind.f32 (FloatKind.f32.nearest (IntKind.i64.wrap (e * gz xs (↑i : Int).toNat))) (FloatKind.f32.nearest al))))).length) * (4 : Nat) ≤ (140737488355328 : Nat))))) then L f n (mkS (40 : Nat) [((0 : Nat), AVal.ro (Cont.ints IntKind.i64 xs) m (1 : Nat)), ((1 : Nat), AVal.int IntKind.i64 e), ((6 : Nat), AVal.int IntKind.i64 al), ((7 : Nat), AVal.own (0 : Nat) (0 : Nat) (i + (List.take (1 : Nat) (List.drop (0 : Nat) ((List.replicate (1 : Nat) (0 : Nat)).set (0 : Nat) (fdiv FloatKind.f32 (FloatKind.f32.nearest (IntKind.i64.wrap (e * gz xs (↑i : Int).toNat))) (FloatKind.f32.nearest al))))).length) (0 : Nat) (1 : Nat)), ((18 : Nat), AVal.int IntKind.i64 (↑m : Int)), ((19 : Nat), AVal.int IntKind.i64 (IntKind.i64.wrap ((↑i : Int) + (1 : Int))))] [{ c := BC.typ (Cont.flts FloatKind.f32 (List.take i ys ++ List.take (1 : Nat) (List.drop (0 : Nat) ((List.replicate (1 : Nat) (0 : Nat)).set (0 : Nat) (fdiv FloatKind.f32 (FloatKind.f32.nearest (IntKind.i64.wrap (e * gz xs (↑i : Int).toNat))) (FloatKind.f32.nearest al)))))), ver := (0 : Nat) }]) else none else none else none else bif (1 : Nat) == (1 : Nat) && (1 : Nat) == (1 : Nat) && (true && (true && true) && (true && true && (decide (i + (1 : Nat) ≤ (4611686018427387904 : Nat)) && decide ((i + (1 : Nat)) * (4 : Nat) ≤ (140737488355328 : Nat))))) then L f n (mkS (40 : Nat) [((0 : Nat), AVal.ro (Cont.ints IntKind.i64 xs) m (1 : Nat)), ((1 : Nat), AVal.int IntKind.i64 e), ((6 : Nat), AVal.int IntKind.i64 al), ((7 : Nat), AVal.own (0 : Nat) (0 : Nat) (i + (1 : Nat)) (0 : Nat) (1 : Nat)), ((18 : Nat), AVal.int IntKind.i64 (↑m : Int)), ((19 : Nat), AVal.int IntKind.i64 (IntKind.i64.wrap ((↑i : Int) + (1 : Int))))] [{ c := BC.typ (Cont.flts FloatKind.f32 (List.take i ys ++ List.take (1 : Nat) (List.drop (0 : Nat) ((List.replicate (1 : Nat) (0 : Nat)).set (0 : Nat) (0 : Nat))))), ver := (0 : Nat) }]) else none else some (AVal.tup [AVal.own (0 : Nat) (0 : Nat) i (0 : Nat) (1 : Nat), AVal.bool true], [{ c := BC.typ (Cont.flts FloatKind.f32 ys), ver := (0 : Nat) }])) := by kernel_rfl
theorem loop (xs : List Int) (m : Nat) (e : Int) (f : Nat) (hx : m ≤ xs.length) (hb : m ≤ 1048576) : ∀ (d i n : Nat) (ys : List Nat), i + d = m → d < n → ys.length = i → ys = (sv (xs.take m) e).take i →
    L f n (mkS 40 [(0, .ro (.ints .i64 xs) m 1), (1, .int .i64 e), (6, .int .i64 (sumOf.sp (xs.take m))), (7, .own 0 0 i 0 1), (18, .int .i64 m), (19, .int .i64 i)] [⟨.typ (.flts .f32 ys), 0⟩]) = some (.tup [.own 0 0 m 0 1, .bool true], [⟨.typ (.flts .f32 (sv (xs.take m) e)), 0⟩]) := by
  intro d
  induction d with
  | zero =>
    intro i n ys hi hn hl ht
    obtain ⟨n, rfl⟩ : ∃ k, n = k + 1 := ⟨n - 1, by omega⟩
    obtain rfl : i = m := by omega
    rw [round]
    have hlen : (xs.take i).length = i := by simp; omega
    have : ys = sv (xs.take i) e := by rw [ht, List.take_of_length_le (by rw [sv_length, hlen]; omega)]
    subst this
    simp [hl]
  | succ d ih =>
    intro i n ys hi hn hl ht
    obtain ⟨n, rfl⟩ : ∃ k, n = k + 1 := ⟨n - 1, by omega⟩
    have h1 : i < m := by omega
    have h4 : (0 : Int) ≤ (i : Int) := Int.natCast_nonneg _
    have h5 : (i : Int) < (m : Int) := by omega
    have h2 : i < xs.length := by omega
    have hb' : m ≤ 4611686018427387904 := by omega
    have e0 : ((i : Int) + 1) ≤ 4611686018427387904 := by omega
    have e0' : i + 1 ≤ 4611686018427387904 := by omega
    have e1 : (i + 1) * 4 ≤ 140737488355328 := by omega
    have hy : i ≤ ys.length := by omega
    rw [round]
    have hv : i < (sv (xs.take m) e).length := by rw [sv_length, List.length_take]; omega
    have hget : (sv (xs.take m) e)[i] = el (sumOf.sp (xs.take m)) e xs[i] := by rw [sv_get]; simp
    have hnext : ys.take i ++ [el (sumOf.sp (xs.take m)) e xs[i]] = (sv (xs.take m) e).take (i + 1) := by
      rw [List.take_add_one, ← ht, List.getElem?_eq_getElem hv, hget, List.take_of_length_le (by omega)]; rfl
    have hgo := ih (i + 1) n (ys.take i ++ [el (sumOf.sp (xs.take m)) e xs[i]]) (by omega) (by omega) (by simp; omega) hnext
    simp only [h4, h5, h2, hy, decide_true, Bool.and_self, Bool.and_true, Bool.true_and, cond_true, Int.toNat_natCast, wrap_nat i (by omega), gz_eq h2, hx, hb', and_self, one_set, List.length_singleton, Nat.reduceBEq, Bool.or_self, e0, e0', e1]
    by_cases hs : 0 < sumOf.sp (xs.take m)
    · simp only [el, hs, decide_true, cond_true] at hgo ⊢
      exact hgo
    · simp only [el, hs, decide_false, cond_false] at hgo ⊢
      exact hgo
theorem runt : ∀ args v new, Rt args = some (true, v, new) → ∃ fuel, runFn Try.prog (orc [⟨53, l07Claims.R⟩, ⟨61, l07Sum.R⟩]) hd Dr.std (some 1) fuel (bodyOf Try.f47) 40 [4, 5] args [] = some (v, new) := by
  intro args v new h
  unfold Rt at h
  split at h
  · rename_i xs m e
    simp only [Option.some.injEq, Prod.mk.injEq, Bool.and_eq_true, decide_eq_true_eq] at h
    obtain ⟨⟨⟨h1, h2⟩, hc⟩, rfl, rfl⟩ := h
    have hlen : (xs.take m).length = m := by simp; omega
    have hm : m ≤ 1048576 := by
      have := hc
      simp only [l07Claims.sp, Bool.and_eq_true, decide_eq_true_eq, hlen] at this
      omega
    refine ⟨m + 1, ?_⟩
    rw [start]
    have hl := loop xs m e (m + 1) h1 hm m 0 (m + 1) [] (by omega) (by omega) rfl (by simp)
    simp only [h1, h2, hc, and_self, decide_true, Bool.and_self, Bool.true_and, cond_true, cond_false, Bool.not_true]
    rw [sv_length, hlen]
    exact hl
  · cases h
theorem okt : EntOk Try.prog ⟨47, Rt⟩ :=
  ent_okA mixed (A := (orc [⟨53, l07Claims.R⟩, ⟨61, l07Sum.R⟩])) (orc_ok (by simp only [List.mem_cons, List.not_mem_nil, or_false, forall_eq_or_imp, forall_eq]; exact ⟨l07Claims.ok, l07Sum.ok⟩)) Try.func47 (by kernel_rfl) (by kernel_rfl) (n := 40) (ts := [4, 5]) (hd := hd) (dr := Dr.std) (cut := (some 1)) (by kernel_rfl) (by kernel_rfl) (by kernel_rfl) runt
theorem runf : ∀ args v new, Rf args = some (true, v, new) → ∃ fuel, runFn Try.prog (orc [⟨53, l07Claims.R⟩, ⟨61, l07Sum.R⟩]) hd Dr.std (some 1) fuel (bodyOf Try.f47) 40 [4, 5] args [] = some (v, new) := by
  intro args v new h
  unfold Rf at h
  split at h
  · rename_i xs m e
    simp only [Option.some.injEq, Prod.mk.injEq, Bool.and_eq_true, decide_eq_true_eq, Bool.not_eq_true'] at h
    obtain ⟨⟨⟨h1, h2⟩, hc⟩, rfl, rfl⟩ := h
    refine ⟨0, ?_⟩
    rw [start]
    simp only [h1, h2, hc, and_self, decide_true, Bool.and_self, Bool.true_and, cond_true, cond_false, Bool.or_self, Bool.not_false]
  · cases h
theorem okf : EntOk Try.prog ⟨47, Rf⟩ :=
  ent_okA mixed (A := (orc [⟨53, l07Claims.R⟩, ⟨61, l07Sum.R⟩])) (orc_ok (by simp only [List.mem_cons, List.not_mem_nil, or_false, forall_eq_or_imp, forall_eq]; exact ⟨l07Claims.ok, l07Sum.ok⟩)) Try.func47 (by kernel_rfl) (by kernel_rfl) (n := 40) (ts := [4, 5]) (hd := hd) (dr := Dr.std) (cut := (some 1)) (by kernel_rfl) (by kernel_rfl) (by kernel_rfl) runf
end sEvenParts

namespace iEvenParts
def Rt : List AVal → Option (Bool × AVal × List Blk)
  | [.ro (.ints .i64 xs) m 1, .int .i64 e] => some (decide (m ≤ xs.length ∧ m ≤ 4611686018427387904) && l07Claims.sp (xs.take m) e, .tup [.own 0 0 (sEvenParts.sv (xs.take m) e).length 0 1, .bool true], [⟨.typ (.flts .f32 (sEvenParts.sv (xs.take m) e)), 0⟩])
  | _ => none
def Rf : List AVal → Option (Bool × AVal × List Blk)
  | [.ro (.ints .i64 xs) m 1, .int .i64 e] => some (decide (m ≤ xs.length ∧ m ≤ 4611686018427387904) && !l07Claims.sp (xs.take m) e, .tup [.nils, .bool false], [])
  | _ => none
def hd : Nat → Head := fun _ => ⟨[1, 6, 7, 21, 22, 23], some 1⟩
noncomputable def L (f n : Nat) (s : State) := loopAt Try.prog (orc [⟨19, iAreClaims.R⟩, ⟨55, sumOf.R⟩]) hd Dr.std 0 f (bodyOf Try.f48) 0 [true, true, true, false, true, true, false, true] (retK Try.prog [4, 5] 0 (some 1)) n s
theorem start (xs : List Int) (m : Nat) (e : Int) (f : Nat) :
  runFn Try.prog (orc [⟨19, iAreClaims.R⟩, ⟨55, sumOf.R⟩]) hd Dr.std (some 1) f (bodyOf Try.f48) 40 [4, 5] [.ro (.ints .i64 xs) m 1, .int .i64 e] []
  = (bif decide (m ≤ xs.length ∧ m ≤ (4611686018427387904 : Nat)) && (true && (true && true) || true && true) then bif !l07Claims.sp (List.take m xs) e then some (AVal.tup [AVal.nils, AVal.bool false], []) else bif (1 : Nat) == (1 : Nat) && ((↑m : Int) == (↑m : Int) && (decide ((0 : Int) ≤ (↑m : Int)) && (decide ((↑m : Int) * (4 : Int) ≤ (140737488355328 : Int)) && decide ((↑m : Int) ≤ (4611686018427387904 : Int))))) then bif decide (m ≤ xs.length ∧ m ≤ (4611686018427387904 : Nat)) && (true && true || true && true) then bif decide ((0 : Int) < sumOf.sp (List.take m xs)) then L f f (mkS (40 : Nat) [((1 : Nat), AVal.int IntKind.i64 e), ((6 : Nat), AVal.own (0 : Nat) (0 : Nat) (↑m : Int).toNat (0 : Nat) (1 : Nat)), ((7 : Nat), AVal.int IntKind.i64 (sumOf.sp (List.take m xs))), ((21 : Nat), AVal.ro (Cont.ints IntKind.i64 xs) m (1 : Nat)), ((22 : Nat), AVal.int IntKind.i64 (↑m : Int)), ((23 : Nat), AVal.int IntKind.i64 (0 : Int))] [{ c := BC.typ (Cont.flts FloatKind.f32 (List.replicate (↑m : Int).toNat (0 : Nat))), ver := (0 : Nat) }]) else some (AVal.tup [AVal.own (0 : Nat) (0 : Nat) (↑m : Int).toNat (0 : Nat) (1 : Nat), AVal.bool true], [{ c := BC.typ (Cont.flts FloatKind.f32 (List.replicate (↑m : Int).toNat (0 : Nat))), ver := (0 : Nat) }]) else none else none else none) := by kernel_rfl
theorem round (xs : List Int) (ys : List Nat) (m i : Nat) (e al : Int) (f n : Nat) :
  L f (n + 1) (mkS 40 [(1, .int .i64 e), (6, .own 0 0 m 0 1), (7, .int .i64 al), (21, .ro (.ints .i64 xs) m 1), (22, .int .i64 m), (23, .int .i64 i)] [⟨.typ (.flts .f32 ys), 0⟩])
  = (bif decide ((↑i : Int) < (↑m : Int)) then bif true && (decide ((0 : Int) ≤ (↑i : Int)) && decide ((↑i : Int) < (↑m : Int))) then bif decide ((↑i : Int).toNat < xs.length) then bif true && (decide ((0 : Int) ≤ (↑i : Int)) && decide ((↑i : Int) < (↑m : Int))) then bif true && (true && (decide ((↑i : Int).toNat < ys.length) && true)) then L f n (mkS (40 : Nat) [((1 : Nat), AVal.int IntKind.i64 e), ((6 : Nat), AVal.own (0 : Nat) (0 : Nat) m (0 : Nat) (1 : Nat)), ((7 : Nat), AVal.int IntKind.i64 al), ((21 : Nat), AVal.ro (Cont.ints IntKind.i64 xs) m (1 : Nat)), ((22 : Nat), AVal.int IntKind.i64 (↑m : Int)), ((23 : Nat), AVal.int IntKind.i64 (IntKind.i64.wrap ((↑i : Int) + (1 : Int))))] [{ c := BC.typ (Cont.flts FloatKind.f32 (ys.set (↑i : Int).toNat (fdiv FloatKind.f32 (FloatKind.f32.nearest (IntKind.i64.wrap (e * gz xs (↑i : Int).toNat))) (FloatKind.f32.nearest al)))), ver := (0 : Nat) }]) else none else none else none else none else some (AVal.tup [AVal.own (0 : Nat) (0 : Nat) m (0 : Nat) (1 : Nat), AVal.bool true], [{ c := BC.typ (Cont.flts FloatKind.f32 ys), ver := (0 : Nat) }])) := by kernel_rfl
theorem loop (xs : List Int) (m : Nat) (e : Int) (f : Nat) (hx : m ≤ xs.length) (hb : m ≤ 1048576) (hs : 0 < sumOf.sp (xs.take m)) : ∀ (d i n : Nat) (ys : List Nat), i + d = m → d < n → ys.length = m → ys.take i = (sEvenParts.sv (xs.take m) e).take i →
    L f n (mkS 40 [(1, .int .i64 e), (6, .own 0 0 m 0 1), (7, .int .i64 (sumOf.sp (xs.take m))), (21, .ro (.ints .i64 xs) m 1), (22, .int .i64 m), (23, .int .i64 i)] [⟨.typ (.flts .f32 ys), 0⟩]) = some (.tup [.own 0 0 m 0 1, .bool true], [⟨.typ (.flts .f32 (sEvenParts.sv (xs.take m) e)), 0⟩]) := by
  intro d
  induction d with
  | zero =>
    intro i n ys hi hn hl ht
    obtain ⟨n, rfl⟩ : ∃ k, n = k + 1 := ⟨n - 1, by omega⟩
    obtain rfl : i = m := by omega
    rw [round]
    have hlen : (xs.take i).length = i := by simp; omega
    have : ys = sEvenParts.sv (xs.take i) e := by
      rw [List.take_of_length_le (by omega), List.take_of_length_le (by rw [sEvenParts.sv_length, hlen]; omega)] at ht; exact ht
    subst this
    simp
  | succ d ih =>
    intro i n ys hi hn hl ht
    obtain ⟨n, rfl⟩ : ∃ k, n = k + 1 := ⟨n - 1, by omega⟩
    have h1 : i < m := by omega
    have h4 : (0 : Int) ≤ (i : Int) := Int.natCast_nonneg _
    have h5 : (i : Int) < (m : Int) := by omega
    have h2 : i < xs.length := by omega
    have h3 : i < ys.length := by omega
    rw [round]
    have hv : i < (sEvenParts.sv (xs.take m) e).length := by rw [sEvenParts.sv_length, List.length_take]; omega
    have hget : (sEvenParts.sv (xs.take m) e)[i] = fdiv .f32 (FloatKind.f32.nearest (IntKind.i64.wrap (e * xs[i]))) (FloatKind.f32.nearest (sumOf.sp (xs.take m))) := by
      rw [sEvenParts.sv_get]
      simp [sEvenParts.el, hs]
    simp only [h4, h5, h2, h3, decide_true, Bool.and_self, Bool.and_true, Bool.true_and, cond_true, Int.toNat_natCast, wrap_nat i (by omega), gz_eq h2, Bool.or_self]
    refine ih (i + 1) n _ (by omega) (by omega) (by simpa using hl) ?_
    rw [List.take_add_one, List.take_add_one, List.take_set_of_le (Nat.le_refl _), ht, List.getElem?_eq_getElem hv, hget]
    simp [h3]
theorem runt : ∀ args v new, Rt args = some (true, v, new) → ∃ fuel, runFn Try.prog (orc [⟨19, iAreClaims.R⟩, ⟨55, sumOf.R⟩]) hd Dr.std (some 1) fuel (bodyOf Try.f48) 40 [4, 5] args [] = some (v, new) := by
  intro args v new h
  unfold Rt at h
  split at h
  · rename_i xs m e
    simp only [Option.some.injEq, Prod.mk.injEq, Bool.and_eq_true, decide_eq_true_eq] at h
    obtain ⟨⟨⟨h1, h2⟩, hc⟩, rfl, rfl⟩ := h
    have hlen : (xs.take m).length = m := by simp; omega
    have hm : m ≤ 1048576 := by
      have := hc
      simp only [l07Claims.sp, Bool.and_eq_true, decide_eq_true_eq, hlen] at this
      omega
    refine ⟨m + 1, ?_⟩
    rw [start]
    have c1 : (0 : Int) ≤ (m : Int) := Int.natCast_nonneg _
    have c2 : (m : Int) * 4 ≤ 140737488355328 := by omega
    have c3 : (m : Int) ≤ 4611686018427387904 := by omega
    simp only [h1, h2, hc, c1, c2, c3, Int.toNat_natCast, and_self, decide_true, Bool.and_self, Bool.true_and, Bool.and_true, Bool.or_self, cond_true, cond_false, Bool.not_true, beq_self_eq_true]
    rw [sEvenParts.sv_length, hlen]
    by_cases hs : 0 < sumOf.sp (xs.take m)
    · simp only [hs, decide_true, cond_true]
      exact loop xs m e (m + 1) h1 hm hs m 0 (m + 1) _ (by omega) (by omega) (by simp) (by simp)
    · simp only [hs, decide_false, cond_false]
      have : sEvenParts.sv (xs.take m) e = List.replicate m 0 := by
        apply List.ext_getElem
        · rw [sEvenParts.sv_length, hlen, List.length_replicate]
        · intro i a b
          rw [sEvenParts.sv_get]
          simp [sEvenParts.el, hs]
      rw [this]
  · cases h
theorem okt : EntOk Try.prog ⟨48, Rt⟩ :=
  ent_okA mixed (A := (orc [⟨19, iAreClaims.R⟩, ⟨55, sumOf.R⟩])) (orc_ok (by simp only [List.mem_cons, List.not_mem_nil, or_false, forall_eq_or_imp, forall_eq]; exact ⟨iAreClaims.ok, sumOf.ok⟩)) Try.func48 (by kernel_rfl) (by kernel_rfl) (n := 40) (ts := [4, 5]) (hd := hd) (dr := Dr.std) (cut := (some 1)) (by kernel_rfl) (by kernel_rfl) (by kernel_rfl) runt
theorem runf : ∀ args v new, Rf args = some (true, v, new) → ∃ fuel, runFn Try.prog (orc [⟨19, iAreClaims.R⟩, ⟨55, sumOf.R⟩]) hd Dr.std (some 1) fuel (bodyOf Try.f48) 40 [4, 5] args [] = some (v, new) := by
  intro args v new h
  unfold Rf at h
  split at h
  · rename_i xs m e
    simp only [Option.some.injEq, Prod.mk.injEq, Bool.and_eq_true, decide_eq_true_eq, Bool.not_eq_true'] at h
    obtain ⟨⟨⟨h1, h2⟩, hc⟩, rfl, rfl⟩ := h
    refine ⟨0, ?_⟩
    rw [start]
    simp only [h1, h2, hc, and_self, decide_true, Bool.and_self, Bool.true_and, cond_true, cond_false, Bool.or_self, Bool.not_false]
  · cases h
theorem okf : EntOk Try.prog ⟨48, Rf⟩ :=
  ent_okA mixed (A := (orc [⟨19, iAreClaims.R⟩, ⟨55, sumOf.R⟩])) (orc_ok (by simp only [List.mem_cons, List.not_mem_nil, or_false, forall_eq_or_imp, forall_eq]; exact ⟨iAreClaims.ok, sumOf.ok⟩)) Try.func48 (by kernel_rfl) (by kernel_rfl) (n := 40) (ts := [4, 5]) (hd := hd) (dr := Dr.std) (cut := (some 1)) (by kernel_rfl) (by kernel_rfl) (by kernel_rfl) runf
end iEvenParts

namespace FnExactEvenPartst
def R : List AVal → Option (Bool × AVal × List Blk)
  | [.ro (.ints .i64 xs) m 1, .int .i64 e] => some (decide ((1048576 : Int) < (m : Int)) || (decide (m ≤ xs.length ∧ m ≤ 1048576) && (l07Claims.sp (xs.take m) e)), .bool true, [])
  | _ => none
theorem go (xs : List Int) (m : Nat) (e : Int) :
  runFn Try.prog (orcW [⟨49, markFloat32S.R⟩, ⟨31, markInt64S.R⟩] [⟨15, toInt64S.R⟩, ⟨47, sEvenParts.Rt⟩, ⟨48, iEvenParts.Rt⟩, ⟨37, eqFloat32N.R⟩, ⟨17, eqInt64N.R⟩, ⟨50, heldFloat32S.R⟩]) hd0 Dr.std (some 0) 0 (bodyOf Try.f13) 98 [4] [.ro (.ints .i64 xs) m 1, .int .i64 e] []
  = (bif decide ((1048576 : Int) < (↑m : Int)) then some (AVal.bool true, []) else bif decide (m ≤ xs.length ∧ m ≤ (1048576 : Nat)) && (true && true || true && (true && true)) then bif decide (m ≤ (List.take m xs).length ∧ m ≤ (4611686018427387904 : Nat)) && l07Claims.sp (List.take m (List.take m xs)) e && (false && (true && true) || true && true && (true && true)) then bif decide (m ≤ xs.length ∧ m ≤ (1048576 : Nat)) && (true && true || true && (true && true)) then bif decide (m ≤ (List.take m xs).length ∧ m ≤ (4611686018427387904 : Nat)) && l07Claims.sp (List.take m (List.take m xs)) e && (false && (true && true) || true && true && (true && true)) then bif decide ((sEvenParts.sv (List.take m (List.take m xs)) e).length ≤ (sEvenParts.sv (List.take m (List.take m xs)) e).length ∧ (sEvenParts.sv (List.take m (List.take m xs)) e).length ≤ (sEvenParts.sv (List.take m (List.take m xs)) e).length ∧ (sEvenParts.sv (List.take m (List.take m xs)) e).length ≤ (4611686018427387904 : Nat) ∧ (sEvenParts.sv (List.take m (List.take m xs)) e).length = (sEvenParts.sv (List.take m (List.take m xs)) e).length ∧ List.take (sEvenParts.sv (List.take m (List.take m xs)) e).length (sEvenParts.sv (List.take m (List.take m xs)) e) = List.take (sEvenParts.sv (List.take m (List.take m xs)) e).length (sEvenParts.sv (List.take m (List.take m xs)) e)) && (false && (false && true) || true && true) then bif decide (m ≤ xs.length ∧ m ≤ (1048576 : Nat)) && (true && true || true && (true && true)) then bif decide (m ≤ (List.take m xs).length ∧ m ≤ (List.take m xs).length ∧ m ≤ (4611686018427387904 : Nat)) && (false && (false && true) || true && true) then bif !decide (List.take m (List.take m xs) = List.take m (List.take m xs)) then some (AVal.bool false, []) else bif decide (m = (List.take m xs).length ∧ m ≤ (4611686018427387904 : Nat) ∧ (0 : Int) ≤ (1 : Int) ∧ (1 : Int) ≤ (1000000000 : Int)) && (true && true && (true && true)) then bif decide ((1 : Int) + (↑m : Int) < (0 : Int)) then some (AVal.bool false, []) else bif decide ((sEvenParts.sv (List.take m (List.take m xs)) e).length ≤ (sEvenParts.sv (List.take m (List.take m xs)) e).length ∧ (sEvenParts.sv (List.take m (List.take m xs)) e).length ≤ (sEvenParts.sv (List.take m (List.take m xs)) e).length ∧ (sEvenParts.sv (List.take m (List.take m xs)) e).length ≤ (4611686018427387904 : Nat) ∧ (sEvenParts.sv (List.take m (List.take m xs)) e).length = (sEvenParts.sv (List.take m (List.take m xs)) e).length ∧ List.take (sEvenParts.sv (List.take m (List.take m xs)) e).length (sEvenParts.sv (List.take m (List.take m xs)) e) = List.take (sEvenParts.sv (List.take m (List.take m xs)) e).length (sEvenParts.sv (List.take m (List.take m xs)) e)) && (false && (false && true) || true && true) then bif decide ((sEvenParts.sv (List.take m (List.take m xs)) e).length = (sEvenParts.sv (List.take m (List.take m xs)) e).length ∧ (sEvenParts.sv (List.take m (List.take m xs)) e).length ≤ (4611686018427387904 : Nat) ∧ (0 : Int) ≤ (1 : Int) ∧ (1 : Int) ≤ (1000000000 : Int)) && (true && true && (true && true)) then bif decide ((sEvenParts.sv (List.take m (List.take m xs)) e).length ≤ (marksF.sv (1 : Int) (sEvenParts.sv (List.take m (List.take m xs)) e).length).length ∧ (sEvenParts.sv (List.take m (List.take m xs)) e).length ≤ (4611686018427387904 : Nat) ∧ (0 : Int) ≤ (1 : Int) ∧ (1 : Int) ≤ (1000000000 : Int) ∧ List.take (sEvenParts.sv (List.take m (List.take m xs)) e).length (marksF.sv (1 : Int) (sEvenParts.sv (List.take m (List.take m xs)) e).length) = marksF.sv (1 : Int) (sEvenParts.sv (List.take m (List.take m xs)) e).length) && (false && true || true && true) then bif decide ((1 : Int) + (↑(sEvenParts.sv (List.take m (List.take m xs)) e).length : Int) < (0 : Int)) then some (AVal.bool false, []) else bif (1 : Int) + (↑(sEvenParts.sv (List.take m (List.take m xs)) e).length : Int) != (1 : Int) + (↑(sEvenParts.sv (List.take m (List.take m xs)) e).length : Int) then some (AVal.bool false, []) else bif decide (m ≤ xs.length ∧ m ≤ (1048576 : Nat)) && (true && true || true && (true && true)) then bif decide (m ≤ (List.take m xs).length ∧ m ≤ (4611686018427387904 : Nat)) && l07Claims.sp (List.take m (List.take m xs)) e && (false && (true && true) || true && true && (true && true)) then bif decide ((sEvenParts.sv (List.take m (List.take m xs)) e).length ≤ (sEvenParts.sv (List.take m (List.take m xs)) e).length ∧ (sEvenParts.sv (List.take m (List.take m xs)) e).length ≤ (sEvenParts.sv (List.take m (List.take m xs)) e).length ∧ (sEvenParts.sv (List.take m (List.take m xs)) e).length ≤ (4611686018427387904 : Nat) ∧ (sEvenParts.sv (List.take m (List.take m xs)) e).length = (sEvenParts.sv (List.take m (List.take m xs)) e).length ∧ List.take (sEvenParts.sv (List.take m (List.take m xs)) e).length (sEvenParts.sv (List.take m (List.take m xs)) e) = List.take (sEvenParts.sv (List.take m (List.take m xs)) e).length (sEvenParts.sv (List.take m (List.take m xs)) e)) && (false && (false && true) || true && true) then bif decide ((sEvenParts.sv (List.take m (List.take m xs)) e).length ≤ (marksF.sv (1 : Int) (sEvenParts.sv (List.take m (List.take m xs)) e).length).length ∧ (sEvenParts.sv (List.take m (List.take m xs)) e).length ≤ (4611686018427387904 : Nat) ∧ (0 : Int) ≤ (1 : Int) ∧ (1 : Int) ≤ (1000000000 : Int) ∧ List.take (sEvenParts.sv (List.take m (List.take m xs)) e).length (marksF.sv (1 : Int) (sEvenParts.sv (List.take m (List.take m xs)) e).length) = marksF.sv (1 : Int) (sEvenParts.sv (List.take m (List.take m xs)) e).length) && (false && true || true && true) then bif decide ((1 : Int) + (↑(sEvenParts.sv (List.take m (List.take m xs)) e).length : Int) < (0 : Int)) then some (AVal.bool false, []) else bif (1 : Int) + (↑(sEvenParts.sv (List.take m (List.take m xs)) e).length : Int) != (1 : Int) + (↑(sEvenParts.sv (List.take m (List.take m xs)) e).length : Int) then some (AVal.bool false, []) else some (AVal.bool true, []) else none else none else none else none else none else none else none else none else none else none else none else none else none else none else none) := by kernel_rfl
theorem run : ∀ args v new, R args = some (true, v, new) → ∃ fuel, runFn Try.prog (orcW [⟨49, markFloat32S.R⟩, ⟨31, markInt64S.R⟩] [⟨15, toInt64S.R⟩, ⟨47, sEvenParts.Rt⟩, ⟨48, iEvenParts.Rt⟩, ⟨37, eqFloat32N.R⟩, ⟨17, eqInt64N.R⟩, ⟨50, heldFloat32S.R⟩]) hd0 Dr.std (some 0) fuel (bodyOf Try.f13) 98 [4] args [] = some (v, new) := by
  intro args v new h
  unfold R at h
  split at h
  · rename_i xs m e
    simp only [Option.some.injEq, Prod.mk.injEq, Bool.or_eq_true, Bool.and_eq_true, decide_eq_true_eq, Bool.not_eq_true'] at h
    obtain ⟨h, rfl, rfl⟩ := h
    refine ⟨0, ?_⟩
    rw [go]
    by_cases b0 : (1048576 : Int) < (m : Int)
    · simp only [b0, decide_true, decide_false, cond_true, cond_false]
    rcases h with h | h
    · exact absurd h (by omega)
    obtain ⟨⟨hl0, hl1⟩, hc⟩ := h
    have e0 : (xs.take m).length = m := by simp; omega
    have g0 : m ≤ 4611686018427387904 := by omega
    have o0 : (sEvenParts.sv (xs.take m) e).length ≤ 4611686018427387904 := by rw [sEvenParts.sv_length, e0]; omega
    simp only [b0, e0, g0, hl0, hl1, hc, o0, List.take_take, Nat.min_self, Nat.le_refl, List.take_length, marks_length, take_marks, one_neg, i0_1, i1_b, true_and, and_true, and_self, decide_true, decide_false, Bool.and_self, Bool.or_self, Bool.and_true, Bool.true_and, Bool.and_false, Bool.false_and, Bool.or_true, Bool.true_or, Bool.or_false, Bool.false_or, Bool.not_true, Bool.not_false, cond_true, cond_false, bne_self_eq_false, beq_self_eq_true, marksF_length, take_marksF]
  · cases h
theorem ok : EntOk Try.prog ⟨13, R⟩ :=
  ent_okA mixed (A := (orcW [⟨49, markFloat32S.R⟩, ⟨31, markInt64S.R⟩] [⟨15, toInt64S.R⟩, ⟨47, sEvenParts.Rt⟩, ⟨48, iEvenParts.Rt⟩, ⟨37, eqFloat32N.R⟩, ⟨17, eqInt64N.R⟩, ⟨50, heldFloat32S.R⟩])) (orcW_ok (by simp only [List.mem_cons, List.not_mem_nil, or_false, forall_eq_or_imp, forall_eq]; exact ⟨markFloat32S.ok, markInt64S.ok⟩) (by simp only [List.mem_cons, List.not_mem_nil, or_false, forall_eq_or_imp, forall_eq]; exact ⟨toInt64S.ok, sEvenParts.okt, iEvenParts.okt, eqFloat32N.ok, eqInt64N.ok, heldFloat32S.ok⟩)) Try.func13 (by kernel_rfl) (by kernel_rfl) (n := 98) (ts := [4]) (hd := hd0) (dr := Dr.std) (cut := (some 0)) (by kernel_rfl) (by kernel_rfl) (by kernel_rfl) run
end FnExactEvenPartst

namespace FnExactEvenPartsf
def R : List AVal → Option (Bool × AVal × List Blk)
  | [.ro (.ints .i64 xs) m 1, .int .i64 e] => some (decide ((1048576 : Int) < (m : Int)) || (decide (m ≤ xs.length ∧ m ≤ 1048576) && !(l07Claims.sp (xs.take m) e)), .bool true, [])
  | _ => none
theorem go (xs : List Int) (m : Nat) (e : Int) :
  runFn Try.prog (orcW [⟨49, markFloat32S.R⟩, ⟨31, markInt64S.R⟩] [⟨15, toInt64S.R⟩, ⟨47, sEvenParts.Rf⟩, ⟨48, iEvenParts.Rf⟩, ⟨37, eqFloat32N.R⟩, ⟨17, eqInt64N.R⟩, ⟨50, heldFloat32S.R⟩]) hd0 Dr.std (some 0) 0 (bodyOf Try.f13) 98 [4] [.ro (.ints .i64 xs) m 1, .int .i64 e] []
  = (bif decide ((1048576 : Int) < (↑m : Int)) then some (AVal.bool true, []) else bif decide (m ≤ xs.length ∧ m ≤ (1048576 : Nat)) && (true && true || true && (true && true)) then bif decide (m ≤ (List.take m xs).length ∧ m ≤ (4611686018427387904 : Nat)) && !l07Claims.sp (List.take m (List.take m xs)) e && (false && (true && true) || true && true) then bif decide (m ≤ xs.length ∧ m ≤ (1048576 : Nat)) && (true && true || true && (true && true)) then bif decide (m ≤ (List.take m xs).length ∧ m ≤ (4611686018427387904 : Nat)) && !l07Claims.sp (List.take m (List.take m xs)) e && (false && (true && true) || true && true) then bif decide (m ≤ xs.length ∧ m ≤ (1048576 : Nat)) && (true && true || true && (true && true)) then bif decide (m ≤ (List.take m xs).length ∧ m ≤ (List.take m xs).length ∧ m ≤ (4611686018427387904 : Nat)) && (false && (false && true) || true && true) then bif !decide (List.take m (List.take m xs) = List.take m (List.take m xs)) then some (AVal.bool false, []) else bif decide (m = (List.take m xs).length ∧ m ≤ (4611686018427387904 : Nat) ∧ (0 : Int) ≤ (1 : Int) ∧ (1 : Int) ≤ (1000000000 : Int)) && (true && (true && true)) then bif decide ((1 : Int) + (↑m : Int) < (0 : Int)) then some (AVal.bool false, []) else bif true && (true && true) then bif decide (m ≤ xs.length ∧ m ≤ (1048576 : Nat)) && (true && true || true && (true && true)) then bif decide (m ≤ (List.take m xs).length ∧ m ≤ (4611686018427387904 : Nat)) && !l07Claims.sp (List.take m (List.take m xs)) e && (false && (true && true) || true && true) then some (AVal.bool true, []) else none else none else none else none else none else none else none else none else none else none) := by kernel_rfl
theorem run : ∀ args v new, R args = some (true, v, new) → ∃ fuel, runFn Try.prog (orcW [⟨49, markFloat32S.R⟩, ⟨31, markInt64S.R⟩] [⟨15, toInt64S.R⟩, ⟨47, sEvenParts.Rf⟩, ⟨48, iEvenParts.Rf⟩, ⟨37, eqFloat32N.R⟩, ⟨17, eqInt64N.R⟩, ⟨50, heldFloat32S.R⟩]) hd0 Dr.std (some 0) fuel (bodyOf Try.f13) 98 [4] args [] = some (v, new) := by
  intro args v new h
  unfold R at h
  split at h
  · rename_i xs m e
    simp only [Option.some.injEq, Prod.mk.injEq, Bool.or_eq_true, Bool.and_eq_true, decide_eq_true_eq, Bool.not_eq_true'] at h
    obtain ⟨h, rfl, rfl⟩ := h
    refine ⟨0, ?_⟩
    rw [go]
    by_cases b0 : (1048576 : Int) < (m : Int)
    · simp only [b0, decide_true, decide_false, cond_true, cond_false]
    rcases h with h | h
    · exact absurd h (by omega)
    obtain ⟨⟨hl0, hl1⟩, hc⟩ := h
    have e0 : (xs.take m).length = m := by simp; omega
    have g0 : m ≤ 4611686018427387904 := by omega
    simp only [b0, e0, g0, hl0, hl1, hc, List.take_take, Nat.min_self, Nat.le_refl, List.take_length, marks_length, take_marks, one_neg, i0_1, i1_b, true_and, and_true, and_self, decide_true, decide_false, Bool.and_self, Bool.or_self, Bool.and_true, Bool.true_and, Bool.and_false, Bool.false_and, Bool.or_true, Bool.true_or, Bool.or_false, Bool.false_or, Bool.not_true, Bool.not_false, cond_true, cond_false, bne_self_eq_false, beq_self_eq_true, marksF_length, take_marksF]
  · cases h
theorem ok : EntOk Try.prog ⟨13, R⟩ :=
  ent_okA mixed (A := (orcW [⟨49, markFloat32S.R⟩, ⟨31, markInt64S.R⟩] [⟨15, toInt64S.R⟩, ⟨47, sEvenParts.Rf⟩, ⟨48, iEvenParts.Rf⟩, ⟨37, eqFloat32N.R⟩, ⟨17, eqInt64N.R⟩, ⟨50, heldFloat32S.R⟩])) (orcW_ok (by simp only [List.mem_cons, List.not_mem_nil, or_false, forall_eq_or_imp, forall_eq]; exact ⟨markFloat32S.ok, markInt64S.ok⟩) (by simp only [List.mem_cons, List.not_mem_nil, or_false, forall_eq_or_imp, forall_eq]; exact ⟨toInt64S.ok, sEvenParts.okf, iEvenParts.okf, eqFloat32N.ok, eqInt64N.ok, heldFloat32S.ok⟩)) Try.func13 (by kernel_rfl) (by kernel_rfl) (n := 98) (ts := [4]) (hd := hd0) (dr := Dr.std) (cut := (some 0)) (by kernel_rfl) (by kernel_rfl) (by kernel_rfl) run
end FnExactEvenPartsf

namespace FnExactEvenParts
def R : List AVal → Option (Bool × AVal × List Blk)
  | [.ro (.ints .i64 xs) m 1, .int .i64 e] => some (decide (m ≤ xs.length), .bool true, [])
  | _ => none
theorem ok : EntOk Try.prog ⟨13, R⟩ := by
  refine EntOk.cases FnExactEvenPartst.ok FnExactEvenPartsf.ok fun args v new h => ?_
  unfold R at h
  split at h
  · rename_i xs m e
    simp only [Option.some.injEq, Prod.mk.injEq, decide_eq_true_eq] at h
    obtain ⟨h, rfl, rfl⟩ := h
    simp only [FnExactEvenPartst.R, FnExactEvenPartsf.R, Option.some.injEq, Prod.mk.injEq, Bool.or_eq_true, Bool.and_eq_true, decide_eq_true_eq, Bool.not_eq_true', and_true]
    by_cases hb : (1048576 : Int) < (m : Int)
    · exact .inl (.inl hb)
    · have hs : m ≤ xs.length ∧ m ≤ 1048576 := by omega
      cases hc : (l07Claims.sp (xs.take m) e : Bool)
      · exact .inr (.inr ⟨hs, rfl⟩)
      · exact .inl (.inr ⟨hs, rfl⟩)
  · cases h
end FnExactEvenParts

end Go.Proofs.Ytmaegbgkpjbohaa.Ab
