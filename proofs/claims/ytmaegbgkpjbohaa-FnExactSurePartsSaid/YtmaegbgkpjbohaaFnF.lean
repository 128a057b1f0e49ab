/-
  Functions: sure parts.
-/
import Derived.Test.YtmaegbgkpjbohaaFnE
import Derived.Test.YtmaegbgkpjbohaaFnC
namespace Go.Proofs.Ytmaegbgkpjbohaa.Ab
open Go
set_option linter.unusedVariables false
set_option linter.unusedSimpArgs false
set_option maxRecDepth 100000

namespace l00Max
def R : List AVal → Option (Bool × AVal × List Blk)
  | [.int .i64 a, .int .i64 b] => some (true, .int .i64 (if a < b then b else a), [])
  | _ => none
theorem go (a b : Int) :
  runFn Try.prog (orc []) hd0 Dr.std none 0 (bodyOf Try.f64) 10 [4] [.int .i64 a, .int .i64 b] []
  = (bif decide (b < a) then some (AVal.int IntKind.i64 a, []) else some (AVal.int IntKind.i64 b, [])) := by kernel_rfl
theorem run : ∀ args v new, R args = some (true, v, new) → ∃ fuel, runFn Try.prog (orc []) hd0 Dr.std none fuel (bodyOf Try.f64) 10 [4] args [] = some (v, new) := by
  intro args v new h
  unfold R at h
  split at h
  · rename_i a b
    simp only [Option.some.injEq, Prod.mk.injEq] at h
    obtain ⟨_, rfl, rfl⟩ := h
    refine ⟨0, ?_⟩
    rw [go]
    by_cases c : a < b
    · have : ¬ b < a := by omega
      simp [c, this]
    · by_cases c2 : b < a
      · simp [c, c2]
      · have : a = b := by omega
        simp [this]
  · cases h
theorem ok : EntOk Try.prog ⟨64, R⟩ :=
  ent_okA mixed (A := (orc [])) (orc_ok (by simp)) Try.func64 (by kernel_rfl) (by kernel_rfl) (n := 10) (ts := [4]) (hd := hd0) (dr := Dr.std) (cut := none) (by kernel_rfl) (by kernel_rfl) (by kernel_rfl) run
end l00Max

namespace sSureParts
def sv (xs : List Int) (e : Int) : List Int := xs.map fun c => IntKind.i64.wrap (1680 * (if 0 < IntKind.i64.wrap (e - IntKind.i64.wrap (sumOf.sp xs - c)) then IntKind.i64.wrap (e - IntKind.i64.wrap (sumOf.sp xs - c)) else 0))
theorem sv_length (xs : List Int) (e : Int) : (sv xs e).length = xs.length := by simp [sv]
def Rt : List AVal → Option (Bool × AVal × List Blk)
  | [.ro (.ints .i64 xs) m 1, .int .i64 e] => some (decide (m ≤ xs.length ∧ m ≤ 4611686018427387904) && l07Claims.sp (xs.take m) e, .tup [.own 0 0 (sv (xs.take m) e).length 0 1, .bool true], [⟨.typ (.ints .i64 (sv (xs.take m) e)), 0⟩])
  | _ => none
def Rf : List AVal → Option (Bool × AVal × List Blk)
  | [.ro (.ints .i64 xs) m 1, .int .i64 e] => some (decide (m ≤ xs.length ∧ m ≤ 4611686018427387904) && !l07Claims.sp (xs.take m) e, .tup [.nils, .bool false], [])
  | _ => none
def hd : Nat → Head := fun _ => ⟨[0, 1, 6, 7, 17, 18], some 1⟩
noncomputable def L (f n : Nat) (s : State) := loopAt Try.prog (orc [⟨53, l07Claims.R⟩, ⟨61, l07Sum.R⟩, ⟨64, l00Max.R⟩]) hd Dr.std 0 f (bodyOf Try.f29) 0 [true, true, true, true, false, true] (retK Try.prog [4, 5] 0 (some 1)) n s
theorem start (xs : List Int) (m : Nat) (e : Int) (f : Nat) :
  runFn Try.prog (orc [⟨53, l07Claims.R⟩, ⟨61, l07Sum.R⟩, ⟨64, l00Max.R⟩]) hd Dr.std (some 1) f (bodyOf Try.f29) 36 [4, 5] [.ro (.ints .i64 xs) m 1, .int .i64 e] []
  = (bif decide (m ≤ xs.length ∧ m ≤ (4611686018427387904 : Nat)) && (true && (true && true) || true && true) then bif !l07Claims.sp (List.take m xs) e then some (AVal.tup [AVal.nils, AVal.bool false], []) else bif decide (m ≤ xs.length ∧ m ≤ (4611686018427387904 : Nat)) && (true && true || true && true) then L f f (mkS (36 : Nat) [((0 : Nat), AVal.ro (Cont.ints IntKind.i64 xs) m (1 : Nat)), ((1 : Nat), AVal.int IntKind.i64 e), ((6 : Nat), AVal.int IntKind.i64 (sumOf.sp (List.take m xs))), ((7 : Nat), AVal.own (0 : Nat) (0 : Nat) (0 : Nat) (0 : Nat) (1 : Nat)), ((17 : Nat), AVal.int IntKind.i64 (↑m : Int)), ((18 : Nat), AVal.int IntKind.i64 (0 : Int))] [{ c := BC.typ (Cont.ints IntKind.i64 (List.replicate (0 : Nat) (0 : Int))), ver := (0 : Nat) }]) else none else none) := by kernel_rfl
theorem round (xs ys : List Int) (m i : Nat) (e al : Int) (f n : Nat) :
  L f (n + 1) (mkS 36 [(0, .ro (.ints .i64 xs) m 1), (1, .int .i64 e), (6, .int .i64 al), (7, .own 0 0 i 0 1), (17, .int .i64 m), (18, .int .i64 i)] [⟨.typ (.ints .i64 ys), 0⟩])
  = (bif decide ((↑i : Int) < (↑m : Int)) then bif true && (decide ((0 : Int) ≤ (↑i : Int)) && decide ((↑i : Int) < (↑m : Int))) then bif decide ((↑i : Int).toNat < xs.length) then bif true && (true && (true && true) || true && true) then bif (1 : Nat) == (1 : Nat) && (1 : Nat) == (1 : Nat) && (true && (true && true) && (true && true && (decide (i + (List.take (1 : Nat) (List.drop (0 : Nat) ((List.replicate (1 : Nat) (0 : Int)).set (0 : Nat) (IntKind.i64.wrap ((1680 : Int) * if (0 : Int) < IntKind.i64.wrap (e - IntKind.i64.wrap (al - gz xs (↑i : Int).toNat)) then IntKind.i64.wrap (e - IntKind.i64.wrap (al - gz xs (↑i : Int).toNat)) else (0 : Int)))))).length ≤ (4611686018427387904 : Nat)) && decide ((i + (List.take (1 : Nat) (List.drop (0 : Nat) ((List.replicate (1 : Nat) (0 : Int)).set (0 : Nat) (IntKind.i64.wrap ((1680 : Int) * if (0 : Int) < IntKind.i64.wrap (e - IntKind.i64.wrap (al - gz xs (↑i : Int).toNat)) then IntKind.i64.wrap (e - IntKind.i64.wrap (al - gz xs (↑i : Int).toNat)) else (0 : Int)))))).length) * (8 : Nat) ≤ (140737488355328 : Nat))))) then L f n (mkS (36 : Nat) [((0 : Nat), AVal.ro (Cont.ints IntKind.i64 xs) m (1 : Nat)), ((1 : Nat), AVal.int IntKind.i64 e), ((6 : Nat), AVal.int IntKind.i64 al), ((7 : Nat), AVal.own (0 : Nat) (0 : Nat) (i + (List.take (1 : Nat) (List.drop (0 : Nat) ((List.replicate (1 : Nat) (0 : Int)).set (0 : Nat) (IntKind.i64.wrap ((1680 : Int) * if (0 : Int) < IntKind.i64.wrap (e - IntKind.i64.wrap (al - gz xs (↑i : Int).toNat)) then IntKind.i64.wrap (e - IntKind.i64.wrap (al - gz xs (↑i : Int).toNat)) else (0 : Int)))))).length) (0 : Nat) (1 : Nat)), ((17 : Nat), AVal.int IntKind.i64 (↑m : Int)), ((18 : Nat), AVal.int IntKind.i64 (IntKind.i64.wrap ((↑i : Int) + (1 : Int))))] [{ c := BC.typ (Cont.ints IntKind.i64 (List.take i ys ++ List.take (1 : Nat) (List.drop (0 : Nat) ((List.replicate (1 : Nat) (0 : Int)).set (0 : Nat) (IntKind.i64.wrap ((1680 : Int) * if (0 : Int) < IntKind.i64.wrap (e - IntKind.i64.wrap (al - gz xs (↑i : Int).toNat)) then IntKind.i64.wrap (e - IntKind.i64.wrap (al - gz xs (↑i : Int).toNat)) else (0 : Int))))))), ver := (0 : Nat) }]) else none else none else none else none else some (AVal.tup [AVal.own (0 : Nat) (0 : Nat) i (0 : Nat) (1 : Nat), AVal.bool true], [{ c := BC.typ (Cont.ints IntKind.i64 ys), ver := (0 : Nat) }])) := by kernel_rfl
theorem loop (xs : List Int) (m : Nat) (e : Int) (f : Nat) (hx : m ≤ xs.length) (hb : m ≤ 1048576) : ∀ (d i n : Nat) (ys : List Int), i + d = m → d < n → ys.length = i → ys = (sv (xs.take m) e).take i →
    L f n (mkS 36 [(0, .ro (.ints .i64 xs) m 1), (1, .int .i64 e), (6, .int .i64 (sumOf.sp (xs.take m))), (7, .own 0 0 i 0 1), (17, .int .i64 m), (18, .int .i64 i)] [⟨.typ (.ints .i64 ys), 0⟩]) = some (.tup [.own 0 0 m 0 1, .bool true], [⟨.typ (.ints .i64 (sv (xs.take m) e)), 0⟩]) := by
  intro d
  induction d with
  | zero =>
    intro i n ys hi hn hl ht
    obtain ⟨n, rfl⟩ : ∃ k, n = k + 1 := ⟨n - 1, by omega⟩
    obtain rfl : i = m := by omega
    rw [round]
    have hlen : (xs.take i).length = i := by simp; omega
    have : ys = sv (xs.take i) e := by rw [ht, List.take_of_length_le (by rw [sv_length, hlen]; omega)]
    subst this
    simp [hl]
  | succ d ih =>
    intro i n ys hi hn hl ht
    obtain ⟨n, rfl⟩ : ∃ k, n = k + 1 := ⟨n - 1, by omega⟩
    have h1 : i < m := by omega
    have h4 : (0 : Int) ≤ (i : Int) := Int.natCast_nonneg _
    have h5 : (i : Int) < (m : Int) := by omega
    have h2 : i < xs.length := by omega
    have hb' : m ≤ 4611686018427387904 := by omega
    have e0 : ((i : Int) + 1) ≤ 4611686018427387904 := by omega
    have e0' : i + 1 ≤ 4611686018427387904 := by omega
    have e1 : (i + 1) * 8 ≤ 140737488355328 := by omega
    have hy : i ≤ ys.length := by omega
    rw [round]
    simp only [h4, h5, h2, hy, decide_true, Bool.and_self, Bool.and_true, Bool.true_and, cond_true, Int.toNat_natCast, wrap_nat i (by omega), gz_eq h2, hx, hb', and_self, one_set, List.length_singleton, Nat.reduceBEq, Bool.or_self, e0, e0', e1]
    refine ih (i + 1) n _ (by omega) (by omega) ?_ ?_
    · simp; omega
    · have hv : i < (sv (xs.take m) e).length := by rw [sv_length, List.length_take]; omega
      rw [List.take_add_one, ← ht, List.getElem?_eq_getElem hv]
      have hget : (sv (xs.take m) e)[i] = IntKind.i64.wrap (1680 * (if 0 < IntKind.i64.wrap (e - IntKind.i64.wrap (sumOf.sp (xs.take m) - xs[i])) then IntKind.i64.wrap (e - IntKind.i64.wrap (sumOf.sp (xs.take m) - xs[i])) else 0)) := by
        simp [sSureParts.sv]
      rw [hget, List.take_of_length_le (by omega)]
      rfl
theorem runt : ∀ args v new, Rt args = some (true, v, new) → ∃ fuel, runFn Try.prog (orc [⟨53, l07Claims.R⟩, ⟨61, l07Sum.R⟩, ⟨64, l00Max.R⟩]) hd Dr.std (some 1) fuel (bodyOf Try.f29) 36 [4, 5] args [] = some (v, new) := by
  intro args v new h
  unfold Rt at h
  split at h
  · rename_i xs m e
    simp only [Option.some.injEq, Prod.mk.injEq, Bool.and_eq_true, decide_eq_true_eq] at h
    obtain ⟨⟨⟨h1, h2⟩, hc⟩, rfl, rfl⟩ := h
    have hlen : (xs.take m).length = m := by simp; omega
    have hm : m ≤ 1048576 := by
      have := hc
      simp only [l07Claims.sp, Bool.and_eq_true, decide_eq_true_eq, hlen] at this
      omega
    refine ⟨m + 1, ?_⟩
    rw [start]
    have hl := loop xs m e (m + 1) h1 hm m 0 (m + 1) [] (by omega) (by omega) rfl (by simp)
    simp only [h1, h2, hc, and_self, decide_true, Bool.and_self, Bool.true_and, cond_true, cond_false, Bool.not_true]
    rw [sv_length, hlen]
    exact hl
  · cases h
theorem okt : EntOk Try.prog ⟨29, Rt⟩ :=
  ent_okA mixed (A := (orc [⟨53, l07Claims.R⟩, ⟨61, l07Sum.R⟩, ⟨64, l00Max.R⟩])) (orc_ok (by simp only [List.mem_cons, List.not_mem_nil, or_false, forall_eq_or_imp, forall_eq]; exact ⟨l07Claims.ok, l07Sum.ok, l00Max.ok⟩)) Try.func29 (by kernel_rfl) (by kernel_rfl) (n := 36) (ts := [4, 5]) (hd := hd) (dr := Dr.std) (cut := (some 1)) (by kernel_rfl) (by kernel_rfl) (by kernel_rfl) runt
theorem runf : ∀ args v new, Rf args = some (true, v, new) → ∃ fuel, runFn Try.prog (orc [⟨53, l07Claims.R⟩, ⟨61, l07Sum.R⟩, ⟨64, l00Max.R⟩]) hd Dr.std (some 1) fuel (bodyOf Try.f29) 36 [4, 5] args [] = some (v, new) := by
  intro args v new h
  unfold Rf at h
  split at h
  · rename_i xs m e
    simp only [Option.some.injEq, Prod.mk.injEq, Bool.and_eq_true, decide_eq_true_eq, Bool.not_eq_true'] at h
    obtain ⟨⟨⟨h1, h2⟩, hc⟩, rfl, rfl⟩ := h
    refine ⟨0, ?_⟩
    rw [start]
    simp only [h1, h2, hc, and_self, decide_true, Bool.and_self, Bool.true_and, cond_true, cond_false, Bool.or_self, Bool.not_false]
  · cases h
theorem okf : EntOk Try.prog ⟨29, Rf⟩ :=
  ent_okA mixed (A := (orc [⟨53, l07Claims.R⟩, ⟨61, l07Sum.R⟩, ⟨64, l00Max.R⟩])) (orc_ok (by simp only [List.mem_cons, List.not_mem_nil, or_false, forall_eq_or_imp, forall_eq]; exact ⟨l07Claims.ok, l07Sum.ok, l00Max.ok⟩)) Try.func29 (by kernel_rfl) (by kernel_rfl) (n := 36) (ts := [4, 5]) (hd := hd) (dr := Dr.std) (cut := (some 1)) (by kernel_rfl) (by kernel_rfl) (by kernel_rfl) runf
end sSureParts

namespace iSureParts
def Rt : List AVal → Option (Bool × AVal × List Blk)
  | [.ro (.ints .i64 xs) m 1, .int .i64 e] => some (decide (m ≤ xs.length ∧ m ≤ 4611686018427387904) && l07Claims.sp (xs.take m) e, .tup [.own 0 0 (sSureParts.sv (xs.take m) e).length 0 1, .bool true], [⟨.typ (.ints .i64 (sSureParts.sv (xs.take m) e)), 0⟩])
  | _ => none
def Rf : List AVal → Option (Bool × AVal × List Blk)
  | [.ro (.ints .i64 xs) m 1, .int .i64 e] => some (decide (m ≤ xs.length ∧ m ≤ 4611686018427387904) && !l07Claims.sp (xs.take m) e, .tup [.nils, .bool false], [])
  | _ => none
def hd : Nat → Head := fun _ => ⟨[0, 1, 6, 14, 15, 16], some 1⟩
noncomputable def L (f n : Nat) (s : State) := loopAt Try.prog (orc [⟨19, iAreClaims.R⟩, ⟨55, sumOf.R⟩]) hd Dr.std 0 f (bodyOf Try.f30) 0 [true, true, true, false, true] (retK Try.prog [4, 5] 0 (some 1)) n s
theorem start (xs : List Int) (m : Nat) (e : Int) (f : Nat) :
  runFn Try.prog (orc [⟨19, iAreClaims.R⟩, ⟨55, sumOf.R⟩]) hd Dr.std (some 1) f (bodyOf Try.f30) 33 [4, 5] [.ro (.ints .i64 xs) m 1, .int .i64 e] []
  = (bif decide (m ≤ xs.length ∧ m ≤ (4611686018427387904 : Nat)) && (true && (true && true) || true && true) then bif !l07Claims.sp (List.take m xs) e then some (AVal.tup [AVal.nils, AVal.bool false], []) else L f f (mkS (33 : Nat) [((0 : Nat), AVal.ro (Cont.ints IntKind.i64 xs) m (1 : Nat)), ((1 : Nat), AVal.int IntKind.i64 e), ((6 : Nat), AVal.own (0 : Nat) (0 : Nat) (0 : Nat) (0 : Nat) (1 : Nat)), ((14 : Nat), AVal.ro (Cont.ints IntKind.i64 xs) m (1 : Nat)), ((15 : Nat), AVal.int IntKind.i64 (↑m : Int)), ((16 : Nat), AVal.int IntKind.i64 (0 : Int))] [{ c := BC.typ (Cont.ints IntKind.i64 (List.replicate (0 : Nat) (0 : Int))), ver := (0 : Nat) }]) else none) := by kernel_rfl
theorem round (xs ys : List Int) (m i : Nat) (e : Int) (f n : Nat) :
  L f (n + 1) (mkS 33 [(0, .ro (.ints .i64 xs) m 1), (1, .int .i64 e), (6, .own 0 0 i 0 1), (14, .ro (.ints .i64 xs) m 1), (15, .int .i64 m), (16, .int .i64 i)] [⟨.typ (.ints .i64 ys), 0⟩])
  = (bif decide ((↑i : Int) < (↑m : Int)) then bif true && (decide ((0 : Int) ≤ (↑i : Int)) && decide ((↑i : Int) < (↑m : Int))) then bif decide ((↑i : Int).toNat < xs.length) then bif decide (m ≤ xs.length ∧ m ≤ (4611686018427387904 : Nat)) && (true && true || true && true) then bif (1 : Nat) == (1 : Nat) && (1 : Nat) == (1 : Nat) && (true && (true && true) && (true && true && (decide (i + (List.take (1 : Nat) (List.drop (0 : Nat) ((List.replicate (1 : Nat) (0 : Int)).set (0 : Nat) (IntKind.i64.wrap ((if (0 : Int) < IntKind.i64.wrap (e - IntKind.i64.wrap (sumOf.sp (List.take m xs) - gz xs (↑i : Int).toNat)) then IntKind.i64.wrap (e - IntKind.i64.wrap (sumOf.sp (List.take m xs) - gz xs (↑i : Int).toNat)) else (0 : Int)) * (1680 : Int)))))).length ≤ (4611686018427387904 : Nat)) && decide ((i + (List.take (1 : Nat) (List.drop (0 : Nat) ((List.replicate (1 : Nat) (0 : Int)).set (0 : Nat) (IntKind.i64.wrap ((if (0 : Int) < IntKind.i64.wrap (e - IntKind.i64.wrap (sumOf.sp (List.take m xs) - gz xs (↑i : Int).toNat)) then IntKind.i64.wrap (e - IntKind.i64.wrap (sumOf.sp (List.take m xs) - gz xs (↑i : Int).toNat)) else (0 : Int)) * (1680 : Int)))))).length) * (8 : Nat) ≤ (140737488355328 : Nat))))) then L f n (mkS (33 : Nat) [((0 : Nat), AVal.ro (Cont.ints IntKind.i64 xs) m (1 : Nat)), ((1 : Nat), AVal.int IntKind.i64 e), ((6 : Nat), AVal.own (0 : Nat) (0 : Nat) (i + (List.take (1 : Nat) (List.drop (0 : Nat) ((List.replicate (1 : Nat) (0 : Int)).set (0 : Nat) (IntKind.i64.wrap ((if (0 : Int) < IntKind.i64.wrap (e - IntKind.i64.wrap (sumOf.sp (List.take m xs) - gz xs (↑i : Int).toNat)) then IntKind.i64.wrap (e - IntKind.i64.wrap (sumOf.sp (List.take m xs) - gz xs (↑i : Int).toNat)) else (0 : Int)) * (1680 : Int)))))).length) (0 : Nat) (1 : Nat)), ((14 : Nat), AVal.ro (Cont.ints IntKind.i64 xs) m (1 : Nat)), ((15 : Nat), AVal.int IntKind.i64 (↑m : Int)), ((16 : Nat), AVal.int IntKind.i64 (IntKind.i64.wrap ((↑i : Int) + (1 : Int))))] [{ c := BC.typ (Cont.ints IntKind.i64 (List.take i ys ++ List.take (1 : Nat) (List.drop (0 : Nat) ((List.replicate (1 : Nat) (0 : Int)).set (0 : Nat) (IntKind.i64.wrap ((if (0 : Int) < IntKind.i64.wrap (e - IntKind.i64.wrap (sumOf.sp (List.take m xs) - gz xs (↑i : Int).toNat)) then IntKind.i64.wrap (e - IntKind.i64.wrap (sumOf.sp (List.take m xs) - gz xs (↑i : Int).toNat)) else (0 : Int)) * (1680 : Int))))))), ver := (0 : Nat) }]) else none else none else none else none else some (AVal.tup [AVal.own (0 : Nat) (0 : Nat) i (0 : Nat) (1 : Nat), AVal.bool true], [{ c := BC.typ (Cont.ints IntKind.i64 ys), ver := (0 : Nat) }])) := by kernel_rfl
theorem loop (xs : List Int) (m : Nat) (e : Int) (f : Nat) (hx : m ≤ xs.length) (hb : m ≤ 1048576) : ∀ (d i n : Nat) (ys : List Int), i + d = m → d < n → ys.length = i → ys = (sSureParts.sv (xs.take m) e).take i →
    L f n (mkS 33 [(0, .ro (.ints .i64 xs) m 1), (1, .int .i64 e), (6, .own 0 0 i 0 1), (14, .ro (.ints .i64 xs) m 1), (15, .int .i64 m), (16, .int .i64 i)] [⟨.typ (.ints .i64 ys), 0⟩]) = some (.tup [.own 0 0 m 0 1, .bool true], [⟨.typ (.ints .i64 (sSureParts.sv (xs.take m) e)), 0⟩]) := by
  intro d
  induction d with
  | zero =>
    intro i n ys hi hn hl ht
    obtain ⟨n, rfl⟩ : ∃ k, n = k + 1 := ⟨n - 1, by omega⟩
    obtain rfl : i = m := by omega
    rw [round]
    have hlen : (xs.take i).length = i := by simp; omega
    have : ys = sSureParts.sv (xs.take i) e := by rw [ht, List.take_of_length_le (by rw [sSureParts.sv_length, hlen]; omega)]
    subst this
    simp [hl]
  | succ d ih =>
    intro i n ys hi hn hl ht
    obtain ⟨n, rfl⟩ : ∃ k, n = k + 1 := ⟨n - 1, by omega⟩
    have h1 : i < m := by omega
    have h4 : (0 : Int) ≤ (i : Int) := Int.natCast_nonneg _
    have h5 : (i : Int) < (m : Int) := by omega
    have h2 : i < xs.length := by omega
    have hb' : m ≤ 4611686018427387904 := by omega
    have e0 : ((i : Int) + 1) ≤ 4611686018427387904 := by omega
    have e0' : i + 1 ≤ 4611686018427387904 := by omega
    have e1 : (i + 1) * 8 ≤ 140737488355328 := by omega
    have hy : i ≤ ys.length := by omega
    rw [round]
    simp only [h4, h5, h2, hy, decide_true, Bool.and_self, Bool.and_true, Bool.true_and, cond_true, Int.toNat_natCast, wrap_nat i (by omega), gz_eq h2, hx, hb', and_self, one_set, List.length_singleton, Nat.reduceBEq, Bool.or_self, e0, e0', e1]
    refine ih (i + 1) n _ (by omega) (by omega) ?_ ?_
    · simp; omega
    · have hv : i < (sSureParts.sv (xs.take m) e).length := by rw [sSureParts.sv_length, List.length_take]; omega
      rw [List.take_add_one, ← ht, List.getElem?_eq_getElem hv]
      have hget : (sSureParts.sv (xs.take m) e)[i] = IntKind.i64.wrap (1680 * (if 0 < IntKind.i64.wrap (e - IntKind.i64.wrap (sumOf.sp (xs.take m) - xs[i])) then IntKind.i64.wrap (e - IntKind.i64.wrap (sumOf.sp (xs.take m) - xs[i])) else 0)) := by
        simp [sSureParts.sv]
      rw [hget, List.take_of_length_le (by omega)]
      rw [Int.mul_comm]; rfl
theorem runt : ∀ args v new, Rt args = some (true, v, new) → ∃ fuel, runFn Try.prog (orc [⟨19, iAreClaims.R⟩, ⟨55, sumOf.R⟩]) hd Dr.std (some 1) fuel (bodyOf Try.f30) 33 [4, 5] args [] = some (v, new) := by
  intro args v new h
  unfold Rt at h
  split at h
  · rename_i xs m e
    simp only [Option.some.injEq, Prod.mk.injEq, Bool.and_eq_true, decide_eq_true_eq] at h
    obtain ⟨⟨⟨h1, h2⟩, hc⟩, rfl, rfl⟩ := h
    have hlen : (xs.take m).length = m := by simp; omega
    have hm : m ≤ 1048576 := by
      have := hc
      simp only [l07Claims.sp, Bool.and_eq_true, decide_eq_true_eq, hlen] at this
      omega
    refine ⟨m + 1, ?_⟩
    rw [start]
    have hl := loop xs m e (m + 1) h1 hm m 0 (m + 1) [] (by omega) (by omega) rfl (by simp)
    simp only [h1, h2, hc, and_self, decide_true, Bool.and_self, Bool.true_and, cond_true, cond_false, Bool.not_true]
    rw [sSureParts.sv_length, hlen]
    exact hl
  · cases h
theorem okt : EntOk Try.prog ⟨30, Rt⟩ :=
  ent_okA mixed (A := (orc [⟨19, iAreClaims.R⟩, ⟨55, sumOf.R⟩])) (orc_ok (by simp only [List.mem_cons, List.not_mem_nil, or_false, forall_eq_or_imp, forall_eq]; exact ⟨iAreClaims.ok, sumOf.ok⟩)) Try.func30 (by kernel_rfl) (by kernel_rfl) (n := 33) (ts := [4, 5]) (hd := hd) (dr := Dr.std) (cut := (some 1)) (by kernel_rfl) (by kernel_rfl) (by kernel_rfl) runt
theorem runf : ∀ args v new, Rf args = some (true, v, new) → ∃ fuel, runFn Try.prog (orc [⟨19, iAreClaims.R⟩, ⟨55, sumOf.R⟩]) hd Dr.std (some 1) fuel (bodyOf Try.f30) 33 [4, 5] args [] = some (v, new) := by
  intro args v new h
  unfold Rf at h
  split at h
  · rename_i xs m e
    simp only [Option.some.injEq, Prod.mk.injEq, Bool.and_eq_true, decide_eq_true_eq, Bool.not_eq_true'] at h
    obtain ⟨⟨⟨h1, h2⟩, hc⟩, rfl, rfl⟩ := h
    refine ⟨0, ?_⟩
    rw [start]
    simp only [h1, h2, hc, and_self, decide_true, Bool.and_self, Bool.true_and, cond_true, cond_false, Bool.or_self, Bool.not_false]
  · cases h
theorem okf : EntOk Try.prog ⟨30, Rf⟩ :=
  ent_okA mixed (A := (orc [⟨19, iAreClaims.R⟩, ⟨55, sumOf.R⟩])) (orc_ok (by simp only [List.mem_cons, List.not_mem_nil, or_false, forall_eq_or_imp, forall_eq]; exact ⟨iAreClaims.ok, sumOf.ok⟩)) Try.func30 (by kernel_rfl) (by kernel_rfl) (n := 33) (ts := [4, 5]) (hd := hd) (dr := Dr.std) (cut := (some 1)) (by kernel_rfl) (by kernel_rfl) (by kernel_rfl) runf
end iSureParts

end Go.Proofs.Ytmaegbgkpjbohaa.Ab
