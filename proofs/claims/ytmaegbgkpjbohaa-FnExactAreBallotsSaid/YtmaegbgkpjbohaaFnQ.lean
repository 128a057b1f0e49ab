/-
  Functions: ballots.
-/
import Derived.Test.YtmaegbgkpjbohaaFnP
namespace Go.Proofs.Ytmaegbgkpjbohaa.Ab
open Go
set_option linter.unusedVariables false
set_option linter.unusedSimpArgs false
set_option maxRecDepth 100000

def has.sp (v x : Int) : Bool := x == v
/-- All within and none twice, from a place on. -/
def uniq.sq (n : Int) : List Int → List Int → Bool
  | _, [] => true
  | pre, x :: r => ((decide (0 ≤ x) && decide (x ≤ n - 1)) && !(pre.any (has.sp x))) && uniq.sq n (pre ++ [x]) r
theorem take_snoc {xs : List Int} {i : Nat} (h : i < xs.length) : xs.take i ++ [xs[i]] = xs.take (i + 1) := by
  rw [List.take_add_one, List.getElem?_eq_getElem h]; rfl
/-- A list of all from 0 on, in an order. -/
def order.sp (n : Int) (xs : List Int) : Bool := uniq.sq n [] xs && decide ((xs.length : Int) = n)

namespace l00Has
def R : List AVal → Option (Bool × AVal × List Blk)
  | [.ro (.ints .i64 xs) m 1, .int .i64 v] => some (decide (m ≤ xs.length ∧ m ≤ 4611686018427387904), .bool ((xs.take m).any (has.sp v)), [])
  | _ => none
def hd : Nat → Head := fun _ => ⟨[0, 1, 4, 5], none⟩
noncomputable def L (f n : Nat) (s : State) := loopAt Try.prog (orc []) hd Dr.std 0 f (bodyOf Try.f94) 0 [true, false, true] (retK Try.prog [4] 0 none) n s
theorem start (xs : List Int) (m : Nat) (v : Int) (f : Nat) :
  runFn Try.prog (orc []) hd Dr.std none f (bodyOf Try.f94) 18 [4] [.ro (.ints .i64 xs) m 1, .int .i64 v] []
  = (L f f (mkS (18 : Nat) [((0 : Nat), AVal.ro (Cont.ints IntKind.i64 xs) m (1 : Nat)), ((1 : Nat), AVal.int IntKind.i64 v), ((4 : Nat), AVal.bool false), ((5 : Nat), AVal.int IntKind.i64 (0 : Int))] [])) := by kernel_rfl
theorem round (xs : List Int) (m i : Nat) (v : Int) (f n : Nat) :
  L f (n + 1) (mkS 18 [(0, .ro (.ints .i64 xs) m 1), (1, .int .i64 v), (4, .bool false), (5, .int .i64 i)] [])
  = (bif decide ((↑i : Int) < (↑m : Int)) then bif true && (decide ((0 : Int) ≤ (↑i : Int)) && decide ((↑i : Int) < (↑m : Int))) then bif decide ((↑i : Int).toNat < xs.length) then bif gz xs (↑i : Int).toNat == v then some (AVal.bool true, []) else L f n (mkS (18 : Nat) [((0 : Nat), AVal.ro (Cont.ints IntKind.i64 xs) m (1 : Nat)), ((1 : Nat), AVal.int IntKind.i64 v), ((4 : Nat), AVal.bool false), ((5 : Nat), AVal.int IntKind.i64 (IntKind.i64.wrap ((↑i : Int) + (1 : Int))))] []) else none else none else some (AVal.bool false, [])) := by kernel_rfl
theorem loop (xs : List Int) (m : Nat) (v : Int) (f : Nat) (hx : m ≤ xs.length) (hb : m ≤ 4611686018427387904) : ∀ (d i n : Nat) , i + d = m → d < n →
    L f n (mkS 18 [(0, .ro (.ints .i64 xs) m 1), (1, .int .i64 v), (4, .bool false), (5, .int .i64 i)] []) = some (.bool (((xs.take m).drop i).any (has.sp v)), []) := by
  intro d
  induction d with
  | zero =>
    intro i n  hi hn 
    obtain ⟨n, rfl⟩ : ∃ k, n = k + 1 := ⟨n - 1, by omega⟩
    obtain rfl : i = m := by omega
    rw [round]
    simp
  | succ d ih =>
    intro i n  hi hn 
    obtain ⟨n, rfl⟩ : ∃ k, n = k + 1 := ⟨n - 1, by omega⟩
    have h1 : i < m := by omega
    have h4 : (0 : Int) ≤ (i : Int) := Int.natCast_nonneg _
    have h5 : (i : Int) < (m : Int) := by omega
    have h2 : i < xs.length := by omega
    rw [round]
    rw [drop_take_cons hx h1, List.any_cons]
    have hr := ih (i + 1) n (by omega) (by omega)
    have hh : (xs[i] == v) = has.sp v xs[i] := rfl
    simp only [h4, h5, h2, gz_eq h2, hh, decide_true, Bool.and_self, Bool.or_self, Bool.and_true, Bool.true_and, cond_true, Int.toNat_natCast, wrap_nat i (by omega)]
    cases has.sp v xs[i]
    · simpa using hr
    · rfl
theorem run : ∀ args v new, R args = some (true, v, new) → ∃ fuel, runFn Try.prog (orc []) hd Dr.std none fuel (bodyOf Try.f94) 18 [4] args [] = some (v, new) := by
  intro args v new h
  unfold R at h
  split at h
  · rename_i xs m v
    simp only [Option.some.injEq, Prod.mk.injEq, decide_eq_true_eq] at h
    obtain ⟨⟨h1, h2⟩, rfl, rfl⟩ := h
    refine ⟨m + 1, ?_⟩
    rw [start]
    have hl := loop xs m v (m + 1) h1 h2 m 0 (m + 1) (by omega) (by omega)
    simpa using hl
  · cases h
theorem ok : EntOk Try.prog ⟨94, R⟩ :=
  ent_okA mixed (A := (orc [])) (orc_ok (by simp)) Try.func94 (by kernel_rfl) (by kernel_rfl) (n := 18) (ts := [4]) (hd := hd) (dr := Dr.std) (cut := none) (by kernel_rfl) (by kernel_rfl) (by kernel_rfl) run
end l00Has

namespace l07Order
def dr : Nat → Dr := Dr.std
def R : List AVal → Option (Bool × AVal × List Blk)
  | [.ro (.ints .i64 xs) m 1, .int .i64 v] => some (decide (m ≤ xs.length ∧ m ≤ 4611686018427387904 ∧ 0 ≤ v ∧ v ≤ 4611686018427387904), .bool (order.sp v (xs.take m)), [])
  | _ => none
def hd : Nat → Head := fun _ => ⟨[0, 1, 4, 7, 8], none⟩
noncomputable def L (f n : Nat) (s : State) := loopAt Try.prog (orc [⟨60, l00In.R⟩, ⟨94, l00Has.R⟩]) hd dr 0 f (bodyOf Try.f89) 0 [true, false, true] (retK Try.prog [4] 0 none) n s
theorem start (xs : List Int) (m : Nat) (v : Int) (f : Nat) :
  runFn Try.prog (orc [⟨60, l00In.R⟩, ⟨94, l00Has.R⟩]) hd dr none f (bodyOf Try.f89) 34 [4] [.ro (.ints .i64 xs) m 1, .int .i64 v] []
  = (L f f (mkS (34 : Nat) [((0 : Nat), AVal.ro (Cont.ints IntKind.i64 xs) m (1 : Nat)), ((1 : Nat), AVal.int IntKind.i64 v), ((4 : Nat), AVal.bool false), ((7 : Nat), AVal.int IntKind.i64 (↑m : Int)), ((8 : Nat), AVal.int IntKind.i64 (0 : Int))] [])) := by kernel_rfl
theorem round (xs : List Int) (m i : Nat) (v : Int) (f n : Nat) :
  L f (n + 1) (mkS 34 [(0, .ro (.ints .i64 xs) m 1), (1, .int .i64 v), (4, .bool false), (7, .int .i64 m), (8, .int .i64 i)] [])
  = (bif decide ((↑i : Int) < (↑m : Int)) then bif true && (decide ((0 : Int) ≤ (↑i : Int)) && decide ((↑i : Int) < (↑m : Int))) then bif decide ((↑i : Int).toNat < xs.length) then bif true && (true && (true && (true && true)) || true && true) then bif !(decide ((0 : Int) ≤ gz xs (↑i : Int).toNat) && decide (gz xs (↑i : Int).toNat ≤ IntKind.i64.wrap (v - (1 : Int)))) then some (AVal.bool false, []) else bif true && (decide ((0 : Int) ≤ (↑i : Int)) && decide ((↑i : Int) ≤ (↑m : Int)) && true) then bif true && (decide ((0 : Int) ≤ (↑i : Int)) && decide ((↑i : Int) < (↑m : Int))) then bif decide ((↑i : Int).toNat < xs.length) then bif decide ((↑i : Int).toNat - (0 : Nat) ≤ (List.take ((↑i : Int).toNat - (0 : Nat)) (List.drop (nat_lit 0) xs)).length ∧ (↑i : Int).toNat - (0 : Nat) ≤ (4611686018427387904 : Nat)) && (true && (true && true) || true && true) then bif (List.take ((↑i : Int).toNat - (0 : Nat)) (List.take ((↑i : Int).toNat - (0 : Nat)) (List.drop (0 : Nat) xs))).any (has.sp (gz xs (↑i : Int).toNat)) then some (AVal.bool false, []) else L f n (mkS (34 : Nat) [((0 : Nat), AVal.ro (Cont.ints IntKind.i64 xs) m (1 : Nat)), ((1 : Nat), AVal.int IntKind.i64 v), ((4 : Nat), AVal.bool false), ((7 : Nat), AVal.int IntKind.i64 (↑m : Int)), ((8 : Nat), AVal.int IntKind.i64 (IntKind.i64.wrap ((↑i : Int) + (1 : Int))))] []) else none else none else none else none else none else none else none else some (AVal.bool ((↑m : Int) == v), [])) := by kernel_rfl
theorem loop (xs : List Int) (m : Nat) (v : Int) (f : Nat) (hx : m ≤ xs.length) (hb : m ≤ 4611686018427387904) (hv : 0 ≤ v) (hv2 : v ≤ 4611686018427387904) : ∀ (d i n : Nat) , i + d = m → d < n →
    L f n (mkS 34 [(0, .ro (.ints .i64 xs) m 1), (1, .int .i64 v), (4, .bool false), (7, .int .i64 m), (8, .int .i64 i)] []) = some (.bool (uniq.sq v (xs.take i) ((xs.take m).drop i) && decide ((m : Int) = v)), []) := by
  intro d
  induction d with
  | zero =>
    intro i n  hi hn 
    obtain ⟨n, rfl⟩ : ∃ k, n = k + 1 := ⟨n - 1, by omega⟩
    obtain rfl : i = m := by omega
    rw [round]
    have e : (xs.take i).drop i = [] := by simp
    have e2 : (((i : Nat) : Int) == v) = decide ((i : Int) = v) := rfl
    rw [e]
    simp [uniq.sq, e2]
  | succ d ih =>
    intro i n  hi hn 
    obtain ⟨n, rfl⟩ : ∃ k, n = k + 1 := ⟨n - 1, by omega⟩
    have h1 : i < m := by omega
    have h4 : (0 : Int) ≤ (i : Int) := Int.natCast_nonneg _
    have h5 : (i : Int) < (m : Int) := by omega
    have h2 : i < xs.length := by omega
    rw [round]
    rw [drop_take_cons hx h1]
    have hr := ih (i + 1) n (by omega) (by omega)
    simp only [uniq.sq]
    rw [take_snoc h2]
    have w : IntKind.i64.wrap (v - 1) = v - 1 := IntWalk.i64_in _ (by omega)
    have hi : i ≤ 4611686018427387904 := by omega
    have hi2 : i ≤ xs.length := by omega
    have hi3 : (i : Int) ≤ (m : Int) := by omega
    simp only [h4, h5, h2, w, hi, hi2, hi3, gz_eq h2, List.drop_zero, Nat.mul_one, Nat.zero_mul, Nat.sub_zero, List.length_take, Nat.min_eq_left hi2, Nat.le_refl, List.take_take, Nat.min_self, and_self, decide_true, Bool.and_self, Bool.or_self, Bool.and_true, Bool.true_and, Bool.or_true, cond_true, Int.toNat_natCast, wrap_nat i (by omega)]
    generalize uniq.sq v (xs.take (i + 1)) ((xs.take m).drop (i + 1)) = rest at hr ⊢
    generalize (xs.take i).any (has.sp xs[i]) = b2
    generalize (decide (0 ≤ xs[i]) && decide (xs[i] ≤ v - 1)) = b1
    cases b1
    · simp
    · cases b2
      · simpa using hr
      · simp
theorem run : ∀ args v new, R args = some (true, v, new) → ∃ fuel, runFn Try.prog (orc [⟨60, l00In.R⟩, ⟨94, l00Has.R⟩]) hd dr none fuel (bodyOf Try.f89) 34 [4] args [] = some (v, new) := by
  intro args v new h
  unfold R at h
  split at h
  · rename_i xs m v
    simp only [Option.some.injEq, Prod.mk.injEq, decide_eq_true_eq] at h
    obtain ⟨⟨h1, h2, h3, h4⟩, rfl, rfl⟩ := h
    have e1 : (xs.take m).length = m := by simp; omega
    refine ⟨m + 1, ?_⟩
    rw [start]
    have hl := loop xs m v (m + 1) h1 h2 h3 h4 m 0 (m + 1) (by omega) (by omega)
    unfold order.sp
    rw [e1]
    simpa using hl
  · cases h
theorem ok : EntOk Try.prog ⟨89, R⟩ :=
  ent_okA mixed (A := (orc [⟨60, l00In.R⟩, ⟨94, l00Has.R⟩])) (orc_ok (by simp only [List.mem_cons, List.not_mem_nil, or_false, forall_eq_or_imp, forall_eq]; exact ⟨l00In.ok, l00Has.ok⟩)) Try.func89 (by kernel_rfl) (by kernel_rfl) (n := 34) (ts := [4]) (hd := hd) (dr := dr) (cut := none) (by kernel_rfl) (by kernel_rfl) (by kernel_rfl) run
end l07Order

namespace isAll
def R : List AVal → Option (Bool × AVal × List Blk)
  | [.ro (.ints .i64 xs) m 1] => some (decide (m ≤ xs.length ∧ m ≤ 1000000000), .bool (uniq.sq (m : Int) [] (xs.take m)), [])
  | _ => none
def hd : Nat → Head := fun _ => ⟨[0, 2, 3, 9, 10, 11], some 1⟩
noncomputable def L (f n : Nat) (s : State) := loopAt Try.prog (orc [⟨54, within.R⟩]) hd Dr.std 0 f (bodyOf Try.f79) 0 [true, true, false, true] (retK Try.prog [2] 0 (some 0)) n s
theorem start (xs : List Int) (m : Nat) (f : Nat) :
  runFn Try.prog (orc [⟨54, within.R⟩]) hd Dr.std (some 0) f (bodyOf Try.f79) 31 [2] [.ro (.ints .i64 xs) m 1] []
  = (bif (1 : Nat) == (1 : Nat) && ((↑m : Int) == (↑m : Int) && (decide ((0 : Int) ≤ (↑m : Int)) && (decide ((↑m : Int) * (1 : Int) ≤ (140737488355328 : Int)) && decide ((↑m : Int) ≤ (4611686018427387904 : Int))))) then L f f (mkS (31 : Nat) [((0 : Nat), AVal.ro (Cont.ints IntKind.i64 xs) m (1 : Nat)), ((2 : Nat), AVal.bool false), ((3 : Nat), AVal.own (0 : Nat) (0 : Nat) (↑m : Int).toNat (0 : Nat) (1 : Nat)), ((9 : Nat), AVal.ro (Cont.ints IntKind.i64 xs) m (1 : Nat)), ((10 : Nat), AVal.int IntKind.i64 (↑m : Int)), ((11 : Nat), AVal.int IntKind.i64 (0 : Int))] [{ c := BC.typ (Cont.bools (List.replicate (↑m : Int).toNat false)), ver := (0 : Nat) }]) else none) := by kernel_rfl
theorem round (xs : List Int) (m i : Nat) (bs : List Bool) (f n : Nat) :
  L f (n + 1) (mkS 31 [(0, .ro (.ints .i64 xs) m 1), (2, .bool false), (3, .own 0 0 m 0 1), (9, .ro (.ints .i64 xs) m 1), (10, .int .i64 m), (11, .int .i64 i)] [⟨.typ (.bools bs), 0⟩])
  = (bif decide ((↑i : Int) < (↑m : Int)) then bif true && (decide ((0 : Int) ≤ (↑i : Int)) && decide ((↑i : Int) < (↑m : Int))) then bif decide ((↑i : Int).toNat < xs.length) then bif true && (true && (true && (true && true)) || true && true) then bif !(decide ((0 : Int) ≤ gz xs (↑i : Int).toNat) && decide (gz xs (↑i : Int).toNat ≤ IntKind.i64.wrap ((↑m : Int) - (1 : Int)))) then some (AVal.bool false, []) else bif true && (decide ((0 : Int) ≤ gz xs (↑i : Int).toNat) && decide (gz xs (↑i : Int).toNat < (↑m : Int))) then bif true && decide ((gz xs (↑i : Int).toNat).toNat < bs.length) then bif gb bs (gz xs (↑i : Int).toNat).toNat then some (AVal.bool false, []) else bif true && (decide ((0 : Int) ≤ gz xs (↑i : Int).toNat) && decide (gz xs (↑i : Int).toNat < (↑m : Int))) then bif true && (true && (decide ((gz xs (↑i : Int).toNat).toNat < bs.length) && true)) then L f n (mkS (31 : Nat) [((0 : Nat), AVal.ro (Cont.ints IntKind.i64 xs) m (1 : Nat)), ((2 : Nat), AVal.bool false), ((3 : Nat), AVal.own (0 : Nat) (0 : Nat) m (0 : Nat) (1 : Nat)), ((9 : Nat), AVal.ro (Cont.ints IntKind.i64 xs) m (1 : Nat)), ((10 : Nat), AVal.int IntKind.i64 (↑m : Int)), ((11 : Nat), AVal.int IntKind.i64 (IntKind.i64.wrap ((↑i : Int) + (1 : Int))))] [{ c := BC.typ (Cont.bools (bs.set (gz xs (↑i : Int).toNat).toNat true)), ver := (0 : Nat) }]) else none else none else none else none else none else none else none else some (AVal.bool true, [])) := by kernel_rfl
theorem gb_eq {bs : List Bool} {i : Nat} (h : i < bs.length) : gb bs i = bs[i] := by simp [gb, h]
theorem loop (xs : List Int) (m : Nat) (f : Nat) (hx : m ≤ xs.length) (hb : m ≤ 4611686018427387904) : ∀ (d i n : Nat) (bs : List Bool), i + d = m → d < n → bs.length = m → (∀ (j : Nat) (hj : j < bs.length), bs[j] = (xs.take i).any (has.sp (j : Int))) →
    L f n (mkS 31 [(0, .ro (.ints .i64 xs) m 1), (2, .bool false), (3, .own 0 0 m 0 1), (9, .ro (.ints .i64 xs) m 1), (10, .int .i64 m), (11, .int .i64 i)] [⟨.typ (.bools bs), 0⟩]) = some (.bool (uniq.sq (m : Int) (xs.take i) ((xs.take m).drop i)), []) := by
  intro d
  induction d with
  | zero =>
    intro i n bs hi hn hl hs
    obtain ⟨n, rfl⟩ : ∃ k, n = k + 1 := ⟨n - 1, by omega⟩
    obtain rfl : i = m := by omega
    rw [round]
    have e : (xs.take i).drop i = [] := by simp
    rw [e]
    simp [uniq.sq]
  | succ d ih =>
    intro i n bs hi hn hl hs
    obtain ⟨n, rfl⟩ : ∃ k, n = k + 1 := ⟨n - 1, by omega⟩
    have h1 : i < m := by omega
    have h4 : (0 : Int) ≤ (i : Int) := Int.natCast_nonneg _
    have h5 : (i : Int) < (m : Int) := by omega
    have h2 : i < xs.length := by omega
    rw [round]
    rw [drop_take_cons hx h1]
    simp only [uniq.sq]
    rw [take_snoc h2]
    have w : IntKind.i64.wrap ((m : Int) - 1) = (m : Int) - 1 := IntWalk.i64_in _ (by omega)
    by_cases c1 : 0 ≤ xs[i] ∧ xs[i] ≤ (m : Int) - 1
    · obtain ⟨q, hq⟩ : ∃ q : Nat, xs[i] = q := ⟨xs[i].toNat, by omega⟩
      have l1 : q < bs.length := by omega
      have d1 : (0 : Int) ≤ (q : Int) := Int.natCast_nonneg _
      have d2 : (q : Int) < (m : Int) := by omega
      have d3 : (q : Int) ≤ (m : Int) - 1 := by omega
      have hsq := hs q l1
      have hr := ih (i + 1) n (bs.set q true) (by omega) (by omega) (by simpa using hl) (fun j hj => by
        rw [List.getElem_set, ← take_snoc h2, List.any_append, hs j (by simpa using hj)]
        simp only [List.any_cons, List.any_nil, Bool.or_false, has.sp, hq]
        by_cases cj : q = j
        · subst cj; simp
        · have : ((q : Int) == (j : Int)) = false := by simp only [beq_eq_false_iff_ne, ne_eq, Int.natCast_inj]; exact cj
          simp [cj, this])
      simp only [h4, h5, h2, w, gz_eq h2, hq, d1, d2, d3, l1, gb_eq l1, hsq, decide_true, Bool.and_self, Bool.or_self, Bool.and_true, Bool.true_and, Bool.or_true, Bool.not_true, cond_true, cond_false, Int.toNat_natCast, wrap_nat i (by omega)]
      generalize (xs.take i).any (has.sp (q : Int)) = b2
      cases b2
      · simp only [cond_false, Bool.not_false, Bool.true_and]
        exact hr
      · simp
    · have c2 : (decide (0 ≤ xs[i]) && decide (xs[i] ≤ (m : Int) - 1)) = false := by
        simp only [Bool.and_eq_false_iff, decide_eq_false_iff_not]; omega
      simp only [h4, h5, h2, w, gz_eq h2, c2, decide_true, Bool.and_self, Bool.or_self, Bool.and_true, Bool.true_and, Bool.or_true, Bool.not_false, Bool.false_and, cond_true, cond_false, Int.toNat_natCast]
theorem run : ∀ args v new, R args = some (true, v, new) → ∃ fuel, runFn Try.prog (orc [⟨54, within.R⟩]) hd Dr.std (some 0) fuel (bodyOf Try.f79) 31 [2] args [] = some (v, new) := by
  intro args v new h
  unfold R at h
  split at h
  · rename_i xs m
    simp only [Option.some.injEq, Prod.mk.injEq, decide_eq_true_eq] at h
    obtain ⟨⟨h1, h2⟩, rfl, rfl⟩ := h
    refine ⟨m + 1, ?_⟩
    rw [start]
    have c1 : (0 : Int) ≤ (m : Int) := Int.natCast_nonneg _
    have c2 : (m : Int) * 1 ≤ 140737488355328 := by omega
    have c2' : (m : Int) ≤ 140737488355328 := by omega
    have c3 : (m : Int) ≤ 4611686018427387904 := by omega
    have hl := loop xs m (m + 1) h1 (by omega) m 0 (m + 1) (List.replicate m false) (by omega) (by omega) (by simp) (fun j hj => by simp)
    simp [c1, c2, c2', c3]
    exact hl
  · cases h
theorem ok : EntOk Try.prog ⟨79, R⟩ :=
  ent_okA mixed (A := (orc [⟨54, within.R⟩])) (orc_ok (by simp only [List.mem_cons, List.not_mem_nil, or_false, forall_eq_or_imp, forall_eq]; exact within.ok)) Try.func79 (by kernel_rfl) (by kernel_rfl) (n := 31) (ts := [2]) (hd := hd) (dr := Dr.std) (cut := (some 0)) (by kernel_rfl) (by kernel_rfl) (by kernel_rfl) run
end isAll

def ballots.sp (xs : List (List Int)) : Bool := ((decide (1 ≤ xs.length) && decide (xs.length ≤ 32)) && (decide (1 ≤ (gr xs 0).length) && decide ((gr xs 0).length ≤ 12))) && xs.all (order.sp ((gr xs 0).length : Int))
namespace l07Ballots
def R : List AVal → Option (Bool × AVal × List Blk)
  | [.ro (.rows .i64 xs) m 1] => some (decide (m ≤ xs.length ∧ m ≤ 4611686018427387904) && short.sp 1000000000 (xs.take m), .bool (ballots.sp (xs.take m)), [])
  | _ => none
def hd : Nat → Head := fun _ => ⟨[0, 2, 3, 24, 25], none⟩
noncomputable def L (f n : Nat) (s : State) := loopAt Try.prog (orc [⟨89, l07Order.R⟩]) hd Dr.std 0 f (bodyOf Try.f76) 0 [true, true, true, true, false, true] (retK Try.prog [2] 0 none) n s
theorem start (xs : List (List Int)) (m : Nat) (f : Nat) :
  runFn Try.prog (orc [⟨89, l07Order.R⟩]) hd Dr.std none f (bodyOf Try.f76) 36 [2] [.ro (.rows .i64 xs) m 1] []
  = (bif decide ((↑m : Int) < (1 : Int)) then some (AVal.bool false, []) else bif decide ((32 : Int) < (↑m : Int)) then some (AVal.bool false, []) else bif true && (decide ((0 : Int) ≤ (0 : Int)) && decide ((0 : Int) < (↑m : Int))) then bif decide ((0 : Nat) < xs.length) then bif decide ((↑(gr xs (0 : Nat)).length : Int) < (1 : Int)) then some (AVal.bool false, []) else bif decide ((12 : Int) < (↑(gr xs (0 : Nat)).length : Int)) then some (AVal.bool false, []) else L f f (mkS (36 : Nat) [((0 : Nat), AVal.ro (Cont.rows IntKind.i64 xs) m (1 : Nat)), ((2 : Nat), AVal.bool false), ((3 : Nat), AVal.int IntKind.i64 (↑(gr xs (0 : Nat)).length : Int)), ((24 : Nat), AVal.int IntKind.i64 (↑m : Int)), ((25 : Nat), AVal.int IntKind.i64 (0 : Int))] []) else none else none) := by kernel_rfl
theorem round (xs : List (List Int)) (m i : Nat) (v : Int) (f n : Nat) :
  L f (n + 1) (mkS 36 [(0, .ro (.rows .i64 xs) m 1), (2, .bool false), (3, .int .i64 v), (24, .int .i64 m), (25, .int .i64 i)] [])
  = (bif decide ((↑i : Int) < (↑m : Int)) then bif true && (decide ((0 : Int) ≤ (↑i : Int)) && decide ((↑i : Int) < (↑m : Int))) then bif decide ((↑i : Int).toNat < xs.length) then bif decide ((gr xs (↑i : Int).toNat).length ≤ (gr xs (↑i : Int).toNat).length ∧ (gr xs (↑i : Int).toNat).length ≤ (4611686018427387904 : Nat) ∧ (0 : Int) ≤ v ∧ v ≤ (4611686018427387904 : Int)) && (true && (true && true) || true && true) then bif !order.sp v (List.take (gr xs (↑i : Int).toNat).length (gr xs (↑i : Int).toNat)) then some (AVal.bool false, []) else L f n (mkS (36 : Nat) [((0 : Nat), AVal.ro (Cont.rows IntKind.i64 xs) m (1 : Nat)), ((2 : Nat), AVal.bool false), ((3 : Nat), AVal.int IntKind.i64 v), ((24 : Nat), AVal.int IntKind.i64 (↑m : Int)), ((25 : Nat), AVal.int IntKind.i64 (IntKind.i64.wrap ((↑i : Int) + (1 : Int))))] []) else none else none else none else some (AVal.bool true, [])) := by kernel_rfl
theorem loop (xs : List (List Int)) (m : Nat) (v : Int) (f : Nat) (hx : m ≤ xs.length) (hb : m ≤ 4611686018427387904) (hv : 0 ≤ v) (hv2 : v ≤ 4611686018427387904) (hs : short.sp 1000000000 (xs.take m) = true) : ∀ (d i n : Nat) , i + d = m → d < n →
    L f n (mkS 36 [(0, .ro (.rows .i64 xs) m 1), (2, .bool false), (3, .int .i64 v), (24, .int .i64 m), (25, .int .i64 i)] []) = some (.bool (((xs.take m).drop i).all (order.sp v)), []) := by
  intro d
  induction d with
  | zero =>
    intro i n  hi hn 
    obtain ⟨n, rfl⟩ : ∃ k, n = k + 1 := ⟨n - 1, by omega⟩
    obtain rfl : i = m := by omega
    rw [round]
    simp
  | succ d ih =>
    intro i n  hi hn 
    obtain ⟨n, rfl⟩ : ∃ k, n = k + 1 := ⟨n - 1, by omega⟩
    have h1 : i < m := by omega
    have h4 : (0 : Int) ≤ (i : Int) := Int.natCast_nonneg _
    have h5 : (i : Int) < (m : Int) := by omega
    have h2 : i < xs.length := by omega
    rw [round]
    rw [drop_take_consR hx h1, List.all_cons]
    have hsi : xs[i].length ≤ 1000000000 := by
      have := short_get hs (i := i) (by simp; omega)
      simpa using this
    have hsi2 : xs[i].length ≤ 4611686018427387904 := by omega
    have hr := ih (i + 1) n (by omega) (by omega)
    simp only [h4, h5, h2, hv, hv2, gr_eq h2, hsi2, List.take_length, Nat.le_refl, and_self, decide_true, Bool.and_self, Bool.or_self, Bool.and_true, Bool.true_and, Bool.or_true, cond_true, Int.toNat_natCast, wrap_nat i (by omega)]
    generalize order.sp v xs[i] = b1
    cases b1
    · simp
    · simpa using hr
theorem run : ∀ args v new, R args = some (true, v, new) → ∃ fuel, runFn Try.prog (orc [⟨89, l07Order.R⟩]) hd Dr.std none fuel (bodyOf Try.f76) 36 [2] args [] = some (v, new) := by
  intro args v new h
  unfold R at h
  split at h
  · rename_i xs m
    simp only [Option.some.injEq, Prod.mk.injEq, Bool.and_eq_true, decide_eq_true_eq] at h
    obtain ⟨⟨⟨h1, h2⟩, h3⟩, rfl, rfl⟩ := h
    have e1 : (xs.take m).length = m := by simp; omega
    refine ⟨m + 1, ?_⟩
    rw [start]
    by_cases c1 : (m : Int) < 1
    · have : ¬ 1 ≤ m := by omega
      simp [ballots.sp, e1, c1, this]
    by_cases c2 : (32 : Int) < (m : Int)
    · have : ¬ m ≤ 32 := by omega
      simp [ballots.sp, e1, c1, c2, this]
    have d1 : 1 ≤ m := by omega
    have d2 : m ≤ 32 := by omega
    have z0 : (0 : Int) < (m : Int) := by omega
    have z1 : 0 < xs.length := by omega
    have d0 : 0 < m := by omega
    have eg : gr (xs.take m) 0 = gr xs 0 := by rw [gr_eq (by omega), gr_eq z1]; simp
    by_cases c3 : ((gr xs 0).length : Int) < 1
    · have : ¬ 1 ≤ (gr xs 0).length := by omega
      simp [ballots.sp, e1, eg, c1, c2, c3, z0, z1, d0, this]
    by_cases c4 : (12 : Int) < ((gr xs 0).length : Int)
    · have : ¬ (gr xs 0).length ≤ 12 := by omega
      simp [ballots.sp, e1, eg, c1, c2, c3, c4, z0, z1, d0, this]
    have d3 : 1 ≤ (gr xs 0).length := by omega
    have d4 : (gr xs 0).length ≤ 12 := by omega
    have hl := loop xs m ((gr xs 0).length : Int) (m + 1) h1 h2 (by omega) (by omega) h3 m 0 (m + 1) (by omega) (by omega)
    rw [List.drop_zero] at hl
    simp only [ballots.sp, e1, eg, c1, c2, c3, c4, d1, d2, d3, d4, z0, z1, decide_true, decide_false, cond_true, cond_false, Bool.and_self, Bool.or_self, Bool.and_true, Bool.true_and, Int.lt_irrefl, Int.le_refl]
    exact hl
  · cases h
theorem ok : EntOk Try.prog ⟨76, R⟩ :=
  ent_okA mixed (A := (orc [⟨89, l07Order.R⟩])) (orc_ok (by simp only [List.mem_cons, List.not_mem_nil, or_false, forall_eq_or_imp, forall_eq]; exact l07Order.ok)) Try.func76 (by kernel_rfl) (by kernel_rfl) (n := 36) (ts := [2]) (hd := hd) (dr := Dr.std) (cut := none) (by kernel_rfl) (by kernel_rfl) (by kernel_rfl) run
end l07Ballots

namespace sAreBallots
def R : List AVal → Option (Bool × AVal × List Blk)
  | [.ro (.rows .i64 xs) m 1] => some (decide (m ≤ xs.length ∧ m ≤ 4611686018427387904) && short.sp 1000000000 (xs.take m), .bool (ballots.sp (xs.take m)), [])
  | _ => none
theorem go (xs : List (List Int)) (m : Nat) :
  runFn Try.prog (orc [⟨76, l07Ballots.R⟩]) hd0 Dr.std none 0 (bodyOf Try.f43) 5 [2] [.ro (.rows .i64 xs) m 1] []
  = (bif decide (m ≤ xs.length ∧ m ≤ (4611686018427387904 : Nat)) && short.sp (1000000000 : Nat) (List.take m xs) && (true && true || true && true) then some (AVal.bool (ballots.sp (List.take m xs)), []) else none) := by kernel_rfl
theorem run : ∀ args v new, R args = some (true, v, new) → ∃ fuel, runFn Try.prog (orc [⟨76, l07Ballots.R⟩]) hd0 Dr.std none fuel (bodyOf Try.f43) 5 [2] args [] = some (v, new) := by
  intro args v new h
  unfold R at h
  split at h
  · rename_i xs m
    simp only [Option.some.injEq, Prod.mk.injEq, Bool.and_eq_true, decide_eq_true_eq] at h
    obtain ⟨⟨⟨h1, h2⟩, h3⟩, rfl, rfl⟩ := h
    have e1 : (xs.take m).length = m := by simp; omega
    refine ⟨0, ?_⟩
    rw [go]
    simp only [h1, h2, h3, and_self, decide_true, Bool.and_self, Bool.or_self, Bool.and_true, Bool.or_true, cond_true]
  · cases h
theorem ok : EntOk Try.prog ⟨43, R⟩ :=
  ent_okA mixed (A := (orc [⟨76, l07Ballots.R⟩])) (orc_ok (by simp only [List.mem_cons, List.not_mem_nil, or_false, forall_eq_or_imp, forall_eq]; exact l07Ballots.ok)) Try.func43 (by kernel_rfl) (by kernel_rfl) (n := 5) (ts := [2]) (hd := hd0) (dr := Dr.std) (cut := none) (by kernel_rfl) (by kernel_rfl) (by kernel_rfl) run
end sAreBallots

def clo.sp (n : Nat) (b : List Int) : Bool := ((b.length : Int) != (n : Int)) || !uniq.sq (b.length : Int) [] b
theorem clo_any (n : Nat) (l : List (List Int)) : (!l.any (clo.sp n)) = l.all (order.sp (n : Int)) := by
  induction l with
  | nil => rfl
  | cons b r ih =>
    rw [List.any_cons, List.all_cons, ← ih]
    have : clo.sp n b = !order.sp (n : Int) b := by
      unfold clo.sp order.sp
      by_cases c : (b.length : Int) = (n : Int)
      · simp only [c, bne_self_eq_false, Bool.false_or, decide_true, Bool.and_true]
      · have c' : ((b.length : Int) != (n : Int)) = true := by simpa using c
        simp [c', c]
    rw [this]
    cases order.sp (n : Int) b <;> simp

namespace areBallots_1
def R : List AVal → Option (Bool × AVal × List Blk)
  | [.ro (.ints .i64 b) k 1, .rom [.ro (.rows .i64 bs) mb 1] 0] => some (decide (k ≤ b.length ∧ k ≤ 1000000000 ∧ 0 < mb ∧ mb ≤ bs.length), .bool (clo.sp (gr bs 0).length (b.take k)), [])
  | _ => none
theorem go (b : List Int) (k : Nat) (bs : List (List Int)) (mb : Nat) :
  runFn Try.prog (orc [⟨79, isAll.R⟩]) hd0 Dr.std none 0 (bodyOf Try.f78) 16 [3] [.ro (.ints .i64 b) k 1, .rom [.ro (.rows .i64 bs) mb 1] 0] []
  = (bif true && (decide ((0 : Int) ≤ (0 : Int)) && decide ((0 : Int) < (↑mb : Int))) then bif decide ((0 : Nat) < bs.length) then bif (↑k : Int) != (↑(gr bs (0 : Nat)).length : Int) then some (AVal.bool true, []) else bif decide (k ≤ b.length ∧ k ≤ (1000000000 : Nat)) && (true && true || true && true) then some (AVal.bool !uniq.sq (↑k : Int) [] (List.take k b), []) else none else none else none) := by kernel_rfl
theorem run : ∀ args v new, R args = some (true, v, new) → ∃ fuel, runFn Try.prog (orc [⟨79, isAll.R⟩]) hd0 Dr.std none fuel (bodyOf Try.f78) 16 [3] args [] = some (v, new) := by
  intro args v new h
  unfold R at h
  split at h
  · rename_i b k bs mb
    simp only [Option.some.injEq, Prod.mk.injEq, decide_eq_true_eq] at h
    obtain ⟨⟨h1, h2, h3, h4⟩, rfl, rfl⟩ := h
    have e1 : (b.take k).length = k := by simp; omega
    have z0 : (0 : Int) < (mb : Int) := by omega
    have z1 : 0 < bs.length := by omega
    refine ⟨0, ?_⟩
    rw [go]
    simp only [clo.sp, e1, h1, h2, z0, z1, Int.le_refl, and_self, decide_true, Bool.and_self, Bool.or_self, Bool.and_true, Bool.true_and, Bool.or_true, cond_true]
    cases ((k : Int) != ((gr bs 0).length : Int)) <;> rfl
  · cases h
theorem ok : EntOk Try.prog ⟨78, R⟩ :=
  ent_okA mixed (A := (orc [⟨79, isAll.R⟩])) (orc_ok (by simp only [List.mem_cons, List.not_mem_nil, or_false, forall_eq_or_imp, forall_eq]; exact isAll.ok)) Try.func78 (by kernel_rfl) (by kernel_rfl) (n := 16) (ts := [3]) (hd := hd0) (dr := Dr.std) (cut := none) (by kernel_rfl) (by kernel_rfl) (by kernel_rfl) run
end areBallots_1

namespace idxBallots
def R : List AVal → Option (Bool × AVal × List Blk)
  | [.ro (.rows .i64 xs) m 1, .fn ff [.rom [.ro (.rows .i64 bs) mb 1] 0]] => some (decide (m ≤ xs.length ∧ m ≤ 4611686018427387904 ∧ ff = 78 ∧ 0 < mb ∧ mb ≤ bs.length) && short.sp 1000000000 (xs.take m), .int .i64 (fidx.sq (clo.sp (gr bs 0).length) (xs.take m) 0), [])
  | _ => none
def hd : Nat → Head := fun _ => ⟨[0, 1, 4, 7, 8], none⟩
noncomputable def L (f n : Nat) (s : State) := loopAt Try.prog (orc [⟨78, areBallots_1.R⟩]) hd Dr.std 0 f (bodyOf Try.f90) 0 [true, false, true] (retK Try.prog [4] 0 none) n s
theorem start (xs : List (List Int)) (m : Nat) (bs : List (List Int)) (mb : Nat) (f : Nat) :
  runFn Try.prog (orc [⟨78, areBallots_1.R⟩]) hd Dr.std none f (bodyOf Try.f90) 19 [4] [.ro (.rows .i64 xs) m 1, .fn 78 [.rom [.ro (.rows .i64 bs) mb 1] 0]] []
  = (L f f (mkS (19 : Nat) [((0 : Nat), AVal.ro (Cont.rows IntKind.i64 xs) m (1 : Nat)), ((1 : Nat), AVal.fn (78 : Nat) [AVal.rom [AVal.ro (Cont.rows IntKind.i64 bs) mb (1 : Nat)] (0 : Nat)]), ((4 : Nat), AVal.int IntKind.i64 (0 : Int)), ((7 : Nat), AVal.int IntKind.i64 (↑m : Int)), ((8 : Nat), AVal.int IntKind.i64 (0 : Int))] [])) := by kernel_rfl
theorem round (xs : List (List Int)) (m i : Nat) (bs : List (List Int)) (mb : Nat) (f n : Nat) :
  L f (n + 1) (mkS 19 [(0, .ro (.rows .i64 xs) m 1), (1, .fn 78 [.rom [.ro (.rows .i64 bs) mb 1] 0]), (4, .int .i64 0), (7, .int .i64 m), (8, .int .i64 i)] [])
  = (bif decide ((↑i : Int) < (↑m : Int)) then bif true && (decide ((0 : Int) ≤ (↑i : Int)) && decide ((↑i : Int) < (↑m : Int))) then bif decide ((↑i : Int).toNat < xs.length) then bif decide ((gr xs (↑i : Int).toNat).length ≤ (gr xs (↑i : Int).toNat).length ∧ (gr xs (↑i : Int).toNat).length ≤ (1000000000 : Nat) ∧ (0 : Nat) < mb ∧ mb ≤ bs.length) && (true && (true && true && true) || true && true) then bif clo.sp (gr bs (0 : Nat)).length (List.take (gr xs (↑i : Int).toNat).length (gr xs (↑i : Int).toNat)) then some (AVal.int IntKind.i64 (↑i : Int), []) else L f n (mkS (19 : Nat) [((0 : Nat), AVal.ro (Cont.rows IntKind.i64 xs) m (1 : Nat)), ((1 : Nat), AVal.fn (78 : Nat) [AVal.rom [AVal.ro (Cont.rows IntKind.i64 bs) mb (1 : Nat)] (0 : Nat)]), ((4 : Nat), AVal.int IntKind.i64 (0 : Int)), ((7 : Nat), AVal.int IntKind.i64 (↑m : Int)), ((8 : Nat), AVal.int IntKind.i64 (IntKind.i64.wrap ((↑i : Int) + (1 : Int))))] []) else none else none else none else some (AVal.int IntKind.i64 (-1 : Int), [])) := by kernel_rfl
theorem loop (xs : List (List Int)) (m : Nat) (bs : List (List Int)) (mb : Nat) (f : Nat) (hx : m ≤ xs.length) (hb : m ≤ 4611686018427387904) (hm : 0 < mb) (hm2 : mb ≤ bs.length) (hs : short.sp 1000000000 (xs.take m) = true) : ∀ (d i n : Nat) , i + d = m → d < n →
    L f n (mkS 19 [(0, .ro (.rows .i64 xs) m 1), (1, .fn 78 [.rom [.ro (.rows .i64 bs) mb 1] 0]), (4, .int .i64 0), (7, .int .i64 m), (8, .int .i64 i)] []) = some (.int .i64 (fidx.sq (clo.sp (gr bs 0).length) ((xs.take m).drop i) i), []) := by
  intro d
  induction d with
  | zero =>
    intro i n  hi hn 
    obtain ⟨n, rfl⟩ : ∃ k, n = k + 1 := ⟨n - 1, by omega⟩
    obtain rfl : i = m := by omega
    rw [round]
    have e : (xs.take i).drop i = [] := by simp
    rw [e]
    simp [fidx.sq]
  | succ d ih =>
    intro i n  hi hn 
    obtain ⟨n, rfl⟩ : ∃ k, n = k + 1 := ⟨n - 1, by omega⟩
    have h1 : i < m := by omega
    have h4 : (0 : Int) ≤ (i : Int) := Int.natCast_nonneg _
    have h5 : (i : Int) < (m : Int) := by omega
    have h2 : i < xs.length := by omega
    rw [round]
    rw [drop_take_consR hx h1]
    have hsi : xs[i].length ≤ 1000000000 := by
      have := short_get hs (i := i) (by simp; omega)
      simpa using this
    simp only [fidx.sq]
    have hr := ih (i + 1) n (by omega) (by omega)
    simp only [h4, h5, h2, hm, hm2, hsi, gr_eq h2, List.take_length, Nat.le_refl, and_self, decide_true, Bool.and_self, Bool.or_self, Bool.and_true, Bool.true_and, Bool.or_true, cond_true, Int.toNat_natCast, wrap_nat i (by omega)]
    rw [hr]
    cases clo.sp (gr bs 0).length xs[i] <;> rfl
theorem run : ∀ args v new, R args = some (true, v, new) → ∃ fuel, runFn Try.prog (orc [⟨78, areBallots_1.R⟩]) hd Dr.std none fuel (bodyOf Try.f90) 19 [4] args [] = some (v, new) := by
  intro args v new h
  unfold R at h
  split at h
  · rename_i xs m ff bs mb
    simp only [Option.some.injEq, Prod.mk.injEq, Bool.and_eq_true, decide_eq_true_eq] at h
    obtain ⟨⟨⟨h1, h2, rfl, h3, h4⟩, h5⟩, rfl, rfl⟩ := h
    refine ⟨m + 1, ?_⟩
    rw [start]
    have hl := loop xs m bs mb (m + 1) h1 h2 h3 h4 h5 m 0 (m + 1) (by omega) (by omega)
    simpa using hl
  · cases h
theorem ok : EntOk Try.prog ⟨90, R⟩ :=
  ent_okA mixed (A := (orc [⟨78, areBallots_1.R⟩])) (orc_ok (by simp only [List.mem_cons, List.not_mem_nil, or_false, forall_eq_or_imp, forall_eq]; exact areBallots_1.ok)) Try.func90 (by kernel_rfl) (by kernel_rfl) (n := 19) (ts := [4]) (hd := hd) (dr := Dr.std) (cut := none) (by kernel_rfl) (by kernel_rfl) (by kernel_rfl) run
end idxBallots

namespace hasBallots
def R : List AVal → Option (Bool × AVal × List Blk)
  | [.ro (.rows .i64 xs) m 1, .fn ff [.rom [.ro (.rows .i64 bs) mb 1] 0]] => some (decide (m ≤ xs.length ∧ m ≤ 4611686018427387904 ∧ ff = 78 ∧ 0 < mb ∧ mb ≤ bs.length) && short.sp 1000000000 (xs.take m), .bool ((xs.take m).any (clo.sp (gr bs 0).length)), [])
  | _ => none
theorem go (xs : List (List Int)) (m : Nat) (bs : List (List Int)) (mb : Nat) :
  runFn Try.prog (orc [⟨90, idxBallots.R⟩]) hd0 Dr.std none 0 (bodyOf Try.f77) 9 [4] [.ro (.rows .i64 xs) m 1, .fn 78 [.rom [.ro (.rows .i64 bs) mb 1] 0]] []
  = (bif decide (m ≤ xs.length ∧ m ≤ (4611686018427387904 : Nat) ∧ (78 : FuncId) = (78 : FuncId) ∧ (0 : Nat) < mb ∧ mb ≤ bs.length) && short.sp (1000000000 : Nat) (List.take m xs) && (true && (true && true && true && true) || true && true) then some (AVal.bool (decide ((0 : Int) ≤ fidx.sq (clo.sp (gr bs (0 : Nat)).length) (List.take m xs) (0 : Nat))), []) else none) := by kernel_rfl
theorem run : ∀ args v new, R args = some (true, v, new) → ∃ fuel, runFn Try.prog (orc [⟨90, idxBallots.R⟩]) hd0 Dr.std none fuel (bodyOf Try.f77) 9 [4] args [] = some (v, new) := by
  intro args v new h
  unfold R at h
  split at h
  · rename_i xs m ff bs mb
    simp only [Option.some.injEq, Prod.mk.injEq, Bool.and_eq_true, decide_eq_true_eq] at h
    obtain ⟨⟨⟨h1, h2, rfl, h3, h4⟩, h5⟩, rfl, rfl⟩ := h
    refine ⟨0, ?_⟩
    rw [go]
    simp only [h1, h2, h3, h4, h5, true_and, and_true, and_self, decide_true, Bool.and_self, Bool.or_self, Bool.and_true, Bool.or_true, cond_true, fidx_ge]
  · cases h
theorem ok : EntOk Try.prog ⟨77, R⟩ :=
  ent_okA mixed (A := (orc [⟨90, idxBallots.R⟩])) (orc_ok (by simp only [List.mem_cons, List.not_mem_nil, or_false, forall_eq_or_imp, forall_eq]; exact idxBallots.ok)) Try.func77 (by kernel_rfl) (by kernel_rfl) (n := 9) (ts := [4]) (hd := hd0) (dr := Dr.std) (cut := none) (by kernel_rfl) (by kernel_rfl) (by kernel_rfl) run
end hasBallots

namespace iAreBallots
def R : List AVal → Option (Bool × AVal × List Blk)
  | [.ro (.rows .i64 xs) m 1] => some (decide (m ≤ xs.length ∧ m ≤ 4611686018427387904) && short.sp 1000000000 (xs.take m), .bool (ballots.sp (xs.take m)), [])
  | _ => none
theorem go (xs : List (List Int)) (m : Nat) :
  runFn Try.prog (orc [⟨77, hasBallots.R⟩]) hd0 Dr.std (some 0) 0 (bodyOf Try.f45) 29 [2] [.ro (.rows .i64 xs) m 1] []
  = (bif true && true then bif decide ((↑m : Int) < (1 : Int)) then some (AVal.bool false, []) else bif true && true then bif decide ((32 : Int) < (↑m : Int)) then some (AVal.bool false, []) else bif true && true then bif true && (decide ((0 : Int) ≤ (0 : Int)) && decide ((0 : Int) < (↑m : Int))) then bif decide ((0 : Nat) < xs.length) then bif decide ((↑(gr xs (0 : Nat)).length : Int) < (1 : Int)) then some (AVal.bool false, []) else bif true && true then bif true && (decide ((0 : Int) ≤ (0 : Int)) && decide ((0 : Int) < (↑m : Int))) then bif decide ((0 : Nat) < xs.length) then bif decide ((12 : Int) < (↑(gr xs (0 : Nat)).length : Int)) then some (AVal.bool false, []) else bif true && true then bif decide (m ≤ xs.length ∧ m ≤ (4611686018427387904 : Nat) ∧ (78 : Nat) = (78 : FuncId) ∧ (0 : Nat) < m ∧ m ≤ xs.length) && short.sp (1000000000 : Nat) (List.take m xs) && (true && false || true && true) then some (AVal.bool !(List.take m xs).any (clo.sp (gr xs (0 : Nat)).length), []) else none else none else none else none else none else none else none else none else none else none) := by kernel_rfl
theorem run : ∀ args v new, R args = some (true, v, new) → ∃ fuel, runFn Try.prog (orc [⟨77, hasBallots.R⟩]) hd0 Dr.std (some 0) fuel (bodyOf Try.f45) 29 [2] args [] = some (v, new) := by
  intro args v new h
  unfold R at h
  split at h
  · rename_i xs m
    simp only [Option.some.injEq, Prod.mk.injEq, Bool.and_eq_true, decide_eq_true_eq] at h
    obtain ⟨⟨⟨h1, h2⟩, h3⟩, rfl, rfl⟩ := h
    have e1 : (xs.take m).length = m := by simp; omega
    refine ⟨0, ?_⟩
    rw [go]
    by_cases c1 : (m : Int) < 1
    · have : ¬ 1 ≤ m := by omega
      simp [ballots.sp, e1, c1, this]
    by_cases c2 : (32 : Int) < (m : Int)
    · have : ¬ m ≤ 32 := by omega
      simp [ballots.sp, e1, c1, c2, this]
    have d1 : 1 ≤ m := by omega
    have d2 : m ≤ 32 := by omega
    have z0 : (0 : Int) < (m : Int) := by omega
    have z1 : 0 < xs.length := by omega
    have d0 : 0 < m := by omega
    have eg : gr (xs.take m) 0 = gr xs 0 := by rw [gr_eq (by omega), gr_eq z1]; simp
    by_cases c3 : ((gr xs 0).length : Int) < 1
    · have : ¬ 1 ≤ (gr xs 0).length := by omega
      simp [ballots.sp, e1, eg, c1, c2, c3, z0, z1, d0, this]
    by_cases c4 : (12 : Int) < ((gr xs 0).length : Int)
    · have : ¬ (gr xs 0).length ≤ 12 := by omega
      simp [ballots.sp, e1, eg, c1, c2, c3, c4, z0, z1, d0, this]
    have d3 : 1 ≤ (gr xs 0).length := by omega
    have d4 : (gr xs 0).length ≤ 12 := by omega
    have hk := clo_any (gr xs 0).length (xs.take m)
    simp only [ballots.sp, e1, eg, h1, h2, h3, c1, c2, c3, c4, d0, d1, d2, d3, d4, z0, z1, true_and, and_true, and_self, decide_true, decide_false, cond_true, cond_false, Bool.and_self, Bool.or_self, Bool.and_true, Bool.or_true, Bool.true_and, Int.le_refl, hk]
  · cases h
theorem ok : EntOk Try.prog ⟨45, R⟩ :=
  ent_okA mixed (A := (orc [⟨77, hasBallots.R⟩])) (orc_ok (by simp only [List.mem_cons, List.not_mem_nil, or_false, forall_eq_or_imp, forall_eq]; exact hasBallots.ok)) Try.func45 (by kernel_rfl) (by kernel_rfl) (n := 29) (ts := [2]) (hd := hd0) (dr := Dr.std) (cut := (some 0)) (by kernel_rfl) (by kernel_rfl) (by kernel_rfl) run
end iAreBallots

namespace FnExactAreBallots
def R : List AVal → Option (Bool × AVal × List Blk)
  | [.ro (.rows .i64 xs) m 1] => some (decide (m ≤ xs.length ∧ m ≤ 9223372036854775807) && short.sp 9223372036854775807 xs, .bool true, [])
  | _ => none
theorem go (xs : List (List Int)) (m : Nat) :
  runFn Try.prog (orc [⟨42, szInt64SS.R⟩, ⟨44, toInt64SS.R⟩, ⟨43, sAreBallots.R⟩, ⟨45, iAreBallots.R⟩, ⟨46, eqInt64SS.R⟩]) hd0 Dr.std (some 0) 0 (bodyOf Try.f12) 27 [2] [.ro (.rows .i64 xs) m 1] []
  = (bif decide (m ≤ xs.length ∧ m ≤ (9223372036854775807 : Nat) ∧ (0 : Int) ≤ (1048576 : Int) ∧ (1048576 : Int) ≤ (4611686018427387904 : Int)) && short.sp (9223372036854775807 : Nat) xs && (true && true || true && true) then bif decide ((bif decide ((1048576 : Int) - (↑m : Int) < (0 : Int)) then (-1 : Int) else szrows.sq (List.take m xs) ((1048576 : Int) - (↑m : Int))) < (0 : Int)) then some (AVal.bool true, []) else bif decide (m ≤ xs.length ∧ m ≤ (1048576 : Nat)) && short.sp (1048576 : Nat) (List.take m xs) && (true && true || true && (false && true)) then bif decide (m ≤ (List.take m xs).length ∧ m ≤ (4611686018427387904 : Nat)) && short.sp (1000000000 : Nat) (List.take m (List.take m xs)) && (false && true || true && true) then bif decide (m ≤ xs.length ∧ m ≤ (1048576 : Nat)) && short.sp (1048576 : Nat) (List.take m xs) && (true && true || true && (false && true)) then bif decide (m ≤ (List.take m xs).length ∧ m ≤ (4611686018427387904 : Nat)) && short.sp (1000000000 : Nat) (List.take m (List.take m xs)) && (false && true || true && true) then bif !ballots.sp (List.take m (List.take m xs)) == ballots.sp (List.take m (List.take m xs)) then some (AVal.bool false, []) else bif decide (m ≤ xs.length ∧ m ≤ (1048576 : Nat)) && short.sp (1048576 : Nat) (List.take m xs) && (true && true || true && (false && true)) then bif decide (m ≤ (List.take m xs).length ∧ m ≤ (List.take m xs).length ∧ m ≤ (4611686018427387904 : Nat) ∧ m = m ∧ List.take m (List.take m xs) = List.take m (List.take m xs)) && short.sp (4611686018427387904 : Nat) (List.take m (List.take m xs)) && (false && (false && true) || true && true) then some (AVal.bool true, []) else none else none else none else none else none else none else none) := by kernel_rfl
theorem run : ∀ args v new, R args = some (true, v, new) → ∃ fuel, runFn Try.prog (orc [⟨42, szInt64SS.R⟩, ⟨44, toInt64SS.R⟩, ⟨43, sAreBallots.R⟩, ⟨45, iAreBallots.R⟩, ⟨46, eqInt64SS.R⟩]) hd0 Dr.std (some 0) fuel (bodyOf Try.f12) 27 [2] args [] = some (v, new) := by
  intro args v new h
  unfold R at h
  split at h
  · rename_i xs m
    simp only [Option.some.injEq, Prod.mk.injEq, Bool.and_eq_true, decide_eq_true_eq] at h
    obtain ⟨⟨⟨h1, h2⟩, h3⟩, rfl, rfl⟩ := h
    refine ⟨0, ?_⟩
    rw [go]
    have z1 : ((0 : Int) ≤ 1048576) = True := by simp
    have z2 : ((1048576 : Int) ≤ 4611686018427387904) = True := by simp
    have z3 : ((-1 : Int) < 0) = True := by simp
    by_cases c0 : (1048576 : Int) - (m : Int) < 0
    · simp only [c0, z1, z2, z3, h1, h2, h3, List.take_take, Nat.min_self, Nat.le_refl, List.take_length, marks_length, take_marks, one_neg, i0_1, i1_b, true_and, and_true, and_self, decide_true, decide_false, Bool.and_self, Bool.or_self, Bool.and_true, Bool.true_and, Bool.and_false, Bool.false_and, Bool.or_true, Bool.true_or, Bool.or_false, Bool.false_or, Bool.not_true, Bool.not_false, cond_true, cond_false, bne_self_eq_false, beq_self_eq_true]
    by_cases c1 : szrows.sq (xs.take m) ((1048576 : Int) - (m : Int)) < 0
    · simp only [c0, c1, z1, z2, z3, h1, h2, h3, List.take_take, Nat.min_self, Nat.le_refl, List.take_length, marks_length, take_marks, one_neg, i0_1, i1_b, true_and, and_true, and_self, decide_true, decide_false, Bool.and_self, Bool.or_self, Bool.and_true, Bool.true_and, Bool.and_false, Bool.false_and, Bool.or_true, Bool.true_or, Bool.or_false, Bool.false_or, Bool.not_true, Bool.not_false, cond_true, cond_false, bne_self_eq_false, beq_self_eq_true]
    have hsh := szrows_short (xs.take m) ((1048576 : Int) - (m : Int)) (by omega)
    have g1 : m ≤ 1048576 := by omega
    have g5 : m ≤ 4611686018427387904 := by omega
    have s1 : ∀ b : Nat, 1048576 ≤ b → short.sp b (xs.take m) = true := by
      intro b hb
      simp only [short.sp, List.all_eq_true, decide_eq_true_eq]
      intro r hr
      have := hsh r hr
      omega
    have g2 := s1 1048576 (by omega)
    have g3 := s1 1000000000 (by omega)
    have g4 := s1 4611686018427387904 (by omega)
    have e1 : (xs.take m).length = m := by simp; omega
    simp only [c0, c1, z1, z2, z3, h1, h2, h3, g1, g2, g3, g4, g5, e1, List.take_take, Nat.min_self, Nat.le_refl, List.take_length, marks_length, take_marks, one_neg, i0_1, i1_b, true_and, and_true, and_self, decide_true, decide_false, Bool.and_self, Bool.or_self, Bool.and_true, Bool.true_and, Bool.and_false, Bool.false_and, Bool.or_true, Bool.true_or, Bool.or_false, Bool.false_or, Bool.not_true, Bool.not_false, cond_true, cond_false, bne_self_eq_false, beq_self_eq_true]
  · cases h
theorem ok : EntOk Try.prog ⟨12, R⟩ :=
  ent_okA mixed (A := (orc [⟨42, szInt64SS.R⟩, ⟨44, toInt64SS.R⟩, ⟨43, sAreBallots.R⟩, ⟨45, iAreBallots.R⟩, ⟨46, eqInt64SS.R⟩])) (orc_ok (by simp only [List.mem_cons, List.not_mem_nil, or_false, forall_eq_or_imp, forall_eq]; exact ⟨szInt64SS.ok, toInt64SS.ok, sAreBallots.ok, iAreBallots.ok, eqInt64SS.ok⟩)) Try.func12 (by kernel_rfl) (by kernel_rfl) (n := 27) (ts := [2]) (hd := hd0) (dr := Dr.std) (cut := (some 0)) (by kernel_rfl) (by kernel_rfl) (by kernel_rfl) run
end FnExactAreBallots

end Go.Proofs.Ytmaegbgkpjbohaa.Ab
