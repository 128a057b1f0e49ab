/-
  Functions: wishes: what is valid, places in lists.
-/
import Derived.Test.YthecninmmojkgaaFnQ
import Derived.Test.YthecninmmojkgaaFnXA
import Derived.Test.YthecninmmojkgaaFnL
namespace Go.Proofs.Ythecninmmojkgaa.Ab
open Go
set_option linter.unusedVariables false
set_option linter.unusedSimpArgs false
set_option maxRecDepth 100000

set_option maxRecDepth 100000
def iw.sp (lo hi x : Int) : Bool := decide (lo ≤ x) && decide (x ≤ hi)
/-- Somebody stands twice, behind those of 'pre'. -/
def tws.sq : List Int → List Int → Bool
  | _, [] => false
  | pre, x :: r => pre.any (has.sp x) || tws.sq (pre ++ [x]) r
def rk.sp (n : Int) (r : List Int) : Bool := uniq.sq n [] r
theorem uniq_tws (n : Int) : ∀ (xs pre : List Int), uniq.sq n pre xs = (xs.all (iw.sp 0 (n - 1)) && !tws.sq pre xs) := by
  intro xs
  induction xs with
  | nil => intro pre; rfl
  | cons x r ih =>
    intro pre
    simp only [uniq.sq, tws.sq, ih, List.all_cons]
    have e : (decide (0 ≤ x) && decide (x ≤ n - 1)) = iw.sp 0 (n - 1) x := rfl
    rw [e]
    generalize iw.sp 0 (n - 1) x = a
    generalize pre.any (has.sp x) = b
    generalize r.all (iw.sp 0 (n - 1)) = c
    generalize tws.sq (pre ++ [x]) r = d
    cases a <;> cases b <;> cases c <;> cases d <;> rfl
def lo.sp (n : Int) (xss : List (List Int)) : Bool := xss.all (rk.sp n)
/-- Wishes that are valid. -/
def vw.sp (ls rs : List (List Int)) : Bool := decide ((ls.length : Int) = (rs.length : Int)) && ((lo.sp ls.length ls && (decide (1 ≤ (ls.length : Int)) && decide ((ls.length : Int) ≤ 8))) && (lo.sp rs.length rs && (decide (1 ≤ (rs.length : Int)) && decide ((rs.length : Int) ≤ 8))))
/-- Where a number stands. -/
def pl.go (v : Int) : List Int → Nat → Nat
  | [], i => i
  | x :: r, i => bif has.sp v x then i else pl.go v r (i + 1)
def pl.sv (v : Int) (xs : List Int) : Int := (pl.go v xs 0 : Nat)
theorem pl_go_le (v : Int) : ∀ (xs : List Int) (i : Nat), i ≤ pl.go v xs i ∧ pl.go v xs i ≤ i + xs.length := by
  intro xs
  induction xs with
  | nil => intro i; simp [pl.go]
  | cons x r ih =>
    intro i
    simp only [pl.go, List.length_cons]
    cases has.sp v x
    · have := ih (i + 1); simp only [cond_false]; omega
    · simp only [cond_true]; omega
theorem has_comm (v : Int) : (fun y : Int => v == y) = has.sp v := by
  funext y
  unfold has.sp
  rw [Bool.eq_iff_iff]
  simp only [beq_iff_eq]
  exact ⟨fun h => h.symm, fun h => h.symm⟩
theorem fidx_pl (v : Int) : ∀ (xs : List Int) (i : Nat), (bif decide (0 ≤ fidx.sq (has.sp v) xs i) then fidx.sq (has.sp v) xs i else ((i + xs.length : Nat) : Int)) = (pl.go v xs i : Nat) := by
  intro xs
  induction xs with
  | nil => intro i; simp [fidx.sq, pl.go]
  | cons x r ih =>
    intro i
    simp only [fidx.sq, pl.go]
    rcases Bool.eq_false_or_eq_true (has.sp v x) with c | c
    · have : (0 : Int) ≤ (i : Int) := Int.natCast_nonneg _
      simp only [c, cond_true, this, decide_true]
    · simp only [c, cond_false]
      rw [← ih (i + 1)]
      have e : i + (x :: r).length = i + 1 + r.length := by rw [List.length_cons]; omega
      rw [e]
theorem pl_any (v : Int) (xs : List Int) : decide (pl.sv v xs < (xs.length : Int)) = xs.any (has.sp v) := by
  have main : ∀ (xs : List Int) (i : Nat), decide (pl.go v xs i < i + xs.length) = xs.any (has.sp v) := by
    intro xs
    induction xs with
    | nil => intro i; simp [pl.go]
    | cons x r ih =>
      intro i
      simp only [pl.go, List.any_cons, List.length_cons]
      rcases Bool.eq_false_or_eq_true (has.sp v x) with c | c
      · simp only [c, cond_true, Bool.true_or, decide_eq_true_eq]; omega
      · simp only [c, cond_false, Bool.false_or]
        rw [← ih (i + 1)]
        exact decide_eq_decide.2 ⟨fun h => by omega, fun h => by omega⟩
  rw [← main xs 0]
  unfold pl.sv
  exact decide_eq_decide.2 ⟨fun h => by omega, fun h => by omega⟩

namespace slContains
def R : List AVal → Option (Bool × AVal × List Blk)
  | [.ro (.ints .i64 xs) m 1, .int .i64 v] => some (decide (m ≤ xs.length ∧ m ≤ 4611686018427387904), .bool ((xs.take m).any (has.sp v)), [])
  | _ => none
theorem go (xs : List Int) (m : Nat) (v : Int) :
  runFn Try.prog (orc [⟨75, slIndex.R⟩]) hd0 Dr.std none 0 (bodyOf Try.f58) 9 [4] [.ro (.ints .i64 xs) m 1, .int .i64 v] []
  = (bif decide (m ≤ xs.length ∧ m ≤ (4611686018427387904 : Nat)) && (true && (true && true) || true && true) then some (AVal.bool (decide ((0 : Int) ≤ fidx.sq (fun y => v == y) (List.take m xs) (0 : Nat))), []) else none) := by kernel_rfl
theorem run : ∀ args v new, R args = some (true, v, new) → ∃ fuel, runFn Try.prog (orc [⟨75, slIndex.R⟩]) hd0 Dr.std none fuel (bodyOf Try.f58) 9 [4] args [] = some (v, new) := by
  intro args v new h
  unfold R at h
  split at h
  · rename_i xs m v
    simp only [Option.some.injEq, Prod.mk.injEq, decide_eq_true_eq] at h
    obtain ⟨⟨h1, h2⟩, rfl, rfl⟩ := h
    refine ⟨0, ?_⟩
    rw [go]
    simp only [h1, h2, has_comm, fidx_ge, and_self, decide_true, decide_false, Bool.and_self, Bool.or_self, Bool.and_true, Bool.true_and, Bool.and_false, Bool.false_and, Bool.or_true, Bool.true_or, Bool.or_false, Bool.false_or, Bool.not_true, Bool.not_false, cond_true, cond_false]
  · cases h
theorem ok : EntOk Try.prog ⟨58, R⟩ :=
  ent_okA mixed (A := (orc [⟨75, slIndex.R⟩])) (orc_ok (by simp only [List.mem_cons, List.not_mem_nil, or_false, forall_eq_or_imp, forall_eq]; exact slIndex.ok)) Try.func58 (by kernel_rfl) (by kernel_rfl) (n := 9) (ts := [4]) (hd := hd0) (dr := Dr.std) (cut := none) (by kernel_rfl) (by kernel_rfl) (by kernel_rfl) run
end slContains

namespace hasTwice
def R : List AVal → Option (Bool × AVal × List Blk)
  | [.ro (.ints .i64 xs) m 1] => some (decide (m ≤ xs.length ∧ m ≤ 4611686018427387904), .bool (tws.sq [] (xs.take m)), [])
  | _ => none
def hd : Nat → Head := fun _ => ⟨[0, 2, 5, 6, 7], none⟩
noncomputable def L (f n : Nat) (s : State) := loopAt Try.prog (orc [⟨58, slContains.R⟩]) hd Dr.std 0 f (bodyOf Try.f90) 0 [true, false, true] (retK Try.prog [2] 0 none) n s
theorem start (xs : List Int) (m : Nat) (f : Nat) :
  runFn Try.prog (orc [⟨58, slContains.R⟩]) hd Dr.std none f (bodyOf Try.f90) 18 [2] [.ro (.ints .i64 xs) m 1] []
  = (L f f (mkS (18 : Nat) [((0 : Nat), AVal.ro (Cont.ints IntKind.i64 xs) m (1 : Nat)), ((2 : Nat), AVal.bool false), ((5 : Nat), AVal.ro (Cont.ints IntKind.i64 xs) m (1 : Nat)), ((6 : Nat), AVal.int IntKind.i64 (↑m : Int)), ((7 : Nat), AVal.int IntKind.i64 (0 : Int))] [])) := by kernel_rfl
theorem round (xs : List Int) (m : Nat) (i : Nat) (f n : Nat) :
  L f (n + 1) (mkS 18 [(0, .ro (.ints .i64 xs) m 1), (2, .bool false), (5, .ro (.ints .i64 xs) m 1), (6, .int .i64 m), (7, .int .i64 i)] [])
  = (bif decide ((↑i : Int) < (↑m : Int)) then bif true && (decide ((0 : Int) ≤ (↑i : Int)) && decide ((↑i : Int) < (↑m : Int))) then bif decide ((↑i : Int).toNat < xs.length) then bif true && (decide ((0 : Int) ≤ (↑i : Int)) && decide ((↑i : Int) ≤ (↑m : Int)) && true) then bif decide ((↑i : Int).toNat - (0 : Nat) ≤ (List.take ((↑i : Int).toNat - (0 : Nat)) (List.drop (nat_lit 0) xs)).length ∧ (↑i : Int).toNat - (0 : Nat) ≤ (4611686018427387904 : Nat)) && (true && (true && true) || true && true) then bif (List.take ((↑i : Int).toNat - (0 : Nat)) (List.take ((↑i : Int).toNat - (0 : Nat)) (List.drop (0 : Nat) xs))).any (has.sp (gz xs (↑i : Int).toNat)) then some (AVal.bool true, []) else L f n (mkS (18 : Nat) [((0 : Nat), AVal.ro (Cont.ints IntKind.i64 xs) m (1 : Nat)), ((2 : Nat), AVal.bool false), ((5 : Nat), AVal.ro (Cont.ints IntKind.i64 xs) m (1 : Nat)), ((6 : Nat), AVal.int IntKind.i64 (↑m : Int)), ((7 : Nat), AVal.int IntKind.i64 (IntKind.i64.wrap ((↑i : Int) + (1 : Int))))] []) else none else none else none else none else some (AVal.bool false, [])) := by kernel_rfl
theorem loop (xs : List Int) (m : Nat) (f : Nat) (hx : m ≤ xs.length) (hb : m ≤ 4611686018427387904) : ∀ (d i n : Nat) , i + d = m → d < n →
    L f n (mkS 18 [(0, .ro (.ints .i64 xs) m 1), (2, .bool false), (5, .ro (.ints .i64 xs) m 1), (6, .int .i64 m), (7, .int .i64 i)] []) = some (.bool (tws.sq (xs.take i) ((xs.take m).drop i)), []) := by
  intro d
  induction d with
  | zero =>
    intro i n  hi hn 
    obtain ⟨n, rfl⟩ : ∃ k, n = k + 1 := ⟨n - 1, by omega⟩
    obtain rfl : i = m := by omega
    rw [round]
    have e : (xs.take i).drop i = [] := by simp
    rw [e]
    simp [tws.sq]
  | succ d ih =>
    intro i n  hi hn 
    obtain ⟨n, rfl⟩ : ∃ k, n = k + 1 := ⟨n - 1, by omega⟩
    have h1 : i < m := by omega
    have h4 : (0 : Int) ≤ (i : Int) := Int.natCast_nonneg _
    have h5 : (i : Int) < (m : Int) := by omega
    have h2 : i < xs.length := by omega
    rw [round]
    rw [drop_take_cons hx h1]
    simp only [tws.sq]
    rw [take_snoc h2]
    have hr := ih (i + 1) n (by omega) (by omega)
    have a1 : i ≤ 4611686018427387904 := by omega
    have a2 : i ≤ xs.length := by omega
    have a3 : (i : Int) ≤ (m : Int) := by omega
    have a4 : i ≤ m := by omega
    simp only [h4, h5, h2, a1, a2, a3, a4, gz_eq h2, List.drop_zero, Nat.mul_one, Nat.zero_mul, Nat.sub_zero, List.length_take, Nat.min_eq_left a2, Nat.le_refl, List.take_take, Nat.min_self, and_self, decide_true, Bool.and_self, Bool.or_self, Bool.and_true, Bool.true_and, cond_true, Int.toNat_natCast, wrap_nat i (by omega)]
    cases (xs.take i).any (has.sp xs[i])
    · simpa using hr
    · simp
theorem run : ∀ args v new, R args = some (true, v, new) → ∃ fuel, runFn Try.prog (orc [⟨58, slContains.R⟩]) hd Dr.std none fuel (bodyOf Try.f90) 18 [2] args [] = some (v, new) := by
  intro args v new h
  unfold R at h
  split at h
  · rename_i xs m
    simp only [Option.some.injEq, Prod.mk.injEq, decide_eq_true_eq] at h
    obtain ⟨⟨h1, h2⟩, rfl, rfl⟩ := h
    refine ⟨m + 1, ?_⟩
    rw [start]
    have hl := loop xs m (m + 1) h1 h2 m 0 (m + 1) (by omega) (by omega)
    simpa using hl
  · cases h
theorem ok : EntOk Try.prog ⟨90, R⟩ :=
  ent_okA mixed (A := (orc [⟨58, slContains.R⟩])) (orc_ok (by simp only [List.mem_cons, List.not_mem_nil, or_false, forall_eq_or_imp, forall_eq]; exact slContains.ok)) Try.func90 (by kernel_rfl) (by kernel_rfl) (n := 18) (ts := [2]) (hd := hd) (dr := Dr.std) (cut := none) (by kernel_rfl) (by kernel_rfl) (by kernel_rfl) run
end hasTwice

namespace areWishes
def R : List AVal → Option (Bool × AVal × List Blk)
  | [.ro (.rows .i64 xs) m 1] => some (decide (m = xs.length ∧ m ≤ 4611686018427387904) && short.sp 4611686018427387904 xs, .bool (lo.sp m xs && (decide (1 ≤ (m : Int)) && decide ((m : Int) ≤ 8))), [])
  | _ => none
def hd : Nat → Head := fun _ => ⟨[2, 3, 8, 9, 10], none⟩
noncomputable def L (f n : Nat) (s : State) := loopAt Try.prog (orc [⟨74, areWithin.R⟩, ⟨90, hasTwice.R⟩, ⟨51, within.R⟩]) hd Dr.std 0 f (bodyOf Try.f79) 0 [true, true, false, true] (retK Try.prog [2] 0 none) n s
theorem start (xs : List (List Int)) (m : Nat) (f : Nat) :
  runFn Try.prog (orc [⟨74, areWithin.R⟩, ⟨90, hasTwice.R⟩, ⟨51, within.R⟩]) hd Dr.std none f (bodyOf Try.f79) 26 [2] [.ro (.rows .i64 xs) m 1] []
  = (L f f (mkS (26 : Nat) [((2 : Nat), AVal.bool false), ((3 : Nat), AVal.int IntKind.i64 (↑m : Int)), ((8 : Nat), AVal.ro (Cont.rows IntKind.i64 xs) m (1 : Nat)), ((9 : Nat), AVal.int IntKind.i64 (↑m : Int)), ((10 : Nat), AVal.int IntKind.i64 (0 : Int))] [])) := by kernel_rfl
theorem round (xs : List (List Int)) (m : Nat) (i : Nat) (f n : Nat) :
  L f (n + 1) (mkS 26 [(2, .bool false), (3, .int .i64 m), (8, .ro (.rows .i64 xs) m 1), (9, .int .i64 m), (10, .int .i64 i)] [])
  = (bif decide ((↑i : Int) < (↑m : Int)) then bif true && (decide ((0 : Int) ≤ (↑i : Int)) && decide ((↑i : Int) < (↑m : Int))) then bif decide ((↑i : Int).toNat < xs.length) then bif decide ((gr xs (↑i : Int).toNat).length ≤ (gr xs (↑i : Int).toNat).length ∧ (gr xs (↑i : Int).toNat).length ≤ (4611686018427387904 : Nat)) && (true && (true && (true && true)) || true && true) then bif !(List.take (gr xs (↑i : Int).toNat).length (gr xs (↑i : Int).toNat)).all fun x => decide ((0 : Int) ≤ x) && decide (x ≤ IntKind.i64.wrap ((↑m : Int) - (1 : Int))) then some (AVal.bool false, []) else bif decide ((gr xs (↑i : Int).toNat).length ≤ (gr xs (↑i : Int).toNat).length ∧ (gr xs (↑i : Int).toNat).length ≤ (4611686018427387904 : Nat)) && (true && true || true && true) then bif tws.sq [] (List.take (gr xs (↑i : Int).toNat).length (gr xs (↑i : Int).toNat)) then some (AVal.bool false, []) else L f n (mkS (26 : Nat) [((2 : Nat), AVal.bool false), ((3 : Nat), AVal.int IntKind.i64 (↑m : Int)), ((8 : Nat), AVal.ro (Cont.rows IntKind.i64 xs) m (1 : Nat)), ((9 : Nat), AVal.int IntKind.i64 (↑m : Int)), ((10 : Nat), AVal.int IntKind.i64 (IntKind.i64.wrap ((↑i : Int) + (1 : Int))))] []) else none else none else none else none else bif true && (true && true || true && true) then some (AVal.bool (decide ((1 : Int) ≤ (↑m : Int)) && decide ((↑m : Int) ≤ (8 : Int))), []) else none) := by kernel_rfl
theorem loop (xs : List (List Int)) (m : Nat) (f : Nat) (hm : m = xs.length) (hb : m ≤ 4611686018427387904) (hs : short.sp 4611686018427387904 xs = true) : ∀ (d i n : Nat) , i + d = m → d < n →
    L f n (mkS 26 [(2, .bool false), (3, .int .i64 m), (8, .ro (.rows .i64 xs) m 1), (9, .int .i64 m), (10, .int .i64 i)] []) = some (.bool ((xs.drop i).all (rk.sp m) && (decide (1 ≤ (m : Int)) && decide ((m : Int) ≤ 8))), []) := by
  intro d
  induction d with
  | zero =>
    intro i n  hi hn 
    obtain ⟨n, rfl⟩ : ∃ k, n = k + 1 := ⟨n - 1, by omega⟩
    obtain rfl : i = m := by omega
    rw [round]
    have e : xs.drop i = [] := List.drop_of_length_le (by omega)
    rw [e]
    simp
  | succ d ih =>
    intro i n  hi hn 
    obtain ⟨n, rfl⟩ : ∃ k, n = k + 1 := ⟨n - 1, by omega⟩
    have h1 : i < m := by omega
    have h4 : (0 : Int) ≤ (i : Int) := Int.natCast_nonneg _
    have h5 : (i : Int) < (m : Int) := by omega
    have h2 : i < xs.length := by omega
    rw [round]
    rw [List.drop_eq_getElem_cons h2, List.all_cons]
    have hr := ih (i + 1) n (by omega) (by omega)
    have hsi := short_get hs h2
    have w : IntKind.i64.wrap ((m : Int) - 1) = (m : Int) - 1 := IntWalk.i64_in _ (by omega)
    have hh : rk.sp (m : Int) xs[i] = (xs[i].all (iw.sp 0 ((m : Int) - 1)) && !tws.sq [] xs[i]) := uniq_tws _ _ _
    rw [hh]
    have ea : (xs[i].all fun x => decide (0 ≤ x) && decide (x ≤ (m : Int) - 1)) = xs[i].all (iw.sp 0 ((m : Int) - 1)) := rfl
    simp only [h4, h5, h2, hsi, w, ea, gr_eq h2, Nat.le_refl, List.take_length, and_self, decide_true, Bool.and_self, Bool.or_self, Bool.and_true, Bool.true_and, cond_true, Int.toNat_natCast, wrap_nat i (by omega)]
    generalize (xs[i].all (iw.sp 0 ((m : Int) - 1))) = b1
    generalize tws.sq [] xs[i] = b2
    cases b1
    · simp
    · cases b2
      · simpa using hr
      · simp
theorem run : ∀ args v new, R args = some (true, v, new) → ∃ fuel, runFn Try.prog (orc [⟨74, areWithin.R⟩, ⟨90, hasTwice.R⟩, ⟨51, within.R⟩]) hd Dr.std none fuel (bodyOf Try.f79) 26 [2] args [] = some (v, new) := by
  intro args v new h
  unfold R at h
  split at h
  · rename_i xs m
    simp only [Option.some.injEq, Prod.mk.injEq, Bool.and_eq_true, decide_eq_true_eq] at h
    obtain ⟨⟨⟨h1, h2⟩, h3⟩, rfl, rfl⟩ := h
    refine ⟨m + 1, ?_⟩
    rw [start]
    have hl := loop xs m (m + 1) h1 h2 h3 m 0 (m + 1) (by omega) (by omega)
    unfold lo.sp
    simpa using hl
  · cases h
theorem ok : EntOk Try.prog ⟨79, R⟩ :=
  ent_okA mixed (A := (orc [⟨74, areWithin.R⟩, ⟨90, hasTwice.R⟩, ⟨51, within.R⟩])) (orc_ok (by simp only [List.mem_cons, List.not_mem_nil, or_false, forall_eq_or_imp, forall_eq]; exact ⟨areWithin.ok, hasTwice.ok, within.ok⟩)) Try.func79 (by kernel_rfl) (by kernel_rfl) (n := 26) (ts := [2]) (hd := hd) (dr := Dr.std) (cut := none) (by kernel_rfl) (by kernel_rfl) (by kernel_rfl) run
end areWishes

namespace iValidWishes
def R : List AVal → Option (Bool × AVal × List Blk)
  | [.agg [.ro (.rows .i64 ls) m 1, .ro (.rows .i64 rs) k 1]] => some (decide (m = ls.length ∧ m ≤ 4611686018427387904 ∧ k = rs.length ∧ k ≤ 4611686018427387904) && (short.sp 4611686018427387904 ls && short.sp 4611686018427387904 rs), .bool (vw.sp ls rs), [])
  | _ => none
theorem go (ls rs : List (List Int)) (m k : Nat) :
  runFn Try.prog (orc [⟨79, areWishes.R⟩]) hd0 Dr.std (some 0) 0 (bodyOf Try.f64) 20 [2] [.agg [.ro (.rows .i64 ls) m 1, .ro (.rows .i64 rs) k 1]] []
  = (bif true && true then bif true && true then bif (↑m : Int) == (↑k : Int) then bif true && true then bif decide (m = ls.length ∧ m ≤ (4611686018427387904 : Nat)) && short.sp (4611686018427387904 : Nat) ls && (true && true || true && true) then bif lo.sp (↑m : Int) ls && (decide ((1 : Int) ≤ (↑m : Int)) && decide ((↑m : Int) ≤ (8 : Int))) then bif true && true then bif decide (k = rs.length ∧ k ≤ (4611686018427387904 : Nat)) && short.sp (4611686018427387904 : Nat) rs && (true && true || true && true) then some (AVal.bool (lo.sp (↑k : Int) rs && (decide ((1 : Int) ≤ (↑k : Int)) && decide ((↑k : Int) ≤ (8 : Int)))), []) else none else none else some (AVal.bool false, []) else none else none else some (AVal.bool false, []) else none else none) := by kernel_rfl
theorem run : ∀ args v new, R args = some (true, v, new) → ∃ fuel, runFn Try.prog (orc [⟨79, areWishes.R⟩]) hd0 Dr.std (some 0) fuel (bodyOf Try.f64) 20 [2] args [] = some (v, new) := by
  intro args v new h
  unfold R at h
  split at h
  · rename_i ls m rs k
    simp only [Option.some.injEq, Prod.mk.injEq, Bool.and_eq_true, decide_eq_true_eq] at h
    obtain ⟨⟨⟨rfl, h1, rfl, h2⟩, h3, h4⟩, rfl, rfl⟩ := h
    refine ⟨0, ?_⟩
    rw [go]
    unfold vw.sp
    have e : ∀ a b : Int, (a == b) = decide (a = b) := fun _ _ => rfl
    simp only [h1, h2, h3, h4, e, and_self, decide_true, decide_false, Bool.and_self, Bool.or_self, Bool.and_true, Bool.true_and, Bool.and_false, Bool.false_and, Bool.or_true, Bool.true_or, Bool.or_false, Bool.false_or, Bool.not_true, Bool.not_false, cond_true, cond_false]
    generalize (lo.sp (ls.length : Int) ls && (decide (1 ≤ (ls.length : Int)) && decide ((ls.length : Int) ≤ 8))) = b
    generalize (lo.sp (rs.length : Int) rs && (decide (1 ≤ (rs.length : Int)) && decide ((rs.length : Int) ≤ 8))) = c
    by_cases hq : (ls.length : Int) = (rs.length : Int)
    · simp only [hq, decide_true, cond_true, Bool.true_and] at *
      cases b <;> cases c <;> rfl
    · simp only [hq, decide_false, cond_false, Bool.false_and]
  · cases h
theorem ok : EntOk Try.prog ⟨64, R⟩ :=
  ent_okA mixed (A := (orc [⟨79, areWishes.R⟩])) (orc_ok (by simp only [List.mem_cons, List.not_mem_nil, or_false, forall_eq_or_imp, forall_eq]; exact areWishes.ok)) Try.func64 (by kernel_rfl) (by kernel_rfl) (n := 20) (ts := [2]) (hd := hd0) (dr := Dr.std) (cut := (some 0)) (by kernel_rfl) (by kernel_rfl) (by kernel_rfl) run
end iValidWishes

namespace iCount
def R : List AVal → Option (Bool × AVal × List Blk)
  | [.agg [.ro (.rows .i64 ls) m 1, .ro (.rows .i64 rs) k 1]] => some (true, .int .i64 (m : Int), [])
  | _ => none
theorem go (ls rs : List (List Int)) (m k : Nat) :
  runFn Try.prog (orc []) hd0 Dr.std (some 0) 0 (bodyOf Try.f81) 6 [2] [.agg [.ro (.rows .i64 ls) m 1, .ro (.rows .i64 rs) k 1]] []
  = (bif true && true then some (AVal.int IntKind.i64 (↑m : Int), []) else none) := by kernel_rfl
theorem run : ∀ args v new, R args = some (true, v, new) → ∃ fuel, runFn Try.prog (orc []) hd0 Dr.std (some 0) fuel (bodyOf Try.f81) 6 [2] args [] = some (v, new) := by
  intro args v new h
  unfold R at h
  split at h
  · rename_i ls m rs k
    simp only [Option.some.injEq, Prod.mk.injEq] at h
    obtain ⟨_, rfl, rfl⟩ := h
    refine ⟨0, ?_⟩
    rw [go]
    try rfl
  · cases h
theorem ok : EntOk Try.prog ⟨81, R⟩ :=
  ent_okA mixed (A := (orc [])) (orc_ok (by simp)) Try.func81 (by kernel_rfl) (by kernel_rfl) (n := 6) (ts := [2]) (hd := hd0) (dr := Dr.std) (cut := (some 0)) (by kernel_rfl) (by kernel_rfl) (by kernel_rfl) run
end iCount

namespace iPlace
def R : List AVal → Option (Bool × AVal × List Blk)
  | [.ro (.ints .i64 xs) m 1, .int .i64 v] => some (decide (m = xs.length ∧ m ≤ 4611686018427387904), .int .i64 (pl.sv v xs), [])
  | _ => none
theorem go (xs : List Int) (m : Nat) (v : Int) :
  runFn Try.prog (orc [⟨75, slIndex.R⟩]) hd0 Dr.std none 0 (bodyOf Try.f91) 14 [4] [.ro (.ints .i64 xs) m 1, .int .i64 v] []
  = (bif decide (m ≤ xs.length ∧ m ≤ (4611686018427387904 : Nat)) && (true && (true && true) || true && true) then bif decide ((0 : Int) ≤ fidx.sq (fun y => v == y) (List.take m xs) (0 : Nat)) then some (AVal.int IntKind.i64 (fidx.sq (fun y => v == y) (List.take m xs) (0 : Nat)), []) else some (AVal.int IntKind.i64 (↑m : Int), []) else none) := by kernel_rfl
theorem run : ∀ args v new, R args = some (true, v, new) → ∃ fuel, runFn Try.prog (orc [⟨75, slIndex.R⟩]) hd0 Dr.std none fuel (bodyOf Try.f91) 14 [4] args [] = some (v, new) := by
  intro args v new h
  unfold R at h
  split at h
  · rename_i xs m v
    simp only [Option.some.injEq, Prod.mk.injEq, decide_eq_true_eq] at h
    obtain ⟨⟨rfl, h1⟩, rfl, rfl⟩ := h
    refine ⟨0, ?_⟩
    rw [go]
    have hp := fidx_pl v xs 0
    rw [Nat.zero_add] at hp
    unfold pl.sv
    rw [← hp]
    simp only [h1, has_comm, List.take_length, Nat.le_refl, and_self, decide_true, decide_false, Bool.and_self, Bool.or_self, Bool.and_true, Bool.true_and, Bool.and_false, Bool.false_and, Bool.or_true, Bool.true_or, Bool.or_false, Bool.false_or, Bool.not_true, Bool.not_false, cond_true, cond_false]
    by_cases c : 0 ≤ fidx.sq (has.sp v) xs 0
    · simp only [c, and_self, decide_true, decide_false, Bool.and_self, Bool.or_self, Bool.and_true, Bool.true_and, Bool.and_false, Bool.false_and, Bool.or_true, Bool.true_or, Bool.or_false, Bool.false_or, Bool.not_true, Bool.not_false, cond_true, cond_false]
    · simp only [c, and_self, decide_true, decide_false, Bool.and_self, Bool.or_self, Bool.and_true, Bool.true_and, Bool.and_false, Bool.false_and, Bool.or_true, Bool.true_or, Bool.or_false, Bool.false_or, Bool.not_true, Bool.not_false, cond_true, cond_false]
  · cases h
theorem ok : EntOk Try.prog ⟨91, R⟩ :=
  ent_okA mixed (A := (orc [⟨75, slIndex.R⟩])) (orc_ok (by simp only [List.mem_cons, List.not_mem_nil, or_false, forall_eq_or_imp, forall_eq]; exact slIndex.ok)) Try.func91 (by kernel_rfl) (by kernel_rfl) (n := 14) (ts := [4]) (hd := hd0) (dr := Dr.std) (cut := none) (by kernel_rfl) (by kernel_rfl) (by kernel_rfl) run
end iPlace

namespace iDearer
def R : List AVal → Option (Bool × AVal × List Blk)
  | [.ro (.ints .i64 xs) m 1, .int .i64 a, .int .i64 b] => some (decide (m = xs.length ∧ m ≤ 4611686018427387904), .bool (decide (pl.sv a xs < pl.sv b xs)), [])
  | _ => none
theorem go (xs : List Int) (m : Nat) (a b : Int) :
  runFn Try.prog (orc [⟨91, iPlace.R⟩]) hd0 Dr.std none 0 (bodyOf Try.f85) 14 [6] [.ro (.ints .i64 xs) m 1, .int .i64 a, .int .i64 b] []
  = (bif decide (m = xs.length ∧ m ≤ (4611686018427387904 : Nat)) && (true && (true && true) || true && true) then bif decide (m = xs.length ∧ m ≤ (4611686018427387904 : Nat)) && (true && (true && true) || true && true) then some (AVal.bool (decide (pl.sv a xs < pl.sv b xs)), []) else none else none) := by kernel_rfl
theorem run : ∀ args v new, R args = some (true, v, new) → ∃ fuel, runFn Try.prog (orc [⟨91, iPlace.R⟩]) hd0 Dr.std none fuel (bodyOf Try.f85) 14 [6] args [] = some (v, new) := by
  intro args v new h
  unfold R at h
  split at h
  · rename_i xs m a b
    simp only [Option.some.injEq, Prod.mk.injEq, decide_eq_true_eq] at h
    obtain ⟨⟨rfl, h1⟩, rfl, rfl⟩ := h
    refine ⟨0, ?_⟩
    rw [go]
    simp only [h1, and_self, decide_true, decide_false, Bool.and_self, Bool.or_self, Bool.and_true, Bool.true_and, Bool.and_false, Bool.false_and, Bool.or_true, Bool.true_or, Bool.or_false, Bool.false_or, Bool.not_true, Bool.not_false, cond_true, cond_false]
  · cases h
theorem ok : EntOk Try.prog ⟨85, R⟩ :=
  ent_okA mixed (A := (orc [⟨91, iPlace.R⟩])) (orc_ok (by simp only [List.mem_cons, List.not_mem_nil, or_false, forall_eq_or_imp, forall_eq]; exact iPlace.ok)) Try.func85 (by kernel_rfl) (by kernel_rfl) (n := 14) (ts := [6]) (hd := hd0) (dr := Dr.std) (cut := none) (by kernel_rfl) (by kernel_rfl) (by kernel_rfl) run
end iDearer

end Go.Proofs.Ythecninmmojkgaa.Ab
