/-
  Functions: lists of lists.
-/
import Derived.Test.YthecninmmojkgaaFnL
import Derived.Test.YthecninmmojkgaaFnB
import Derived.Test.YthecninmmojkgaaFnD
namespace Go.Proofs.Ythecninmmojkgaa.Ab
open Go
set_option linter.unusedVariables false
set_option linter.unusedSimpArgs false
set_option maxRecDepth 100000

theorem gr_eq {xs : List (List Int)} {i : Nat} (h : i < xs.length) : gr xs i = xs[i] := by simp [gr, h]
theorem drop_take_consR {xs : List (List Int)} {m i : Nat} (hx : m ≤ xs.length) (hi : i < m) : (xs.take m).drop i = xs[i]'(by omega) :: (xs.take m).drop (i + 1) := by
  rw [List.drop_eq_getElem_cons (by simp; omega)]
  congr 1
  simp
namespace toInt64L
def R := layR toInt64S.R
theorem ok : EntOk Try.prog ⟨39, R⟩ := toInt64S.ok.lay
end toInt64L
/-- Rows within a length. -/
def short.sp (b : Nat) (xs : List (List Int)) : Bool := xs.all fun r => decide (r.length ≤ b)
theorem short_get {b : Nat} {xs : List (List Int)} (h : short.sp b xs = true) {i : Nat} (hi : i < xs.length) : xs[i].length ≤ b := by
  simp only [short.sp, List.all_eq_true, decide_eq_true_eq] at h
  exact h _ (List.getElem_mem hi)
def szrows.sq : List (List Int) → Int → Int
  | [], l => l
  | r :: t, l => bif decide (l - (r.length : Int) < 0) then -1 else szrows.sq t (l - (r.length : Int))
theorem szrows_short : ∀ (xs : List (List Int)) (l : Int), 0 ≤ szrows.sq xs l → ∀ r ∈ xs, (r.length : Int) ≤ l := by
  intro xs
  induction xs with
  | nil => intro l h r hr; cases hr
  | cons x t ih =>
    intro l h r hr
    simp only [szrows.sq] at h
    by_cases c : l - (x.length : Int) < 0
    · simp [c] at h
    · simp only [c, decide_false, cond_false] at h
      rcases List.mem_cons.1 hr with rfl | hr
      · omega
      · have := ih _ h r hr; omega

namespace szInt64SS
def R : List AVal → Option (Bool × AVal × List Blk)
  | [.ro (.rows .i64 xs) m 1, .int .i64 l] => some (decide (m ≤ xs.length ∧ m ≤ 9223372036854775807 ∧ 0 ≤ l ∧ l ≤ 4611686018427387904) && short.sp 9223372036854775807 xs, .int .i64 (bif decide (l - (m : Int) < 0) then -1 else szrows.sq (xs.take m) (l - (m : Int))), [])
  | _ => none
def hd : Nat → Head := fun _ => ⟨[0, 1, 4, 5], none⟩
noncomputable def L (f n : Nat) (s : State) := loopAt Try.prog (orc [⟨36, szInt64S.R⟩]) hd Dr.std 0 f (bodyOf Try.f15) 0 [true, true, true, false, true] (retK Try.prog [4] 0 none) n s
theorem start (xs : List (List Int)) (m : Nat) (l : Int) (f : Nat) :
  runFn Try.prog (orc [⟨36, szInt64S.R⟩]) hd Dr.std none f (bodyOf Try.f15) 27 [4] [.ro (.rows .i64 xs) m 1, .int .i64 l] []
  = (bif decide (IntKind.i64.wrap (l - (↑m : Int)) < (0 : Int)) then some (AVal.int IntKind.i64 (-1 : Int), []) else L f f (mkS (27 : Nat) [((0 : Nat), AVal.ro (Cont.rows IntKind.i64 xs) m (1 : Nat)), ((1 : Nat), AVal.int IntKind.i64 (IntKind.i64.wrap (l - (↑m : Int)))), ((4 : Nat), AVal.int IntKind.i64 (0 : Int)), ((5 : Nat), AVal.int IntKind.i64 (0 : Int))] [])) := by kernel_rfl
theorem round (xs : List (List Int)) (m i : Nat) (l : Int) (f n : Nat) :
  L f (n + 1) (mkS 27 [(0, .ro (.rows .i64 xs) m 1), (1, .int .i64 l), (4, .int .i64 0), (5, .int .i64 i)] [])
  = (bif decide ((↑i : Int) < (↑m : Int)) then bif true && (decide ((0 : Int) ≤ (↑i : Int)) && decide ((↑i : Int) < (↑m : Int))) then bif decide ((↑i : Int).toNat < xs.length) then bif decide ((gr xs (↑i : Int).toNat).length ≤ (9223372036854775807 : Nat) ∧ (0 : Int) ≤ l ∧ l ≤ (9223372036854775807 : Int)) && (true && (true && true) || true && true) then bif decide ((bif decide (l - (↑(gr xs (↑i : Int).toNat).length : Int) < (0 : Int)) then (-1 : Int) else l - (↑(gr xs (↑i : Int).toNat).length : Int)) < (0 : Int)) then some (AVal.int IntKind.i64 (-1 : Int), []) else L f n (mkS (27 : Nat) [((0 : Nat), AVal.ro (Cont.rows IntKind.i64 xs) m (1 : Nat)), ((1 : Nat), AVal.int IntKind.i64 (bif decide (l - (↑(gr xs (↑i : Int).toNat).length : Int) < (0 : Int)) then (-1 : Int) else l - (↑(gr xs (↑i : Int).toNat).length : Int))), ((4 : Nat), AVal.int IntKind.i64 (0 : Int)), ((5 : Nat), AVal.int IntKind.i64 (IntKind.i64.wrap ((↑i : Int) + (1 : Int))))] []) else none else none else none else some (AVal.int IntKind.i64 l, [])) := by kernel_rfl
theorem loop (xs : List (List Int)) (m : Nat) (f : Nat) (hx : m ≤ xs.length) (hb : m ≤ 4611686018427387904) (hs : short.sp 9223372036854775807 xs = true) : ∀ (d i n : Nat) (l : Int), i + d = m → d < n → 0 ≤ l → l ≤ 9223372036854775807 →
    L f n (mkS 27 [(0, .ro (.rows .i64 xs) m 1), (1, .int .i64 l), (4, .int .i64 0), (5, .int .i64 i)] []) = some (.int .i64 (szrows.sq ((xs.take m).drop i) l), []) := by
  intro d
  induction d with
  | zero =>
    intro i n l hi hn hl0 hl1
    obtain ⟨n, rfl⟩ : ∃ k, n = k + 1 := ⟨n - 1, by omega⟩
    obtain rfl : i = m := by omega
    rw [round]
    have e : (xs.take i).drop i = [] := by simp
    rw [e]
    simp [szrows.sq]
  | succ d ih =>
    intro i n l hi hn hl0 hl1
    obtain ⟨n, rfl⟩ : ∃ k, n = k + 1 := ⟨n - 1, by omega⟩
    have h1 : i < m := by omega
    have h4 : (0 : Int) ≤ (i : Int) := Int.natCast_nonneg _
    have h5 : (i : Int) < (m : Int) := by omega
    have h2 : i < xs.length := by omega
    rw [round]
    rw [drop_take_consR hx h1]
    have hsi := short_get hs h2
    simp only [szrows.sq]
    simp only [h4, h5, h2, gr_eq h2, hl0, hl1, hsi, and_self, decide_true, Bool.and_self, Bool.or_self, Bool.and_true, Bool.true_and, cond_true, Int.toNat_natCast, wrap_nat i (by omega)]
    by_cases c : l - (xs[i].length : Int) < 0
    · simp [c]
    · simp only [c, decide_false, cond_false]
      exact ih (i + 1) n _ (by omega) (by omega) (by omega) (by omega)
theorem run : ∀ args v new, R args = some (true, v, new) → ∃ fuel, runFn Try.prog (orc [⟨36, szInt64S.R⟩]) hd Dr.std none fuel (bodyOf Try.f15) 27 [4] args [] = some (v, new) := by
  intro args v new h
  unfold R at h
  split at h
  · rename_i xs m l
    simp only [Option.some.injEq, Prod.mk.injEq, Bool.and_eq_true, decide_eq_true_eq] at h
    obtain ⟨⟨⟨h1, h2, h3, h4⟩, h5⟩, rfl, rfl⟩ := h
    refine ⟨m + 1, ?_⟩
    rw [start]
    have e : IntKind.i64.wrap (l - (m : Int)) = l - (m : Int) := IntWalk.i64_in _ (by omega)
    rw [e]
    by_cases c : l - (m : Int) < 0
    · simp [c]
    · have hl := loop xs m (m + 1) h1 (by omega) h5 m 0 (m + 1) (l - (m : Int)) (by omega) (by omega) (by omega) (by omega)
      simp only [c, decide_false, cond_false]
      simpa using hl
  · cases h
theorem ok : EntOk Try.prog ⟨15, R⟩ :=
  ent_okA mixed (A := (orc [⟨36, szInt64S.R⟩])) (orc_ok (by simp only [List.mem_cons, List.not_mem_nil, or_false, forall_eq_or_imp, forall_eq]; exact szInt64S.ok)) Try.func15 (by kernel_rfl) (by kernel_rfl) (n := 27) (ts := [4]) (hd := hd) (dr := Dr.std) (cut := none) (by kernel_rfl) (by kernel_rfl) (by kernel_rfl) run
end szInt64SS

namespace toInt64SS
def dr : Nat → Dr := Dr.std
def R : List AVal → Option (Bool × AVal × List Blk)
  | [.ro (.rows .i64 xs) m 1] => some (decide (m ≤ xs.length ∧ m ≤ 1048576) && short.sp 1048576 (xs.take m), .own 0 0 m 0 1, [⟨.typ (.rows .i64 (xs.take m)), 0⟩])
  | _ => none
def hd : Nat → Head := fun _ => ⟨[0, 3, 4], some 1⟩
noncomputable def L (f n : Nat) (s : State) := loopAt Try.prog (orc [⟨39, toInt64L.R⟩]) hd dr 0 f (bodyOf Try.f17) 0 [true, true, false, true] (retK Try.prog [2] 0 (some 1)) n s
theorem start (xs : List (List Int)) (m f : Nat) :
  runFn Try.prog (orc [⟨39, toInt64L.R⟩]) hd dr (some 1) f (bodyOf Try.f17) 23 [2] [.ro (.rows .i64 xs) m 1] []
  = (bif (1 : Nat) == (1 : Nat) && ((↑m : Int) == (↑m : Int) && (decide ((0 : Int) ≤ (↑m : Int)) && (decide ((↑m : Int) * (24 : Int) ≤ (140737488355328 : Int)) && decide ((↑m : Int) ≤ (4611686018427387904 : Int))))) then L f f (mkS (23 : Nat) [((0 : Nat), AVal.ro (Cont.rows IntKind.i64 xs) m (1 : Nat)), ((3 : Nat), AVal.own (0 : Nat) (0 : Nat) (↑m : Int).toNat (0 : Nat) (1 : Nat)), ((4 : Nat), AVal.int IntKind.i64 (0 : Int))] [{ c := BC.typ (Cont.rows IntKind.i64 (List.replicate (↑m : Int).toNat [])), ver := (0 : Nat) }]) else none) := by kernel_rfl
theorem round (xs ys : List (List Int)) (m i : Nat) (f n : Nat) :
  L f (n + 1) (mkS 23 [(0, .ro (.rows .i64 xs) m 1), (3, .own 0 0 m 0 1), (4, .int .i64 i)] [⟨.typ (.rows .i64 ys), 0⟩])
  = (bif decide ((↑i : Int) < (↑m : Int)) then bif true && (decide ((0 : Int) ≤ (↑i : Int)) && decide ((↑i : Int) < (↑m : Int))) then bif decide ((↑i : Int).toNat < xs.length) then bif decide ((gr xs (↑i : Int).toNat).length ≤ (gr xs (↑i : Int).toNat).length ∧ (gr xs (↑i : Int).toNat).length ≤ (1048576 : Nat)) && (true && true || false && true) then bif true && (decide ((0 : Int) ≤ (↑i : Int)) && decide ((↑i : Int) < (↑m : Int))) then bif true && (true && (true && decide ((↑i : Int).toNat < ys.length) && true)) then L f n (mkS (23 : Nat) [((0 : Nat), AVal.ro (Cont.rows IntKind.i64 xs) m (1 : Nat)), ((3 : Nat), AVal.own (0 : Nat) (0 : Nat) m (0 : Nat) (1 : Nat)), ((4 : Nat), AVal.int IntKind.i64 (IntKind.i64.wrap ((↑i : Int) + (1 : Int))))] [{ c := BC.typ (Cont.rows IntKind.i64 (ys.set (↑i : Int).toNat (List.take (gr xs (↑i : Int).toNat).length (List.take (gr xs (↑i : Int).toNat).length (gr xs (↑i : Int).toNat))))), ver := (0 : Nat) }]) else none else none else none else none else none else some (AVal.own (0 : Nat) (0 : Nat) m (0 : Nat) (1 : Nat), [{ c := BC.typ (Cont.rows IntKind.i64 ys), ver := (0 : Nat) }])) := by kernel_rfl
theorem loop (xs : List (List Int)) (m : Nat) (f : Nat) (hx : m ≤ xs.length) (hb : m ≤ 1048576) (hs : short.sp 1048576 (xs.take m) = true) : ∀ (d i n : Nat) (ys : List (List Int)), i + d = m → d < n → ys.length = m → ys.take i = xs.take i →
    L f n (mkS 23 [(0, .ro (.rows .i64 xs) m 1), (3, .own 0 0 m 0 1), (4, .int .i64 i)] [⟨.typ (.rows .i64 ys), 0⟩]) = some (.own 0 0 m 0 1, [⟨.typ (.rows .i64 (xs.take m)), 0⟩]) := by
  intro d
  induction d with
  | zero =>
    intro i n ys hi hn hl ht
    obtain ⟨n, rfl⟩ : ∃ k, n = k + 1 := ⟨n - 1, by omega⟩
    obtain rfl : i = m := by omega
    rw [round]
    have : ys = xs.take i := by rw [← ht, List.take_of_length_le (by omega)]
    simp [this]
  | succ d ih =>
    intro i n ys hi hn hl ht
    obtain ⟨n, rfl⟩ : ∃ k, n = k + 1 := ⟨n - 1, by omega⟩
    have h1 : i < m := by omega
    have h4 : (0 : Int) ≤ (i : Int) := Int.natCast_nonneg _
    have h5 : (i : Int) < (m : Int) := by omega
    have h2 : i < xs.length := by omega
    have h3 : i < ys.length := by omega
    rw [round]
    have hsi : xs[i].length ≤ 1048576 := by
      have := short_get hs (i := i) (by simp; omega)
      simpa using this
    simp only [h4, h5, h2, h3, gr_eq h2, hsi, List.take_length, Nat.le_refl, and_self, decide_true, Bool.and_self, Bool.or_self, Bool.and_true, Bool.true_and, Bool.or_true, beq_self_eq_true, cond_true, Int.toNat_natCast, wrap_nat i (by omega)]
    refine ih (i + 1) n _ (by omega) (by omega) (by simpa using hl) ?_
    rw [List.take_add_one, List.take_add_one, List.take_set_of_le (Nat.le_refl _), ht]
    simp [h2, h3]
theorem run : ∀ args v new, R args = some (true, v, new) → ∃ fuel, runFn Try.prog (orc [⟨39, toInt64L.R⟩]) hd dr (some 1) fuel (bodyOf Try.f17) 23 [2] args [] = some (v, new) := by
  intro args v new h
  unfold R at h
  split at h
  · rename_i xs m
    simp only [Option.some.injEq, Prod.mk.injEq, Bool.and_eq_true, decide_eq_true_eq] at h
    obtain ⟨⟨⟨h1, h2⟩, h3⟩, rfl, rfl⟩ := h
    refine ⟨m + 1, ?_⟩
    rw [start]
    have c1 : (0 : Int) ≤ (m : Int) := Int.natCast_nonneg _
    have c2 : (m : Int) * 24 ≤ 140737488355328 := by omega
    have c3 : (m : Int) ≤ 4611686018427387904 := by omega
    have hl := loop xs m (m + 1) h1 h2 h3 m 0 (m + 1) (List.replicate m []) (by omega) (by omega) (by simp) (by simp)
    simp [c1, c2, c3]
    exact hl
  · cases h
theorem ok : EntOk Try.prog ⟨17, R⟩ :=
  ent_okA mixed (A := (orc [⟨39, toInt64L.R⟩])) (orc_ok (by simp only [List.mem_cons, List.not_mem_nil, or_false, forall_eq_or_imp, forall_eq]; exact toInt64L.ok)) Try.func17 (by kernel_rfl) (by kernel_rfl) (n := 23) (ts := [2]) (hd := hd) (dr := dr) (cut := (some 1)) (by kernel_rfl) (by kernel_rfl) (by kernel_rfl) run
end toInt64SS

namespace eqInt64SS
def dr : Nat → Dr := Dr.std
def R : List AVal → Option (Bool × AVal × List Blk)
  | [.ro (.rows .i64 xs) m 1, .ro (.rows .i64 ys) k 1] => some (decide (m ≤ xs.length ∧ k ≤ ys.length ∧ m ≤ 4611686018427387904 ∧ m = k ∧ xs.take m = ys.take k) && short.sp 4611686018427387904 (xs.take m), .bool true, [])
  | _ => none
def hd : Nat → Head := fun _ => ⟨[0, 1, 4, 5], none⟩
noncomputable def L (f n : Nat) (s : State) := loopAt Try.prog (orc [⟨10, eqInt64S.R⟩]) hd dr 0 f (bodyOf Try.f19) 0 [true, true, false, true] (retK Try.prog [4] 0 none) n s
theorem start (xs ys : List (List Int)) (m f : Nat) :
  runFn Try.prog (orc [⟨10, eqInt64S.R⟩]) hd dr none f (bodyOf Try.f19) 27 [4] [.ro (.rows .i64 xs) m 1, .ro (.rows .i64 ys) m 1] []
  = (bif (↑m : Int) != (↑m : Int) then some (AVal.bool false, []) else L f f (mkS (27 : Nat) [((0 : Nat), AVal.ro (Cont.rows IntKind.i64 xs) m (1 : Nat)), ((1 : Nat), AVal.ro (Cont.rows IntKind.i64 ys) m (1 : Nat)), ((4 : Nat), AVal.bool false), ((5 : Nat), AVal.int IntKind.i64 (0 : Int))] [])) := by kernel_rfl
theorem round (xs ys : List (List Int)) (m i : Nat) (f n : Nat) :
  L f (n + 1) (mkS 27 [(0, .ro (.rows .i64 xs) m 1), (1, .ro (.rows .i64 ys) m 1), (4, .bool false), (5, .int .i64 i)] [])
  = (bif decide ((↑i : Int) < (↑m : Int)) then bif true && (decide ((0 : Int) ≤ (↑i : Int)) && decide ((↑i : Int) < (↑m : Int))) then bif decide ((↑i : Int).toNat < xs.length) then bif true && (decide ((0 : Int) ≤ (↑i : Int)) && decide ((↑i : Int) < (↑m : Int))) then bif decide ((↑i : Int).toNat < ys.length) then bif decide ((gr xs (↑i : Int).toNat).length ≤ (gr xs (↑i : Int).toNat).length ∧ (gr ys (↑i : Int).toNat).length ≤ (gr ys (↑i : Int).toNat).length ∧ (gr xs (↑i : Int).toNat).length ≤ (4611686018427387904 : Nat)) && (true && (true && true) || true && true) then bif !decide (List.take (gr xs (↑i : Int).toNat).length (gr xs (↑i : Int).toNat) = List.take (gr ys (↑i : Int).toNat).length (gr ys (↑i : Int).toNat)) then some (AVal.bool false, []) else L f n (mkS (27 : Nat) [((0 : Nat), AVal.ro (Cont.rows IntKind.i64 xs) m (1 : Nat)), ((1 : Nat), AVal.ro (Cont.rows IntKind.i64 ys) m (1 : Nat)), ((4 : Nat), AVal.bool false), ((5 : Nat), AVal.int IntKind.i64 (IntKind.i64.wrap ((↑i : Int) + (1 : Int))))] []) else none else none else none else none else none else some (AVal.bool true, [])) := by kernel_rfl
theorem loop (xs ys : List (List Int)) (m : Nat) (f : Nat) (hx : m ≤ xs.length) (hy : m ≤ ys.length) (he : xs.take m = ys.take m) (hb : m ≤ 4611686018427387904) (hs : short.sp 4611686018427387904 (xs.take m) = true) : ∀ (d i n : Nat) , i + d = m → d < n →
    L f n (mkS 27 [(0, .ro (.rows .i64 xs) m 1), (1, .ro (.rows .i64 ys) m 1), (4, .bool false), (5, .int .i64 i)] []) = some (.bool true, []) := by
  intro d
  induction d with
  | zero =>
    intro i n  hi hn 
    obtain ⟨n, rfl⟩ : ∃ k, n = k + 1 := ⟨n - 1, by omega⟩
    obtain rfl : i = m := by omega
    rw [round]
    simp
  | succ d ih =>
    intro i n  hi hn 
    obtain ⟨n, rfl⟩ : ∃ k, n = k + 1 := ⟨n - 1, by omega⟩
    have h1 : i < m := by omega
    have h4 : (0 : Int) ≤ (i : Int) := Int.natCast_nonneg _
    have h5 : (i : Int) < (m : Int) := by omega
    have h2 : i < xs.length := by omega
    have h3 : i < ys.length := by omega
    rw [round]
    have e : ys[i] = xs[i] := by
      have := congrArg (fun l => l[i]?) he
      simp only [List.getElem?_take, h1, if_true, List.getElem?_eq_getElem h2, List.getElem?_eq_getElem h3, Option.some.injEq] at this
      exact this.symm
    have hsi : xs[i].length ≤ 4611686018427387904 := by
      have := short_get hs (i := i) (by simp; omega)
      simpa using this
    simp only [h4, h5, h2, h3, gr_eq h2, gr_eq h3, e, hsi, Nat.le_refl, and_self, decide_true, Bool.and_self, Bool.or_self, Bool.and_true, Bool.true_and, Bool.or_true, Bool.not_true, cond_true, cond_false, Int.toNat_natCast, wrap_nat i (by omega)]
    exact ih (i + 1) n (by omega) (by omega)
theorem run : ∀ args v new, R args = some (true, v, new) → ∃ fuel, runFn Try.prog (orc [⟨10, eqInt64S.R⟩]) hd dr none fuel (bodyOf Try.f19) 27 [4] args [] = some (v, new) := by
  intro args v new h
  unfold R at h
  split at h
  · rename_i xs m ys k
    simp only [Option.some.injEq, Prod.mk.injEq, Bool.and_eq_true, decide_eq_true_eq] at h
    obtain ⟨⟨⟨h1, h2, h3, rfl, h4⟩, h5⟩, rfl, rfl⟩ := h
    refine ⟨m + 1, ?_⟩
    rw [start]
    have hl := loop xs ys m (m + 1) h1 h2 h4 h3 h5 m 0 (m + 1) (by omega) (by omega)
    simpa using hl
  · cases h
theorem ok : EntOk Try.prog ⟨19, R⟩ :=
  ent_okA mixed (A := (orc [⟨10, eqInt64S.R⟩])) (orc_ok (by simp only [List.mem_cons, List.not_mem_nil, or_false, forall_eq_or_imp, forall_eq]; exact eqInt64S.ok)) Try.func19 (by kernel_rfl) (by kernel_rfl) (n := 27) (ts := [4]) (hd := hd) (dr := dr) (cut := none) (by kernel_rfl) (by kernel_rfl) (by kernel_rfl) run
end eqInt64SS

end Go.Proofs.Ythecninmmojkgaa.Ab
