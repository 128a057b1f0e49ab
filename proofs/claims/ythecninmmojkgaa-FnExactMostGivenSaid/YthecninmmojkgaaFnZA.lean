/-
  Functions: numbers in order are sorted by what they point to.
-/
import Derived.Test.YthecninmmojkgaaFnL
namespace Go.Proofs.Ythecninmmojkgaa.Ab
open Go
set_option linter.unusedVariables false
set_option linter.unusedSimpArgs false
set_option maxRecDepth 100000

namespace cq
/-- The numbers below 'n', in order. -/
def sv (n : Nat) : List Int := (List.range n).map fun i : Nat => (i : Int)
theorem sv_length (n : Nat) : (sv n).length = n := by simp [sv]
theorem sv_succ (n : Nat) : sv (n + 1) = sv n ++ [(n : Int)] := by simp [sv, List.range_succ]
theorem sv_drop {n i : Nat} (h : i < n) : (sv n).drop i = (i : Int) :: (sv n).drop (i + 1) := by
  rw [List.drop_eq_getElem_cons (by rw [sv_length]; exact h)]
  simp [sv]
theorem one_set (v : Int) : (List.replicate 1 (0 : Int)).set 0 v = [v] := rfl
end cq
namespace ev
def lt.sp (ys : List Nat) (a b : Int) : Bool := FloatKind.f32.format.order (gn ys a.toNat) (gn ys b.toNat) == some Ordering.lt
def gt.sp (ys : List Nat) (a b : Int) : Bool := FloatKind.f32.format.order (gn ys a.toNat) (gn ys b.toNat) == some Ordering.gt
def swap (os : List Int) (k : Nat) : List Int := (os.set (k + 1) (gz os k)).set k (gz os (k + 1))
/-- The one at 'k' goes down as far as it is less. -/
def down (lt : Int → Int → Bool) : Nat → List Int → List Int
  | 0, os => os
  | k + 1, os => bif lt (gz os (k + 1)) (gz os k) then down lt k (swap os k) else os
def build (lt : Int → Int → Bool) : Nat → List Int
  | 0 => []
  | i + 1 => down lt i (build lt i ++ [(i : Int)])
theorem swap_length (os : List Int) (k : Nat) : (swap os k).length = os.length := by simp [swap]
theorem down_length (lt : Int → Int → Bool) : ∀ (k : Nat) (os : List Int), (down lt k os).length = os.length
  | 0, os => rfl
  | k + 1, os => by
    simp only [down]
    cases lt (gz os (k + 1)) (gz os k)
    · rfl
    · simp only [cond_true]; rw [down_length lt k, swap_length]
theorem build_length (lt : Int → Int → Bool) (i : Nat) : (build lt i).length = i := by
  induction i with
  | zero => rfl
  | succ i ih => simp only [build]; rw [down_length, List.length_append, ih]; rfl
theorem gz_append {xs ys : List Int} {i : Nat} (h : i < xs.length) : gz (xs ++ ys) i = gz xs i := by
  unfold gz; rw [List.getD_eq_getElem?_getD, List.getD_eq_getElem?_getD, List.getElem?_append_left h]
theorem swap_append {xs ys : List Int} {k : Nat} (h : k + 1 < xs.length) : swap (xs ++ ys) k = swap xs k ++ ys := by
  unfold swap
  rw [gz_append h, gz_append (by omega), List.set_append_left _ _ h, List.set_append_left _ _ (by simp; omega)]
theorem down_append (lt : Int → Int → Bool) : ∀ (k : Nat) (xs ys : List Int), k < xs.length → down lt k (xs ++ ys) = down lt k xs ++ ys
  | 0, xs, ys, _ => rfl
  | k + 1, xs, ys, h => by
    simp only [down]
    rw [gz_append h, gz_append (by omega)]
    cases lt (gz xs (k + 1)) (gz xs k)
    · rfl
    · simp only [cond_true]
      rw [swap_append h, down_append lt k _ _ (by rw [swap_length]; omega)]
/-- All numbers of the list are below 'm'. -/
def In (m : Nat) (os : List Int) : Prop := ∀ i, i < os.length → 0 ≤ gz os i ∧ gz os i < (m : Int)
theorem gz_set (os : List Int) (k : Nat) (v : Int) (i : Nat) (h : i < os.length) : gz (os.set k v) i = if k = i then v else gz os i := by
  have h' : i < (os.set k v).length := by simpa using h
  rw [gz_eq h', gz_eq h, List.getElem_set]
theorem In.swap {m : Nat} {os : List Int} (h : In m os) {k : Nat} (hk : k + 1 < os.length) : In m (ev.swap os k) := by
  intro i hi
  rw [swap_length] at hi
  unfold ev.swap
  rw [gz_set _ _ _ _ (by simpa using hi)]
  split
  · exact h _ hk
  · rw [gz_set _ _ _ _ hi]
    split
    · exact h _ (by omega)
    · exact h _ hi
theorem In.down {m : Nat} (lt : Int → Int → Bool) : ∀ (k : Nat) (os : List Int), k < os.length → In m os → In m (ev.down lt k os)
  | 0, os, _, h => h
  | k + 1, os, hk, h => by
    simp only [ev.down]
    cases lt (gz os (k + 1)) (gz os k)
    · exact h
    · simp only [cond_true]
      exact In.down lt k _ (by rw [swap_length]; omega) (h.swap hk)
theorem In.snoc {m : Nat} {os : List Int} (h : In m os) {v : Int} (hv : 0 ≤ v ∧ v < (m : Int)) : In m (os ++ [v]) := by
  intro i hi
  by_cases c : i < os.length
  · rw [gz_append c]; exact h i c
  · have e : i = os.length := by simp at hi; omega
    subst e
    rw [gz_eq hi]; simpa using hv
theorem In.build (lt : Int → Int → Bool) {m : Nat} : ∀ i, i ≤ m → In m (ev.build lt i)
  | 0, _ => fun i hi => absurd hi (Nat.not_lt_zero _)
  | i + 1, h => by
    simp only [ev.build]
    exact In.down lt i _ (by rw [List.length_append, build_length]; simp) ((In.build lt i (by omega)).snoc ⟨by omega, by omega⟩)
theorem In.app {m : Nat} {xs ys : List Int} (h : In m xs) (h2 : In m ys) : In m (xs ++ ys) := by
  intro i hi
  by_cases c : i < xs.length
  · rw [gz_append c]; exact h i c
  · have hi2 : i - xs.length < ys.length := by simp at hi; omega
    have := h2 (i - xs.length) hi2
    rw [gz_eq hi, List.getElem_append_right (by omega)]
    rwa [gz_eq hi2] at this
theorem In.rest {m i : Nat} : In m ((cq.sv m).drop i) := by
  intro j hj
  have hl : ((cq.sv m).drop i).length = m - i := by rw [List.length_drop, cq.sv_length]
  rw [gz_eq hj, List.getElem_drop]
  simp only [cq.sv, List.getElem_map, List.getElem_range]
  omega
/-- One more is put in its place. -/
theorem build_step (lt : Int → Int → Bool) {n i : Nat} (h : i < n) : down lt i (build lt i ++ (cq.sv n).drop i) = build lt (i + 1) ++ (cq.sv n).drop (i + 1) := by
  rw [cq.sv_drop h]
  have e : build lt i ++ (i : Int) :: (cq.sv n).drop (i + 1) = (build lt i ++ [(i : Int)]) ++ (cq.sv n).drop (i + 1) := by simp
  rw [e, down_append _ _ _ _ (by rw [List.length_append, build_length]; simp)]
  rfl
theorem build_one (lt : Int → Int → Bool) {n : Nat} (h : 0 < n) : cq.sv n = build lt 1 ++ (cq.sv n).drop 1 := by
  have := cq.sv_drop h
  rw [List.drop_zero] at this
  rw [this]
  simp [build, down]
def cmp.sv (ys : List Nat) (a b : Int) : Int := bif ev.lt.sp ys a b then -1 else bif ev.gt.sp ys a b then 1 else 0
theorem cmp_lt (ys : List Nat) (a b : Int) : decide (cmp.sv ys a b < 0) = ev.lt.sp ys a b := by
  unfold cmp.sv
  cases ev.lt.sp ys a b
  · cases ev.gt.sp ys a b <;> rfl
  · rfl
end ev

namespace counting2
def R : List AVal → Option (Bool × AVal × List Blk)
  | [.int .i64 m] => some (decide (0 ≤ m ∧ m ≤ 1000), .own 0 0 (cq.sv m.toNat).length 0 1, [⟨.typ (.ints .i64 (cq.sv m.toNat)), 0⟩])
  | _ => none
def hd : Nat → Head := fun _ => ⟨[3, 6, 7], some 1⟩
noncomputable def L (f n : Nat) (s : State) := loopAt Try.prog (orc []) hd Dr.std 0 f (bodyOf Try.f83) 0 [true, true, false, true] (retK Try.prog [2] 0 none) n s
theorem start (m f : Nat) :
  runFn Try.prog (orc []) hd Dr.std none f (bodyOf Try.f83) 16 [2] [.int .i64 m] []
  = (L f f (mkS (16 : Nat) [((3 : Nat), AVal.own (0 : Nat) (0 : Nat) (0 : Nat) (0 : Nat) (1 : Nat)), ((6 : Nat), AVal.int IntKind.i64 (↑m : Int)), ((7 : Nat), AVal.int IntKind.i64 (0 : Int))] [{ c := BC.typ (Cont.ints IntKind.i64 (List.replicate (0 : Nat) (0 : Int))), ver := (0 : Nat) }])) := by kernel_rfl
theorem round (zs : List Int) (m i f n : Nat) :
  L f (n + 1) (mkS 16 [(3, .own 0 0 i 0 1), (6, .int .i64 m), (7, .int .i64 i)] [⟨.typ (.ints .i64 zs), 0⟩])
  = (bif decide ((↑i : Int) < (↑m : Int)) then bif (1 : Nat) == (1 : Nat) && (1 : Nat) == (1 : Nat) && (true && (true && true) && (true && true && (decide (i + (List.take (1 : Nat) (List.drop (0 : Nat) ((List.replicate (1 : Nat) (0 : Int)).set (0 : Nat) (↑i : Int)))).length ≤ (4611686018427387904 : Nat)) && decide ((i + (List.take (1 : Nat) (List.drop (0 : Nat) ((List.replicate (1 : Nat) (0 : Int)).set (0 : Nat) (↑i : Int)))).length) * (8 : Nat) ≤ (140737488355328 : Nat))))) then L f n (mkS (16 : Nat) [((3 : Nat), AVal.own (0 : Nat) (0 : Nat) (i + (List.take (1 : Nat) (List.drop (0 : Nat) ((List.replicate (1 : Nat) (0 : Int)).set (0 : Nat) (↑i : Int)))).length) (0 : Nat) (1 : Nat)), ((6 : Nat), AVal.int IntKind.i64 (↑m : Int)), ((7 : Nat), AVal.int IntKind.i64 (IntKind.i64.wrap ((↑i : Int) + (1 : Int))))] [{ c := BC.typ (Cont.ints IntKind.i64 (List.take i zs ++ List.take (1 : Nat) (List.drop (0 : Nat) ((List.replicate (1 : Nat) (0 : Int)).set (0 : Nat) (↑i : Int))))), ver := (0 : Nat) }]) else none else some (AVal.own (0 : Nat) (0 : Nat) i (0 : Nat) (1 : Nat), [{ c := BC.typ (Cont.ints IntKind.i64 zs), ver := (0 : Nat) }])) := by kernel_rfl
theorem loop (m : Nat) (f : Nat) (hb : m ≤ 1000) : ∀ (d i n : Nat) , i + d = m → d < n →
    L f n (mkS 16 [(3, .own 0 0 i 0 1), (6, .int .i64 m), (7, .int .i64 i)] [⟨.typ (.ints .i64 (cq.sv i)), 0⟩]) = some (.own 0 0 m 0 1, [⟨.typ (.ints .i64 (cq.sv m)), 0⟩]) := by
  intro d
  induction d with
  | zero =>
    intro i n  hi hn 
    obtain ⟨n, rfl⟩ : ∃ k, n = k + 1 := ⟨n - 1, by omega⟩
    obtain rfl : i = m := by omega
    rw [round]
    simp only [Int.lt_irrefl, decide_false, cond_false]
  | succ d ih =>
    intro i n  hi hn 
    obtain ⟨n, rfl⟩ : ∃ k, n = k + 1 := ⟨n - 1, by omega⟩
    have h1 : i < m := by omega
    have h4 : (0 : Int) ≤ (i : Int) := Int.natCast_nonneg _
    have h5 : (i : Int) < (m : Int) := by omega
    rw [round]
    have hih := ih (i + 1) n (by omega) (by omega)
    rw [cq.sv_succ] at hih
    have k0 : i + 1 ≤ 4611686018427387904 := by omega
    have k1 : (i + 1) * 8 ≤ 140737488355328 := by omega
    have ht : (cq.sv i).take i = cq.sv i := List.take_of_length_le (by rw [cq.sv_length]; omega)
    simp only [h5, ht, k0, k1, cq.one_set, List.drop_zero, List.take_length, List.length_singleton, List.take_succ_cons, List.take_zero, Nat.reduceBEq, wrap_nat i (by omega), decide_true, decide_false, Bool.and_self, Bool.or_self, Bool.and_true, Bool.true_and, Bool.and_false, Bool.false_and, Bool.or_true, Bool.true_or, Bool.or_false, Bool.false_or, Bool.not_true, Bool.not_false, cond_true, cond_false]
    exact hih
theorem run : ∀ args v new, R args = some (true, v, new) → ∃ fuel, runFn Try.prog (orc []) hd Dr.std none fuel (bodyOf Try.f83) 16 [2] args [] = some (v, new) := by
  intro args v new h
  unfold R at h
  split at h
  · rename_i m
    simp only [Option.some.injEq, Prod.mk.injEq, decide_eq_true_eq] at h
    obtain ⟨⟨h1, h2⟩, rfl, rfl⟩ := h
    obtain ⟨m, rfl⟩ : ∃ q : Nat, m = q := ⟨m.toNat, by omega⟩
    refine ⟨m + 1, ?_⟩
    rw [start, cq.sv_length]
    exact loop m (m + 1) (by omega) m 0 (m + 1) (by omega) (by omega)
  · cases h
theorem ok : EntOk Try.prog ⟨83, R⟩ :=
  ent_okA mixed (A := (orc [])) (orc_ok (by simp)) Try.func83 (by kernel_rfl) (by kernel_rfl) (n := 16) (ts := [2]) (hd := hd) (dr := Dr.std) (cut := none) (by kernel_rfl) (by kernel_rfl) (by kernel_rfl) run
end counting2






end Go.Proofs.Ythecninmmojkgaa.Ab
