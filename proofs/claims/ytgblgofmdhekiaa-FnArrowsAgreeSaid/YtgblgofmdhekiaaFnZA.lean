/-
  Functions: numbers in order are sorted by what they point to.
-/
import Derived.Test.YtgblgofmdhekiaaFnL
namespace Go.Proofs.Ytgblgofmdhekiaa.Ab
open Go
set_option linter.unusedVariables false
set_option linter.unusedSimpArgs false
set_option maxRecDepth 100000

namespace cq
/-- The numbers below 'n', in order. -/
def sv (n : Nat) : List Int := (List.range n).map fun i : Nat => (i : Int)
theorem sv_length (n : Nat) : (sv n).length = n := by simp [sv]
theorem sv_succ (n : Nat) : sv (n + 1) = sv n ++ [(n : Int)] := by simp [sv, List.range_succ]
theorem sv_drop {n i : Nat} (h : i < n) : (sv n).drop i = (i : Int) :: (sv n).drop (i + 1) := by
  rw [List.drop_eq_getElem_cons (by rw [sv_length]; exact h)]
  simp [sv]
theorem one_set (v : Int) : (List.replicate 1 (0 : Int)).set 0 v = [v] := rfl
end cq
namespace ev
def lt.sp (ys : List Nat) (a b : Int) : Bool := FloatKind.f32.format.order (gn ys a.toNat) (gn ys b.toNat) == some Ordering.lt
def gt.sp (ys : List Nat) (a b : Int) : Bool := FloatKind.f32.format.order (gn ys a.toNat) (gn ys b.toNat) == some Ordering.gt
def swap (os : List Int) (k : Nat) : List Int := (os.set (k + 1) (gz os k)).set k (gz os (k + 1))
/-- The one at 'k' goes down as far as it is less. -/
def down (lt : Int → Int → Bool) : Nat → List Int → List Int
  | 0, os => os
  | k + 1, os => bif lt (gz os (k + 1)) (gz os k) then down lt k (swap os k) else os
def build (lt : Int → Int → Bool) : Nat → List Int
  | 0 => []
  | i + 1 => down lt i (build lt i ++ [(i : Int)])
theorem swap_length (os : List Int) (k : Nat) : (swap os k).length = os.length := by simp [swap]
theorem down_length (lt : Int → Int → Bool) : ∀ (k : Nat) (os : List Int), (down lt k os).length = os.length
  | 0, os => rfl
  | k + 1, os => by
    simp only [down]
    cases lt (gz os (k + 1)) (gz os k)
    · rfl
    · simp only [cond_true]; rw [down_length lt k, swap_length]
theorem build_length (lt : Int → Int → Bool) (i : Nat) : (build lt i).length = i := by
  induction i with
  | zero => rfl
  | succ i ih => simp only [build]; rw [down_length, List.length_append, ih]; rfl
theorem gz_append {xs ys : List Int} {i : Nat} (h : i < xs.length) : gz (xs ++ ys) i = gz xs i := by
  unfold gz; rw [List.getD_eq_getElem?_getD, List.getD_eq_getElem?_getD, List.getElem?_append_left h]
theorem swap_append {xs ys : List Int} {k : Nat} (h : k + 1 < xs.length) : swap (xs ++ ys) k = swap xs k ++ ys := by
  unfold swap
  rw [gz_append h, gz_append (by omega), List.set_append_left _ _ h, List.set_append_left _ _ (by simp; omega)]
theorem down_append (lt : Int → Int → Bool) : ∀ (k : Nat) (xs ys : List Int), k < xs.length → down lt k (xs ++ ys) = down lt k xs ++ ys
  | 0, xs, ys, _ => rfl
  | k + 1, xs, ys, h => by
    simp only [down]
    rw [gz_append h, gz_append (by omega)]
    cases lt (gz xs (k + 1)) (gz xs k)
    · rfl
    · simp only [cond_true]
      rw [swap_append h, down_append lt k _ _ (by rw [swap_length]; omega)]
/-- All numbers of the list are below 'm'. -/
def In (m : Nat) (os : List Int) : Prop := ∀ i, i < os.length → 0 ≤ gz os i ∧ gz os i < (m : Int)
theorem gz_set (os : List Int) (k : Nat) (v : Int) (i : Nat) (h : i < os.length) : gz (os.set k v) i = if k = i then v else gz os i := by
  have h' : i < (os.set k v).length := by simpa using h
  rw [gz_eq h', gz_eq h, List.getElem_set]
theorem In.swap {m : Nat} {os : List Int} (h : In m os) {k : Nat} (hk : k + 1 < os.length) : In m (ev.swap os k) := by
  intro i hi
  rw [swap_length] at hi
  unfold ev.swap
  rw [gz_set _ _ _ _ (by simpa using hi)]
  split
  · exact h _ hk
  · rw [gz_set _ _ _ _ hi]
    split
    · exact h _ (by omega)
    · exact h _ hi
theorem In.down {m : Nat} (lt : Int → Int → Bool) : ∀ (k : Nat) (os : List Int), k < os.length → In m os → In m (ev.down lt k os)
  | 0, os, _, h => h
  | k + 1, os, hk, h => by
    simp only [ev.down]
    cases lt (gz os (k + 1)) (gz os k)
    · exact h
    · simp only [cond_true]
      exact In.down lt k _ (by rw [swap_length]; omega) (h.swap hk)
theorem In.snoc {m : Nat} {os : List Int} (h : In m os) {v : Int} (hv : 0 ≤ v ∧ v < (m : Int)) : In m (os ++ [v]) := by
  intro i hi
  by_cases c : i < os.length
  · rw [gz_append c]; exact h i c
  · have e : i = os.length := by simp at hi; omega
    subst e
    rw [gz_eq hi]; simpa using hv
theorem In.build (lt : Int → Int → Bool) {m : Nat} : ∀ i, i ≤ m → In m (ev.build lt i)
  | 0, _ => fun i hi => absurd hi (Nat.not_lt_zero _)
  | i + 1, h => by
    simp only [ev.build]
    exact In.down lt i _ (by rw [List.length_append, build_length]; simp) ((In.build lt i (by omega)).snoc ⟨by omega, by omega⟩)
theorem In.app {m : Nat} {xs ys : List Int} (h : In m xs) (h2 : In m ys) : In m (xs ++ ys) := by
  intro i hi
  by_cases c : i < xs.length
  · rw [gz_append c]; exact h i c
  · have hi2 : i - xs.length < ys.length := by simp at hi; omega
    have := h2 (i - xs.length) hi2
    rw [gz_eq hi, List.getElem_append_right (by omega)]
    rwa [gz_eq hi2] at this
theorem In.rest {m i : Nat} : In m ((cq.sv m).drop i) := by
  intro j hj
  have hl : ((cq.sv m).drop i).length = m - i := by rw [List.length_drop, cq.sv_length]
  rw [gz_eq hj, List.getElem_drop]
  simp only [cq.sv, List.getElem_map, List.getElem_range]
  omega
/-- One more is put in its place. -/
theorem build_step (lt : Int → Int → Bool) {n i : Nat} (h : i < n) : down lt i (build lt i ++ (cq.sv n).drop i) = build lt (i + 1) ++ (cq.sv n).drop (i + 1) := by
  rw [cq.sv_drop h]
  have e : build lt i ++ (i : Int) :: (cq.sv n).drop (i + 1) = (build lt i ++ [(i : Int)]) ++ (cq.sv n).drop (i + 1) := by simp
  rw [e, down_append _ _ _ _ (by rw [List.length_append, build_length]; simp)]
  rfl
theorem build_one (lt : Int → Int → Bool) {n : Nat} (h : 0 < n) : cq.sv n = build lt 1 ++ (cq.sv n).drop 1 := by
  have := cq.sv_drop h
  rw [List.drop_zero] at this
  rw [this]
  simp [build, down]
def cmp.sv (ys : List Nat) (a b : Int) : Int := bif ev.lt.sp ys a b then -1 else bif ev.gt.sp ys a b then 1 else 0
theorem cmp_lt (ys : List Nat) (a b : Int) : decide (cmp.sv ys a b < 0) = ev.lt.sp ys a b := by
  unfold cmp.sv
  cases ev.lt.sp ys a b
  · cases ev.gt.sp ys a b <;> rfl
  · rfl
end ev

namespace counting2
def R : List AVal → Option (Bool × AVal × List Blk)
  | [.int .i64 m] => some (decide (0 ≤ m ∧ m ≤ 1000), .own 0 0 (cq.sv m.toNat).length 0 1, [⟨.typ (.ints .i64 (cq.sv m.toNat)), 0⟩])
  | _ => none
def hd : Nat → Head := fun _ => ⟨[3, 6, 7], some 1⟩
noncomputable def L (f n : Nat) (s : State) := loopAt Try.prog (orc []) hd Dr.std 0 f (bodyOf Try.f60) 0 [true, true, false, true] (retK Try.prog [2] 0 none) n s
theorem start (m f : Nat) :
  runFn Try.prog (orc []) hd Dr.std none f (bodyOf Try.f60) 16 [2] [.int .i64 m] []
  = (L f f (mkS (16 : Nat) [((3 : Nat), AVal.own (0 : Nat) (0 : Nat) (0 : Nat) (0 : Nat) (1 : Nat)), ((6 : Nat), AVal.int IntKind.i64 (↑m : Int)), ((7 : Nat), AVal.int IntKind.i64 (0 : Int))] [{ c := BC.typ (Cont.ints IntKind.i64 (List.replicate (0 : Nat) (0 : Int))), ver := (0 : Nat) }])) := by kernel_rfl
theorem round (zs : List Int) (m i f n : Nat) :
  L f (n + 1) (mkS 16 [(3, .own 0 0 i 0 1), (6, .int .i64 m), (7, .int .i64 i)] [⟨.typ (.ints .i64 zs), 0⟩])
  = (bif decide ((↑i : Int) < (↑m : Int)) then bif (1 : Nat) == (1 : Nat) && (1 : Nat) == (1 : Nat) && (true && (true && true) && (true && true && (decide (i + (List.take (1 : Nat) (List.drop (0 : Nat) ((List.replicate (1 : Nat) (0 : Int)).set (0 : Nat) (↑i : Int)))).length ≤ (4611686018427387904 : Nat)) && decide ((i + (List.take (1 : Nat) (List.drop (0 : Nat) ((List.replicate (1 : Nat) (0 : Int)).set (0 : Nat) (↑i : Int)))).length) * (8 : Nat) ≤ (140737488355328 : Nat))))) then L f n (mkS (16 : Nat) [((3 : Nat), AVal.own (0 : Nat) (0 : Nat) (i + (List.take (1 : Nat) (List.drop (0 : Nat) ((List.replicate (1 : Nat) (0 : Int)).set (0 : Nat) (↑i : Int)))).length) (0 : Nat) (1 : Nat)), ((6 : Nat), AVal.int IntKind.i64 (↑m : Int)), ((7 : Nat), AVal.int IntKind.i64 (IntKind.i64.wrap ((↑i : Int) + (1 : Int))))] [{ c := BC.typ (Cont.ints IntKind.i64 (List.take i zs ++ List.take (1 : Nat) (List.drop (0 : Nat) ((List.replicate (1 : Nat) (0 : Int)).set (0 : Nat) (↑i : Int))))), ver := (0 : Nat) }]) else none else some (AVal.own (0 : Nat) (0 : Nat) i (0 : Nat) (1 : Nat), [{ c := BC.typ (Cont.ints IntKind.i64 zs), ver := (0 : Nat) }])) := by kernel_rfl
theorem loop (m : Nat) (f : Nat) (hb : m ≤ 1000) : ∀ (d i n : Nat) , i + d = m → d < n →
    L f n (mkS 16 [(3, .own 0 0 i 0 1), (6, .int .i64 m), (7, .int .i64 i)] [⟨.typ (.ints .i64 (cq.sv i)), 0⟩]) = some (.own 0 0 m 0 1, [⟨.typ (.ints .i64 (cq.sv m)), 0⟩]) := by
  intro d
  induction d with
  | zero =>
    intro i n  hi hn 
    obtain ⟨n, rfl⟩ : ∃ k, n = k + 1 := ⟨n - 1, by omega⟩
    obtain rfl : i = m := by omega
    rw [round]
    simp only [Int.lt_irrefl, decide_false, cond_false]
  | succ d ih =>
    intro i n  hi hn 
    obtain ⟨n, rfl⟩ : ∃ k, n = k + 1 := ⟨n - 1, by omega⟩
    have h1 : i < m := by omega
    have h4 : (0 : Int) ≤ (i : Int) := Int.natCast_nonneg _
    have h5 : (i : Int) < (m : Int) := by omega
    rw [round]
    have hih := ih (i + 1) n (by omega) (by omega)
    rw [cq.sv_succ] at hih
    have k0 : i + 1 ≤ 4611686018427387904 := by omega
    have k1 : (i + 1) * 8 ≤ 140737488355328 := by omega
    have ht : (cq.sv i).take i = cq.sv i := List.take_of_length_le (by rw [cq.sv_length]; omega)
    simp only [h5, ht, k0, k1, cq.one_set, List.drop_zero, List.take_length, List.length_singleton, List.take_succ_cons, List.take_zero, Nat.reduceBEq, wrap_nat i (by omega), decide_true, decide_false, Bool.and_self, Bool.or_self, Bool.and_true, Bool.true_and, Bool.and_false, Bool.false_and, Bool.or_true, Bool.true_or, Bool.or_false, Bool.false_or, Bool.not_true, Bool.not_false, cond_true, cond_false]
    exact hih
theorem run : ∀ args v new, R args = some (true, v, new) → ∃ fuel, runFn Try.prog (orc []) hd Dr.std none fuel (bodyOf Try.f60) 16 [2] args [] = some (v, new) := by
  intro args v new h
  unfold R at h
  split at h
  · rename_i m
    simp only [Option.some.injEq, Prod.mk.injEq, decide_eq_true_eq] at h
    obtain ⟨⟨h1, h2⟩, rfl, rfl⟩ := h
    obtain ⟨m, rfl⟩ : ∃ q : Nat, m = q := ⟨m.toNat, by omega⟩
    refine ⟨m + 1, ?_⟩
    rw [start, cq.sv_length]
    exact loop m (m + 1) (by omega) m 0 (m + 1) (by omega) (by omega)
  · cases h
theorem ok : EntOk Try.prog ⟨60, R⟩ :=
  ent_okA mixed (A := (orc [])) (orc_ok (by simp)) Try.func60 (by kernel_rfl) (by kernel_rfl) (n := 16) (ts := [2]) (hd := hd) (dr := Dr.std) (cut := none) (by kernel_rfl) (by kernel_rfl) (by kernel_rfl) run
end counting2


namespace evcmp
def R : List AVal → Option (Bool × AVal × List Blk)
  | [.int .i64 a, .int .i64 b, .rom [.ro (.flts .f32 ys) m 1] 0] => some (decide (0 ≤ a ∧ a < (m : Int) ∧ 0 ≤ b ∧ b < (m : Int) ∧ m ≤ ys.length), .int .i64 (ev.cmp.sv ys a b), [])
  | _ => none
theorem go (a b : Int) (ys : List Nat) (m : Nat) :
  runFn Try.prog (orc []) hd0 Dr.std none 0 (bodyOf Try.f62) 26 [5] [.int .i64 a, .int .i64 b, .rom [.ro (.flts .f32 ys) m 1] 0] []
  = (bif true && (decide ((0 : Int) ≤ a) && decide (a < (↑m : Int))) then bif decide (a.toNat < ys.length) then bif true && (decide ((0 : Int) ≤ b) && decide (b < (↑m : Int))) then bif decide (b.toNat < ys.length) then bif FloatKind.f32.format.order (gn ys a.toNat) (gn ys b.toNat) == some Ordering.lt then some (AVal.int IntKind.i64 (-1 : Int), []) else bif true && (decide ((0 : Int) ≤ a) && decide (a < (↑m : Int))) then bif decide (a.toNat < ys.length) then bif true && (decide ((0 : Int) ≤ b) && decide (b < (↑m : Int))) then bif decide (b.toNat < ys.length) then bif FloatKind.f32.format.order (gn ys a.toNat) (gn ys b.toNat) == some Ordering.gt then some (AVal.int IntKind.i64 (1 : Int), []) else some (AVal.int IntKind.i64 (0 : Int), []) else none else none else none else none else none else none else none else none) := by kernel_rfl
theorem run : ∀ args v new, R args = some (true, v, new) → ∃ fuel, runFn Try.prog (orc []) hd0 Dr.std none fuel (bodyOf Try.f62) 26 [5] args [] = some (v, new) := by
  intro args v new h
  unfold R at h
  split at h
  · rename_i a b ys m
    simp only [Option.some.injEq, Prod.mk.injEq, decide_eq_true_eq] at h
    obtain ⟨⟨h1, h2, h3, h4, h5⟩, rfl, rfl⟩ := h
    have a1 : a.toNat < ys.length := by omega
    have b1 : b.toNat < ys.length := by omega
    refine ⟨0, ?_⟩
    rw [go]
    have e1 : (FloatKind.f32.format.order (gn ys a.toNat) (gn ys b.toNat) == some Ordering.lt) = ev.lt.sp ys a b := rfl
    have e2 : (FloatKind.f32.format.order (gn ys a.toNat) (gn ys b.toNat) == some Ordering.gt) = ev.gt.sp ys a b := rfl
    unfold ev.cmp.sv
    simp only [e1, e2, h1, h2, h3, h4, a1, b1, decide_true, decide_false, Bool.and_self, Bool.or_self, Bool.and_true, Bool.true_and, Bool.and_false, Bool.false_and, Bool.or_true, Bool.true_or, Bool.or_false, Bool.false_or, Bool.not_true, Bool.not_false, cond_true, cond_false]
    cases ev.lt.sp ys a b
    · cases ev.gt.sp ys a b <;> rfl
    · rfl
  · cases h
theorem ok : EntOk Try.prog ⟨62, R⟩ :=
  ent_okA mixed (A := (orc [])) (orc_ok (by simp)) Try.func62 (by kernel_rfl) (by kernel_rfl) (n := 26) (ts := [5]) (hd := hd0) (dr := Dr.std) (cut := none) (by kernel_rfl) (by kernel_rfl) (by kernel_rfl) run
end evcmp

namespace insSort
def R : List AVal → Heap → Option (Bool × AVal × Heap)
  | [.own 0 0 m 0 1, .int .i64 a, .int .i64 b, .fn ff [.ptr 1 0 0]], [⟨.typ (.ints .i64 os), 0⟩, ⟨.cells [.ro (.flts .f32 ys) my 1], 0⟩] => some (decide (a = 0 ∧ b = (m : Int) ∧ my = m ∧ m ≤ ys.length ∧ 1 ≤ m ∧ m ≤ 16 ∧ ff = 62 ∧ os = cq.sv m), .tup [], [⟨.typ (.ints .i64 (ev.build (ev.lt.sp ys) m)), 0⟩, ⟨.cells [.ro (.flts .f32 ys) m 1], 0⟩])
  | _, _ => none
def hd : Nat → Head := fun i => bif eqN i 2 then ⟨[0, 1, 2, 3, 8, 9], some 0⟩ else ⟨[0, 1, 2, 3, 8], some 0⟩
noncomputable def L1 (f n : Nat) (s : State) := loopAt Try.prog (orc [⟨62, evcmp.R⟩]) hd Dr.std 2 f (bodyOf Try.f100) 0 [true] (retK Try.prog [] 2 (some 0)) n s
noncomputable def L2 (f n n2 : Nat) (s : State) := loopAt Try.prog (orc [⟨62, evcmp.R⟩]) hd Dr.std 2 f (bodyAt (bodyOf Try.f100) [true]) (curAt (bodyOf Try.f100) 0 [true]) [true, false, true] (iterK (normE 2 (hd (curAt (bodyOf Try.f100) 0 [true]))) (L1 f n) (contAt Try.prog (orc [⟨62, evcmp.R⟩]) hd Dr.std 2 f (bodyOf Try.f100) 0 [true] (retK Try.prog [] 2 (some 0)))) n2 s
theorem start (os : List Int) (ys : List Nat) (m f : Nat) :
  runFn Try.prog (orc [⟨62, evcmp.R⟩]) hd Dr.std (some 0) f (bodyOf Try.f100) 53 [] [.own 0 0 m 0 1, .int .i64 0, .int .i64 m, .fn 62 [.ptr 1 0 0]] [⟨.typ (.ints .i64 os), 0⟩, ⟨.cells [.ro (.flts .f32 ys) m 1], 0⟩]
  = (bif true && (true && true) then L1 f f (mkS (53 : Nat) [((0 : Nat), AVal.own (0 : Nat) (0 : Nat) m (0 : Nat) (1 : Nat)), ((1 : Nat), AVal.int IntKind.i64 (0 : Int)), ((2 : Nat), AVal.int IntKind.i64 (↑m : Int)), ((3 : Nat), AVal.fn (62 : Nat) [AVal.ptr (1 : Nat) (0 : Nat) (0 : Nat)]), ((8 : Nat), AVal.int IntKind.i64 (1 : Int))] [{ c := BC.typ (Cont.ints IntKind.i64 os), ver := (0 : Nat) }, { c := BC.cells [AVal.ro (Cont.flts FloatKind.f32 ys) m (1 : Nat)], ver := (0 : Nat) }]) else none) := by kernel_rfl
theorem round1 (os : List Int) (ys : List Nat) (m i f n : Nat) :
  L1 f (n + 1) (mkS 53 [(0, .own 0 0 m 0 1), (1, .int .i64 0), (2, .int .i64 m), (3, .fn 62 [.ptr 1 0 0]), (8, .int .i64 i)] [⟨.typ (.ints .i64 os), 0⟩, ⟨.cells [.ro (.flts .f32 ys) m 1], 0⟩])
  = (bif decide ((↑i : Int) < (↑m : Int)) then L2 f n f (mkS (53 : Nat) [((0 : Nat), AVal.own (0 : Nat) (0 : Nat) m (0 : Nat) (1 : Nat)), ((1 : Nat), AVal.int IntKind.i64 (0 : Int)), ((2 : Nat), AVal.int IntKind.i64 (↑m : Int)), ((3 : Nat), AVal.fn (62 : Nat) [AVal.ptr (1 : Nat) (0 : Nat) (0 : Nat)]), ((8 : Nat), AVal.int IntKind.i64 (↑i : Int)), ((9 : Nat), AVal.int IntKind.i64 (↑i : Int))] [{ c := BC.typ (Cont.ints IntKind.i64 os), ver := (0 : Nat) }, { c := BC.cells [AVal.ro (Cont.flts FloatKind.f32 ys) m (1 : Nat)], ver := (0 : Nat) }]) else some (AVal.tup [], [{ c := BC.typ (Cont.ints IntKind.i64 os), ver := (0 : Nat) }, { c := BC.cells [AVal.ro (Cont.flts FloatKind.f32 ys) m (1 : Nat)], ver := (0 : Nat) }])) := by kernel_rfl
theorem round2 (os : List Int) (ys : List Nat) (m i j f n n2 : Nat) :
  L2 f n (n2 + 1) (mkS 53 [(0, .own 0 0 m 0 1), (1, .int .i64 0), (2, .int .i64 m), (3, .fn 62 [.ptr 1 0 0]), (8, .int .i64 i), (9, .int .i64 j)] [⟨.typ (.ints .i64 os), 0⟩, ⟨.cells [.ro (.flts .f32 ys) m 1], 0⟩])
  = (bif decide ((0 : Int) < (↑j : Int)) then bif true && (decide ((0 : Int) ≤ (↑j : Int)) && decide ((↑j : Int) < (↑m : Int))) then bif true && decide ((↑j : Int).toNat < os.length) then bif true && (decide ((0 : Int) ≤ IntKind.i64.wrap ((↑j : Int) - (1 : Int))) && decide (IntKind.i64.wrap ((↑j : Int) - (1 : Int)) < (↑m : Int))) then bif true && decide ((IntKind.i64.wrap ((↑j : Int) - (1 : Int))).toNat < os.length) then bif decide ((0 : Int) ≤ gz os (↑j : Int).toNat ∧ gz os (↑j : Int).toNat < (↑m : Int) ∧ (0 : Int) ≤ gz os (IntKind.i64.wrap ((↑j : Int) - (1 : Int))).toNat ∧ gz os (IntKind.i64.wrap ((↑j : Int) - (1 : Int))).toNat < (↑m : Int) ∧ m ≤ ys.length) && (true && (true && false) || true && true) then bif decide (ev.cmp.sv ys (gz os (↑j : Int).toNat) (gz os (IntKind.i64.wrap ((↑j : Int) - (1 : Int))).toNat) < (0 : Int)) then bif true && (decide ((0 : Int) ≤ IntKind.i64.wrap ((↑j : Int) - (1 : Int))) && decide (IntKind.i64.wrap ((↑j : Int) - (1 : Int)) < (↑m : Int))) then bif true && decide ((IntKind.i64.wrap ((↑j : Int) - (1 : Int))).toNat < os.length) then bif true && (decide ((0 : Int) ≤ (↑j : Int)) && decide ((↑j : Int) < (↑m : Int))) then bif true && decide ((↑j : Int).toNat < os.length) then bif true && (decide ((0 : Int) ≤ (↑j : Int)) && decide ((↑j : Int) < (↑m : Int))) then bif true && (true && (decide ((↑j : Int).toNat < os.length) && true)) then bif true && (decide ((0 : Int) ≤ IntKind.i64.wrap ((↑j : Int) - (1 : Int))) && decide (IntKind.i64.wrap ((↑j : Int) - (1 : Int)) < (↑m : Int))) then bif true && (true && (decide ((IntKind.i64.wrap ((↑j : Int) - (1 : Int))).toNat < (os.set (↑j : Int).toNat (gz os (IntKind.i64.wrap ((↑j : Int) - (1 : Int))).toNat)).length) && true)) then L2 f n n2 (mkS (53 : Nat) [((0 : Nat), AVal.own (0 : Nat) (0 : Nat) m (0 : Nat) (1 : Nat)), ((1 : Nat), AVal.int IntKind.i64 (0 : Int)), ((2 : Nat), AVal.int IntKind.i64 (↑m : Int)), ((3 : Nat), AVal.fn (62 : Nat) [AVal.ptr (1 : Nat) (0 : Nat) (0 : Nat)]), ((8 : Nat), AVal.int IntKind.i64 (↑i : Int)), ((9 : Nat), AVal.int IntKind.i64 (IntKind.i64.wrap ((↑j : Int) - (1 : Int))))] [{ c := BC.typ (Cont.ints IntKind.i64 ((os.set (↑j : Int).toNat (gz os (IntKind.i64.wrap ((↑j : Int) - (1 : Int))).toNat)).set (IntKind.i64.wrap ((↑j : Int) - (1 : Int))).toNat (gz os (↑j : Int).toNat))), ver := (0 : Nat) }, { c := BC.cells [AVal.ro (Cont.flts FloatKind.f32 ys) m (1 : Nat)], ver := (0 : Nat) }]) else none else none else none else none else none else none else none else none else L1 f n (mkS (53 : Nat) [((0 : Nat), AVal.own (0 : Nat) (0 : Nat) m (0 : Nat) (1 : Nat)), ((1 : Nat), AVal.int IntKind.i64 (0 : Int)), ((2 : Nat), AVal.int IntKind.i64 (↑m : Int)), ((3 : Nat), AVal.fn (62 : Nat) [AVal.ptr (1 : Nat) (0 : Nat) (0 : Nat)]), ((8 : Nat), AVal.int IntKind.i64 (IntKind.i64.wrap ((↑i : Int) + (1 : Int))))] [{ c := BC.typ (Cont.ints IntKind.i64 os), ver := (0 : Nat) }, { c := BC.cells [AVal.ro (Cont.flts FloatKind.f32 ys) m (1 : Nat)], ver := (0 : Nat) }]) else none else none else none else none else none else L1 f n (mkS (53 : Nat) [((0 : Nat), AVal.own (0 : Nat) (0 : Nat) m (0 : Nat) (1 : Nat)), ((1 : Nat), AVal.int IntKind.i64 (0 : Int)), ((2 : Nat), AVal.int IntKind.i64 (↑m : Int)), ((3 : Nat), AVal.fn (62 : Nat) [AVal.ptr (1 : Nat) (0 : Nat) (0 : Nat)]), ((8 : Nat), AVal.int IntKind.i64 (IntKind.i64.wrap ((↑i : Int) + (1 : Int))))] [{ c := BC.typ (Cont.ints IntKind.i64 os), ver := (0 : Nat) }, { c := BC.cells [AVal.ro (Cont.flts FloatKind.f32 ys) m (1 : Nat)], ver := (0 : Nat) }])) := by kernel_rfl
theorem inner (ys : List Nat) (m f n i : Nat) (hm : m ≤ ys.length) (hb : m ≤ 1000) (hi : i < m) : ∀ (j n2 : Nat) (os : List Int), j < n2 → j < os.length → os.length = m → ev.In m os →
    L2 f n n2 (mkS 53 [(0, .own 0 0 m 0 1), (1, .int .i64 0), (2, .int .i64 m), (3, .fn 62 [.ptr 1 0 0]), (8, .int .i64 ((i : Nat) : Int)), (9, .int .i64 ((j : Nat) : Int))] [⟨.typ (.ints .i64 os), 0⟩, ⟨.cells [.ro (.flts .f32 ys) m 1], 0⟩]) = L1 f n (mkS 53 [(0, .own 0 0 m 0 1), (1, .int .i64 0), (2, .int .i64 m), (3, .fn 62 [.ptr 1 0 0]), (8, .int .i64 (((i + 1) : Nat) : Int))] [⟨.typ (.ints .i64 (ev.down (ev.lt.sp ys) j os)), 0⟩, ⟨.cells [.ro (.flts .f32 ys) m 1], 0⟩]) := by
  have wi : IntKind.i64.wrap ((i : Int) + 1) = ((i + 1 : Nat) : Int) := wrap_nat i (by omega)
  intro j
  induction j with
  | zero =>
    intro n2 os hn hj hl hin
    obtain ⟨n2, rfl⟩ : ∃ k, n2 = k + 1 := ⟨n2 - 1, by omega⟩
    have z : ¬ (0 < ((0 : Nat) : Int)) := by omega
    rw [round2]
    simp -implicitDefEqProofs only [z, wi, ev.down, decide_true, decide_false, Bool.and_self, Bool.or_self, Bool.and_true, Bool.true_and, Bool.and_false, Bool.false_and, Bool.or_true, Bool.true_or, Bool.or_false, Bool.false_or, Bool.not_true, Bool.not_false, cond_true, cond_false]
  | succ j ih =>
    intro n2 os hn hj hl hin
    obtain ⟨n2, rfl⟩ : ∃ k, n2 = k + 1 := ⟨n2 - 1, by omega⟩
    have z : 0 < ((j + 1 : Nat) : Int) := by omega
    have wj : IntKind.i64.wrap (((j + 1 : Nat) : Int) - 1) = (j : Int) := by rw [IntWalk.i64_in _ (by omega)]; omega
    have g1 : (0 : Int) ≤ ((j + 1 : Nat) : Int) := by omega
    have g2 : ((j + 1 : Nat) : Int) < (m : Int) := by omega
    have g3 : (0 : Int) ≤ (j : Int) := by omega
    have g4 : (j : Int) < (m : Int) := by omega
    have g5 : j < os.length := by omega
    obtain ⟨a1, a2⟩ := hin (j + 1) hj
    obtain ⟨b1, b2⟩ := hin j g5
    have hih := ih n2 (ev.swap os j) (by omega) (by rw [ev.swap_length]; omega) (by rw [ev.swap_length]; exact hl) (hin.swap hj)
    simp only [ev.swap] at hih
    rw [round2]
    simp only [ev.down]
    simp -implicitDefEqProofs only [z, wi, wj, g1, g2, g3, g4, g5, hj, a1, a2, b1, b2, hm, ev.cmp_lt, Int.toNat_natCast, List.length_set, and_self, eq_self, decide_true, decide_false, Bool.and_self, Bool.or_self, Bool.and_true, Bool.true_and, Bool.and_false, Bool.false_and, Bool.or_true, Bool.true_or, Bool.or_false, Bool.false_or, Bool.not_true, Bool.not_false, cond_true, cond_false]
    cases hc : ev.lt.sp ys (gz os (j + 1)) (gz os j)
    · simp -implicitDefEqProofs only [cond_false]
    · simp -implicitDefEqProofs only [cond_true]
      exact hih
theorem outer (ys : List Nat) (m f : Nat) (hm : m ≤ ys.length) (hb : m ≤ 1000) (hf : m < f) : ∀ (d i n : Nat), i + d = m → d < n → 1 ≤ i →
    L1 f n (mkS 53 [(0, .own 0 0 m 0 1), (1, .int .i64 0), (2, .int .i64 m), (3, .fn 62 [.ptr 1 0 0]), (8, .int .i64 ((i : Nat) : Int))] [⟨.typ (.ints .i64 (ev.build (ev.lt.sp ys) i ++ (cq.sv m).drop i)), 0⟩, ⟨.cells [.ro (.flts .f32 ys) m 1], 0⟩]) = some (.tup [], [⟨.typ (.ints .i64 (ev.build (ev.lt.sp ys) m)), 0⟩, ⟨.cells [.ro (.flts .f32 ys) m 1], 0⟩]) := by
  intro d
  induction d with
  | zero =>
    intro i n hi hn h1
    obtain ⟨n, rfl⟩ : ∃ k, n = k + 1 := ⟨n - 1, by omega⟩
    obtain rfl : i = m := by omega
    have e : ev.build (ev.lt.sp ys) i ++ (cq.sv i).drop i = ev.build (ev.lt.sp ys) i := by
      rw [List.drop_of_length_le (by rw [cq.sv_length]; exact Nat.le_refl _), List.append_nil]
    rw [e, round1]
    simp -implicitDefEqProofs only [Int.lt_irrefl, decide_true, decide_false, Bool.and_self, Bool.or_self, Bool.and_true, Bool.true_and, Bool.and_false, Bool.false_and, Bool.or_true, Bool.true_or, Bool.or_false, Bool.false_or, Bool.not_true, Bool.not_false, cond_true, cond_false]
  | succ d ih =>
    intro i n hi hn h1
    obtain ⟨n, rfl⟩ : ∃ k, n = k + 1 := ⟨n - 1, by omega⟩
    have h5 : (i : Int) < (m : Int) := by omega
    have hl : (ev.build (ev.lt.sp ys) i ++ (cq.sv m).drop i).length = m := by rw [List.length_append, ev.build_length, List.length_drop, cq.sv_length]; omega
    have hin := inner ys m f n i hm hb (by omega) i f (ev.build (ev.lt.sp ys) i ++ (cq.sv m).drop i) (by omega) (by omega) hl ((ev.In.build _ _ (by omega)).app ev.In.rest)
    rw [ev.build_step _ (by omega)] at hin
    have hout := ih (i + 1) n (by omega) (by omega) (by omega)
    rw [round1]
    simp -implicitDefEqProofs only [h5, decide_true, decide_false, Bool.and_self, Bool.or_self, Bool.and_true, Bool.true_and, Bool.and_false, Bool.false_and, Bool.or_true, Bool.true_or, Bool.or_false, Bool.false_or, Bool.not_true, Bool.not_false, cond_true, cond_false]
    exact hin.trans hout
theorem run : ∀ args H v new, R args H = some (true, v, new) → ∃ fuel, runFn Try.prog (orc [⟨62, evcmp.R⟩]) hd Dr.std (some 0) fuel (bodyOf Try.f100) 53 [] args H = some (v, new) := by
  intro args H v new h
  unfold R at h
  split at h
  · rename_i m a b ff os ys my
    simp only [Option.some.injEq, Prod.mk.injEq, decide_eq_true_eq] at h
    obtain ⟨⟨rfl, rfl, rfl, h1, h2, h3, rfl, rfl⟩, rfl, rfl⟩ := h
    obtain ⟨F, hF⟩ : ∃ F : Nat, F = 100 := ⟨100, rfl⟩
    refine ⟨F, ?_⟩
    rw [start]
    have ho := outer ys my F h1 (by omega) (by omega) (my - 1) 1 F (by omega) (by omega) (by omega)
    rw [← ev.build_one _ (by omega)] at ho
    exact ho
  · cases h
theorem ok : EntWOk Try.prog ⟨100, R⟩ :=
  entw_ok mixed (A := (orc [⟨62, evcmp.R⟩])) (orc_ok (by simp only [List.mem_cons, List.not_mem_nil, or_false, forall_eq_or_imp, forall_eq]; exact evcmp.ok)) Try.func100 (by kernel_rfl) (by kernel_rfl) (n := 53) (ts := []) (hd := hd) (dr := Dr.std) (cut := (some 0)) (by kernel_rfl) (by kernel_rfl) (by kernel_rfl) run
end insSort

namespace stableFew
def R : List AVal → Heap → Option (Bool × AVal × Heap)
  | [.own 0 0 m 0 1, .int .i64 b, .fn ff [.ptr 1 0 0]], [⟨.typ (.ints .i64 os), 0⟩, ⟨.cells [.ro (.flts .f32 ys) my 1], 0⟩] => some (decide (b = (m : Int) ∧ my = m ∧ m ≤ ys.length ∧ 1 ≤ m ∧ m ≤ 16 ∧ ff = 62 ∧ os = cq.sv m), .tup [], [⟨.typ (.ints .i64 (ev.build (ev.lt.sp ys) m)), 0⟩, ⟨.cells [.ro (.flts .f32 ys) m 1], 0⟩])
  | _, _ => none
def hd : Nat → Head := fun i => bif eqN i 0 then ⟨[0, 1, 2, 6, 7, 8], some 0⟩ else bif eqN i 4 then ⟨[0, 1, 2, 6, 7, 8], some 0⟩ else ⟨[0, 1, 2, 6], some 0⟩
noncomputable def LA (f n : Nat) (s : State) := loopAt Try.prog (orcW [⟨100, insSort.R⟩] []) hd Dr.std 2 f (bodyOf Try.f85) 0 [true, true, false] (retK Try.prog [] 2 (some 0)) n s
noncomputable def LB (f n : Nat) (s : State) := loopAt Try.prog (orcW [⟨100, insSort.R⟩] []) hd Dr.std 2 f (bodyOf Try.f85) 0 [true, true, true, true] (retK Try.prog [] 2 (some 0)) n s
noncomputable def LC (f n n2 : Nat) (s : State) := loopAt Try.prog (orcW [⟨100, insSort.R⟩] []) hd Dr.std 2 f (bodyAt (bodyOf Try.f85) [true, true, true, true]) (curAt (bodyOf Try.f85) 0 [true, true, true, true]) [true, true, false] (iterK (normE 2 (hd (curAt (bodyOf Try.f85) 0 [true, true, true, true]))) (LB f n) (contAt Try.prog (orcW [⟨100, insSort.R⟩] []) hd Dr.std 2 f (bodyOf Try.f85) 0 [true, true, true, true] (retK Try.prog [] 2 (some 0)))) n2 s
theorem start (os : List Int) (ys : List Nat) (m f : Nat) :
  runFn Try.prog (orcW [⟨100, insSort.R⟩] []) hd Dr.std (some 0) f (bodyOf Try.f85) 63 [] [.own 0 0 m 0 1, .int .i64 m, .fn 62 [.ptr 1 0 0]] [⟨.typ (.ints .i64 os), 0⟩, ⟨.cells [.ro (.flts .f32 ys) m 1], 0⟩]
  = (bif true && (true && true) then LA f f (mkS (63 : Nat) [((0 : Nat), AVal.own (0 : Nat) (0 : Nat) m (0 : Nat) (1 : Nat)), ((1 : Nat), AVal.int IntKind.i64 (↑m : Int)), ((2 : Nat), AVal.fn (62 : Nat) [AVal.ptr (1 : Nat) (0 : Nat) (0 : Nat)]), ((6 : Nat), AVal.int IntKind.i64 (20 : Int)), ((7 : Nat), AVal.int IntKind.i64 (0 : Int)), ((8 : Nat), AVal.int IntKind.i64 (20 : Int))] [{ c := BC.typ (Cont.ints IntKind.i64 os), ver := (0 : Nat) }, { c := BC.cells [AVal.ro (Cont.flts FloatKind.f32 ys) m (1 : Nat)], ver := (0 : Nat) }]) else none) := by kernel_rfl
theorem roundA (os : List Int) (ys : List Nat) (m f n : Nat) :
  LA f (n + 1) (mkS 63 [(0, .own 0 0 m 0 1), (1, .int .i64 m), (2, .fn 62 [.ptr 1 0 0]), (6, .int .i64 20), (7, .int .i64 0), (8, .int .i64 20)] [⟨.typ (.ints .i64 os), 0⟩, ⟨.cells [.ro (.flts .f32 ys) m 1], 0⟩])
  = (bif decide ((20 : Int) ≤ (↑m : Int)) then bif decide ((0 : Int) = (0 : Int) ∧ (20 : Int) = (↑m : Int) ∧ m = m ∧ m ≤ ys.length ∧ (1 : Nat) ≤ m ∧ m ≤ (16 : Nat) ∧ (62 : FuncId) = (62 : FuncId) ∧ os = cq.sv m) && (true && (true && (true && true))) then LA f n (mkS (63 : Nat) [((0 : Nat), AVal.own (0 : Nat) (0 : Nat) m (0 : Nat) (1 : Nat)), ((1 : Nat), AVal.int IntKind.i64 (↑m : Int)), ((2 : Nat), AVal.fn (62 : Nat) [AVal.ptr (1 : Nat) (0 : Nat) (0 : Nat)]), ((6 : Nat), AVal.int IntKind.i64 (20 : Int)), ((7 : Nat), AVal.int IntKind.i64 (20 : Int)), ((8 : Nat), AVal.int IntKind.i64 (40 : Int))] [{ c := BC.typ (Cont.ints IntKind.i64 (ev.build (ev.lt.sp ys) m)), ver := (0 : Nat) }, { c := BC.cells [AVal.ro (Cont.flts FloatKind.f32 ys) m (1 : Nat)], ver := (0 : Nat) }]) else none else bif decide ((0 : Int) = (0 : Int) ∧ (↑m : Int) = (↑m : Int) ∧ m = m ∧ m ≤ ys.length ∧ (1 : Nat) ≤ m ∧ m ≤ (16 : Nat) ∧ (62 : FuncId) = (62 : FuncId) ∧ os = cq.sv m) && (true && (true && (true && true))) then LB f f (mkS (63 : Nat) [((0 : Nat), AVal.own (0 : Nat) (0 : Nat) m (0 : Nat) (1 : Nat)), ((1 : Nat), AVal.int IntKind.i64 (↑m : Int)), ((2 : Nat), AVal.fn (62 : Nat) [AVal.ptr (1 : Nat) (0 : Nat) (0 : Nat)]), ((6 : Nat), AVal.int IntKind.i64 (20 : Int))] [{ c := BC.typ (Cont.ints IntKind.i64 (ev.build (ev.lt.sp ys) m)), ver := (0 : Nat) }, { c := BC.cells [AVal.ro (Cont.flts FloatKind.f32 ys) m (1 : Nat)], ver := (0 : Nat) }]) else none) := by kernel_rfl
theorem roundB (os : List Int) (ys : List Nat) (m f n : Nat) :
  LB f (n + 1) (mkS 63 [(0, .own 0 0 m 0 1), (1, .int .i64 m), (2, .fn 62 [.ptr 1 0 0]), (6, .int .i64 20)] [⟨.typ (.ints .i64 os), 0⟩, ⟨.cells [.ro (.flts .f32 ys) m 1], 0⟩])
  = (bif decide ((20 : Int) < (↑m : Int)) then LC f n f (mkS (63 : Nat) [((0 : Nat), AVal.own (0 : Nat) (0 : Nat) m (0 : Nat) (1 : Nat)), ((1 : Nat), AVal.int IntKind.i64 (↑m : Int)), ((2 : Nat), AVal.fn (62 : Nat) [AVal.ptr (1 : Nat) (0 : Nat) (0 : Nat)]), ((6 : Nat), AVal.int IntKind.i64 (20 : Int)), ((7 : Nat), AVal.int IntKind.i64 (0 : Int)), ((8 : Nat), AVal.int IntKind.i64 (40 : Int))] [{ c := BC.typ (Cont.ints IntKind.i64 os), ver := (0 : Nat) }, { c := BC.cells [AVal.ro (Cont.flts FloatKind.f32 ys) m (1 : Nat)], ver := (0 : Nat) }]) else some (AVal.tup [], [{ c := BC.typ (Cont.ints IntKind.i64 os), ver := (0 : Nat) }, { c := BC.cells [AVal.ro (Cont.flts FloatKind.f32 ys) m (1 : Nat)], ver := (0 : Nat) }])) := by kernel_rfl
theorem run : ∀ args H v new, R args H = some (true, v, new) → ∃ fuel, runFn Try.prog (orcW [⟨100, insSort.R⟩] []) hd Dr.std (some 0) fuel (bodyOf Try.f85) 63 [] args H = some (v, new) := by
  intro args H v new h
  unfold R at h
  split at h
  · rename_i m b ff os ys my
    simp only [Option.some.injEq, Prod.mk.injEq, decide_eq_true_eq] at h
    obtain ⟨⟨rfl, rfl, h1, h2, h3, rfl, rfl⟩, rfl, rfl⟩ := h
    have c1 : ¬ ((20 : Int) ≤ (my : Int)) := by omega
    have c2 : ¬ ((20 : Int) < (my : Int)) := by omega
    obtain ⟨F, hF⟩ : ∃ F : Nat, F = 1 := ⟨1, rfl⟩
    refine ⟨F + 1, ?_⟩
    rw [start, roundA]
    simp -implicitDefEqProofs only [c1, c2, h1, h2, h3, and_self, eq_self, decide_true, decide_false, Bool.and_self, Bool.or_self, Bool.and_true, Bool.true_and, Bool.and_false, Bool.false_and, Bool.or_true, Bool.true_or, Bool.or_false, Bool.false_or, Bool.not_true, Bool.not_false, cond_true, cond_false]
    rw [roundB]
    simp -implicitDefEqProofs only [c1, c2, h1, h2, h3, and_self, eq_self, decide_true, decide_false, Bool.and_self, Bool.or_self, Bool.and_true, Bool.true_and, Bool.and_false, Bool.false_and, Bool.or_true, Bool.true_or, Bool.or_false, Bool.false_or, Bool.not_true, Bool.not_false, cond_true, cond_false]
  · cases h
theorem ok : EntWOk Try.prog ⟨85, R⟩ :=
  entw_ok mixed (A := (orcW [⟨100, insSort.R⟩] [])) (orcW_ok (by simp only [List.mem_cons, List.not_mem_nil, or_false, forall_eq_or_imp, forall_eq]; exact insSort.ok) (by simp)) Try.func85 (by kernel_rfl) (by kernel_rfl) (n := 63) (ts := []) (hd := hd) (dr := Dr.std) (cut := (some 0)) (by kernel_rfl) (by kernel_rfl) (by kernel_rfl) run
end stableFew

namespace sortFew
def R : List AVal → Heap → Option (Bool × AVal × Heap)
  | [.own 0 0 m 0 1, .fn ff [.ptr 1 0 0]], [⟨.typ (.ints .i64 os), 0⟩, ⟨.cells [.ro (.flts .f32 ys) my 1], 0⟩] => some (decide (my = m ∧ m ≤ ys.length ∧ 1 ≤ m ∧ m ≤ 16 ∧ ff = 62 ∧ os = cq.sv m), .tup [], [⟨.typ (.ints .i64 (ev.build (ev.lt.sp ys) m)), 0⟩, ⟨.cells [.ro (.flts .f32 ys) m 1], 0⟩])
  | _, _ => none
theorem go (os : List Int) (ys : List Nat) (m : Nat) :
  runFn Try.prog (orcW [⟨85, stableFew.R⟩] []) hd0 Dr.std (some 0) 0 (bodyOf Try.f61) 9 [] [.own 0 0 m 0 1, .fn 62 [.ptr 1 0 0]] [⟨.typ (.ints .i64 os), 0⟩, ⟨.cells [.ro (.flts .f32 ys) m 1], 0⟩]
  = (bif true && (true && true) then bif decide ((↑m : Int) = (↑m : Int) ∧ m = m ∧ m ≤ ys.length ∧ (1 : Nat) ≤ m ∧ m ≤ (16 : Nat) ∧ (62 : FuncId) = (62 : FuncId) ∧ os = cq.sv m) && (true && (true && (true && true))) then some (AVal.tup [], [{ c := BC.typ (Cont.ints IntKind.i64 (ev.build (ev.lt.sp ys) m)), ver := (0 : Nat) }, { c := BC.cells [AVal.ro (Cont.flts FloatKind.f32 ys) m (1 : Nat)], ver := (0 : Nat) }]) else none else none) := by kernel_rfl
theorem run : ∀ args H v new, R args H = some (true, v, new) → ∃ fuel, runFn Try.prog (orcW [⟨85, stableFew.R⟩] []) hd0 Dr.std (some 0) fuel (bodyOf Try.f61) 9 [] args H = some (v, new) := by
  intro args H v new h
  unfold R at h
  split at h
  · rename_i m ff os ys my
    simp only [Option.some.injEq, Prod.mk.injEq, decide_eq_true_eq] at h
    obtain ⟨⟨rfl, h1, h2, h3, rfl, rfl⟩, rfl, rfl⟩ := h
    refine ⟨0, ?_⟩
    rw [go]
    simp -implicitDefEqProofs only [h1, h2, h3, and_self, eq_self, decide_true, decide_false, Bool.and_self, Bool.or_self, Bool.and_true, Bool.true_and, Bool.and_false, Bool.false_and, Bool.or_true, Bool.true_or, Bool.or_false, Bool.false_or, Bool.not_true, Bool.not_false, cond_true, cond_false]
  · cases h
theorem ok : EntWOk Try.prog ⟨61, R⟩ :=
  entw_ok mixed (A := (orcW [⟨85, stableFew.R⟩] [])) (orcW_ok (by simp only [List.mem_cons, List.not_mem_nil, or_false, forall_eq_or_imp, forall_eq]; exact stableFew.ok) (by simp)) Try.func61 (by kernel_rfl) (by kernel_rfl) (n := 9) (ts := []) (hd := hd0) (dr := Dr.std) (cut := (some 0)) (by kernel_rfl) (by kernel_rfl) (by kernel_rfl) run
end sortFew

end Go.Proofs.Ytgblgofmdhekiaa.Ab
