/-
  Functions: seats within quotas.
-/
import Derived.Test.YtmaegbgkpjbohaaFnE
import Derived.Test.YtmaegbgkpjbohaaFnC
namespace Go.Proofs.Ytmaegbgkpjbohaa.Ab
open Go
set_option linter.unusedVariables false
set_option linter.unusedSimpArgs false
set_option maxRecDepth 100000

namespace l07Votes
def sp (xs : List Int) : Bool := ((decide (1 ≤ xs.length) && decide (xs.length ≤ 12)) && xs.all fun x => decide (0 ≤ x) && decide (x ≤ 1000000)) && decide (0 < sumOf.sp xs)
def R : List AVal → Option (Bool × AVal × List Blk)
  | [.ro (.ints .i64 xs) m 1] => some (decide (m ≤ xs.length ∧ m ≤ 4611686018427387904), .bool (sp (xs.take m)), [])
  | _ => none
def hd : Nat → Head := fun _ => ⟨[0, 2, 13, 14], none⟩
noncomputable def L (f n : Nat) (s : State) := loopAt Try.prog (orc [⟨60, l00In.R⟩, ⟨61, l07Sum.R⟩]) hd Dr.std 0 f (bodyOf Try.f59) 0 [true, true, false, true] (retK Try.prog [2] 0 none) n s
theorem start (xs : List Int) (m : Nat)  (f : Nat) :
  runFn Try.prog (orc [⟨60, l00In.R⟩, ⟨61, l07Sum.R⟩]) hd Dr.std none f (bodyOf Try.f59) 27 [2] [.ro (.ints .i64 xs) m 1] []
  = (bif decide ((↑m : Int) < (1 : Int)) then some (AVal.bool false, []) else bif decide ((12 : Int) < (↑m : Int)) then some (AVal.bool false, []) else L f f (mkS (27 : Nat) [((0 : Nat), AVal.ro (Cont.ints IntKind.i64 xs) m (1 : Nat)), ((2 : Nat), AVal.bool false), ((13 : Nat), AVal.int IntKind.i64 (↑m : Int)), ((14 : Nat), AVal.int IntKind.i64 (0 : Int))] [])) := by kernel_rfl
theorem round (xs : List Int) (m i : Nat)  (f n : Nat) :
  L f (n + 1) (mkS 27 [(0, .ro (.ints .i64 xs) m 1), (2, .bool false), (13, .int .i64 m), (14, .int .i64 i)] [])
  = (bif decide ((↑i : Int) < (↑m : Int)) then bif true && (decide ((0 : Int) ≤ (↑i : Int)) && decide ((↑i : Int) < (↑m : Int))) then bif decide ((↑i : Int).toNat < xs.length) then bif true && (true && true || true && true) then bif !(decide ((0 : Int) ≤ gz xs (↑i : Int).toNat) && decide (gz xs (↑i : Int).toNat ≤ (1000000 : Int))) then some (AVal.bool false, []) else L f n (mkS (27 : Nat) [((0 : Nat), AVal.ro (Cont.ints IntKind.i64 xs) m (1 : Nat)), ((2 : Nat), AVal.bool false), ((13 : Nat), AVal.int IntKind.i64 (↑m : Int)), ((14 : Nat), AVal.int IntKind.i64 (IntKind.i64.wrap ((↑i : Int) + (1 : Int))))] []) else none else none else none else bif decide (m ≤ xs.length ∧ m ≤ (4611686018427387904 : Nat)) && (true && true || true && true) then some (AVal.bool (decide ((0 : Int) < sumOf.sp (List.take m xs))), []) else none) := by kernel_rfl
theorem loop (xs : List Int) (m : Nat)  (f : Nat) (hx : m ≤ xs.length) (hb : m ≤ 4611686018427387904) : ∀ (d i n : Nat), i + d = m → d < n →
    L f n (mkS 27 [(0, .ro (.ints .i64 xs) m 1), (2, .bool false), (13, .int .i64 m), (14, .int .i64 i)] []) = some (.bool ((((xs.take m).drop i).all fun x => decide (0 ≤ x) && decide (x ≤ 1000000)) && decide (0 < sumOf.sp (xs.take m))), []) := by
  intro d
  induction d with
  | zero =>
    intro i n hj hn
    obtain ⟨n, rfl⟩ : ∃ k, n = k + 1 := ⟨n - 1, by omega⟩
    obtain rfl : i = m := by omega
    rw [round]
    simp [hx, hb]
  | succ d ih =>
    intro i n hj hn
    obtain ⟨n, rfl⟩ : ∃ k, n = k + 1 := ⟨n - 1, by omega⟩
    have h1 : i < m := by omega
    have h2 : i < xs.length := by omega
    rw [round]
    have h4 : (0 : Int) ≤ (i : Int) := Int.natCast_nonneg _
    have h5 : (i : Int) < (m : Int) := by omega
    simp only [h4, h5, h2, decide_true, Bool.and_self, Bool.or_self, cond_true, Int.toNat_natCast, wrap_nat i (by omega), gz_eq h2]
    rw [drop_take_cons hx h1, List.all_cons]
    have hih := ih (i + 1) n (by omega) (by omega)
    generalize hp : ((xs.take m).drop (i + 1)).all (fun x => decide (0 ≤ x) && decide (x ≤ 1000000)) = rest at hih ⊢
    generalize xs[i] = x
    try simp only []
    generalize (decide (0 ≤ x) && decide (x ≤ 1000000)) = b
    cases b
    · rfl
    · simp only [Bool.not_true, cond_false, Bool.true_and]
      exact hih
theorem run : ∀ args v new, R args = some (true, v, new) → ∃ fuel, runFn Try.prog (orc [⟨60, l00In.R⟩, ⟨61, l07Sum.R⟩]) hd Dr.std none fuel (bodyOf Try.f59) 27 [2] args [] = some (v, new) := by
  intro args v new h
  unfold R at h
  split at h
  · rename_i xs m
    simp only [Option.some.injEq, Prod.mk.injEq, decide_eq_true_eq] at h
    obtain ⟨⟨h1, h3⟩, rfl, rfl⟩ := h
    refine ⟨m + 1, ?_⟩
    rw [start]
    have hl := loop xs m (m + 1) h1 h3 m 0 (m + 1) (by omega) (by omega)
    have hlen : (xs.take m).length = m := by simp; omega
    simp only [sp, hlen]
    by_cases c1 : (m : Int) < 1
    · have : ¬ 1 ≤ m := by omega
      simp [c1, this]
    by_cases c2 : (12 : Int) < (m : Int)
    · have : ¬ m ≤ 12 := by omega
      simp [c1, c2, this]
    have d1 : 1 ≤ m := by omega
    have d2 : m ≤ 12 := by omega
    simp only [c1, c2, d1, d2, decide_true, decide_false, cond_false, Bool.and_self, Bool.true_and]
    exact hl
  · cases h
theorem ok : EntOk Try.prog ⟨59, R⟩ :=
  ent_ok (es := [⟨60, l00In.R⟩, ⟨61, l07Sum.R⟩]) mixed (by simp only [List.mem_cons, List.not_mem_nil, or_false, forall_eq_or_imp, forall_eq]; exact ⟨l00In.ok, l07Sum.ok⟩) Try.func59 (by kernel_rfl) (by kernel_rfl) (n := 27) (ts := [2]) (hd := hd) (dr := Dr.std) (cut := none) (by kernel_rfl) (by kernel_rfl) (by kernel_rfl) run
end l07Votes

namespace areVotesOf
def R : List AVal → Option (Bool × AVal × List Blk)
  | [.ro (.ints .i64 xs) m 1] => some (decide (m ≤ xs.length ∧ m ≤ 4611686018427387904), .bool (l07Votes.sp (xs.take m)), [])
  | _ => none
theorem go (xs : List Int) (m : Nat) :
  runFn Try.prog (orc [⟨52, areMany.R⟩, ⟨55, sumOf.R⟩]) hd0 Dr.std none 0 (bodyOf Try.f62) 10 [2] [.ro (.ints .i64 xs) m 1] []
  = (bif decide (m ≤ xs.length ∧ m ≤ (4611686018427387904 : Nat)) && (true && true || true && true) then bif decide ((1 : Int) ≤ (↑m : Int)) && decide ((↑m : Int) ≤ (12 : Int)) && (List.take m xs).all fun x => decide ((0 : Int) ≤ x) && decide (x ≤ (1000000 : Int)) then bif decide (m ≤ xs.length ∧ m ≤ (4611686018427387904 : Nat)) && (true && true || true && true) then some (AVal.bool (decide ((0 : Int) < sumOf.sp (List.take m xs))), []) else none else some (AVal.bool false, []) else none) := by kernel_rfl
theorem run : ∀ args v new, R args = some (true, v, new) → ∃ fuel, runFn Try.prog (orc [⟨52, areMany.R⟩, ⟨55, sumOf.R⟩]) hd0 Dr.std none fuel (bodyOf Try.f62) 10 [2] args [] = some (v, new) := by
  intro args v new h
  unfold R at h
  split at h
  · rename_i xs m
    simp only [Option.some.injEq, Prod.mk.injEq, decide_eq_true_eq] at h
    obtain ⟨⟨h1, h2⟩, rfl, rfl⟩ := h
    refine ⟨0, ?_⟩
    rw [go]
    have hlen : (xs.take m).length = m := by simp; omega
    have e1 : decide ((1 : Int) ≤ (m : Int)) = decide (1 ≤ m) := by congr 1; apply propext; omega
    have e2 : decide ((m : Int) ≤ 12) = decide (m ≤ 12) := by congr 1; apply propext; omega
    simp only [h1, h2, and_self, decide_true, Bool.and_self, Bool.or_self, cond_true, e1, e2, l07Votes.sp, hlen]
    exact bif_and _ _ _
  · cases h
theorem ok : EntOk Try.prog ⟨62, R⟩ :=
  ent_ok (es := [⟨52, areMany.R⟩, ⟨55, sumOf.R⟩]) mixed (by simp only [List.mem_cons, List.not_mem_nil, or_false, forall_eq_or_imp, forall_eq]; exact ⟨areMany.ok, sumOf.ok⟩) Try.func62 (by kernel_rfl) (by kernel_rfl) (n := 10) (ts := [2]) (hd := hd0) (dr := Dr.std) (cut := none) (by kernel_rfl) (by kernel_rfl) (by kernel_rfl) run
end areVotesOf

theorem sum_bound (B : Int) (hB : 0 ≤ B) : ∀ (xs : List Int) (s : Int), (∀ x ∈ xs, 0 ≤ x ∧ x ≤ B) → 0 ≤ s → s + (xs.length : Int) * B ≤ 4611686018427387904 →
    s ≤ xs.foldl (fun s x => IntKind.i64.wrap (s + x)) s ∧ xs.foldl (fun s x => IntKind.i64.wrap (s + x)) s ≤ s + (xs.length : Int) * B := by
  intro xs
  induction xs with
  | nil => intro s _ h0 h; simp
  | cons x r ih =>
    intro s hx h0 h
    have e : (((x :: r).length : Nat) : Int) * B = (r.length : Int) * B + B := by
      rw [List.length_cons, Int.natCast_add, Int.add_mul]; simp
    rw [e] at h ⊢
    have hx1 := hx x List.mem_cons_self
    have hr : 0 ≤ (r.length : Int) * B := Int.mul_nonneg (Int.natCast_nonneg _) hB
    have w : IntKind.i64.wrap (s + x) = s + x := IntWalk.i64_in _ (by omega)
    rw [List.foldl_cons, w]
    obtain ⟨h1, h2⟩ := ih (s + x) (fun y hy => hx y (List.mem_cons_of_mem _ hy)) (by omega) (by omega)
    exact ⟨by omega, by omega⟩
theorem votes_sum {xs : List Int} (h : l07Votes.sp xs = true) : 1 ≤ sumOf.sp xs ∧ sumOf.sp xs ≤ 12000000 ∧ xs.length ≤ 12 ∧ ∀ x ∈ xs, 0 ≤ x ∧ x ≤ 1000000 := by
  simp only [l07Votes.sp, Bool.and_eq_true, decide_eq_true_eq, List.all_eq_true] at h
  obtain ⟨⟨⟨h1, h2⟩, h3⟩, h4⟩ := h
  have hb := sum_bound 1000000 (by omega) xs 0 h3 (by omega) (by omega)
  have : sumOf.sp xs = xs.foldl (fun s x => IntKind.i64.wrap (s + x)) 0 := rfl
  exact ⟨by omega, by omega, h2, h3⟩

namespace sKeepsQuota
def sp (xs ys : List Int) : Bool := (l07Votes.sp xs && decide (ys.length = xs.length)) && ys.all fun y => decide (0 ≤ y) && decide (y ≤ 100)
def dn (a g v : Int) : Int := IntKind.i64.wrap ((IntKind.i64.wrap (v * g)).tdiv a)
def up (a g v : Int) : Int := IntKind.i64.wrap ((IntKind.i64.wrap (IntKind.i64.wrap (IntKind.i64.wrap (v * g) + a) - 1)).tdiv a)
def okp (a g v s : Int) : Bool := !(decide (s < dn a g v) || decide (up a g v < s))
theorem quota (a g v s : Int) (ha : 1 ≤ a) (ha' : a ≤ 12000000) (hg : 0 ≤ g) (hg' : g ≤ 1200) (hv : 0 ≤ v) (hv' : v ≤ 1000000) : okp a g v s = !((s != dn a g v) && (s != up a g v)) := by
  have x0 : 0 ≤ v * g := Int.mul_nonneg hv hg
  have x1 : v * g ≤ 1000000 * 1200 := Int.mul_le_mul hv' hg' hg (by omega)
  unfold okp dn up
  generalize v * g = x at x0 x1
  rw [IntWalk.i64_in x (by omega), IntWalk.i64_in (x + a) (by omega), IntWalk.i64_in (x + a - 1) (by omega), Int.tdiv_eq_ediv_of_nonneg x0, Int.tdiv_eq_ediv_of_nonneg (by omega)]
  have q1 := Int.emod_add_mul_ediv x a
  have q2 := Int.emod_nonneg x (b := a) (by omega)
  have q3 := Int.emod_lt_of_pos x (b := a) (by omega)
  have u1 := Int.emod_add_mul_ediv (x + a - 1) a
  have u2 := Int.emod_nonneg (x + a - 1) (b := a) (by omega)
  have u3 := Int.emod_lt_of_pos (x + a - 1) (b := a) (by omega)
  have qb : x / a ≤ x := Int.ediv_le_self a x0
  have ub : (x + a - 1) / a ≤ x + a - 1 := Int.ediv_le_self a (by omega)
  have qn : 0 ≤ x / a := Int.ediv_nonneg x0 (by omega)
  have un : 0 ≤ (x + a - 1) / a := Int.ediv_nonneg (by omega) (by omega)
  rw [IntWalk.i64_in (x / a) (by omega), IntWalk.i64_in ((x + a - 1) / a) (by omega)]
  generalize x / a = q at *
  generalize (x + a - 1) / a = u at *
  have l1 : q ≤ u := by
    rcases Int.lt_or_le u q with h | h
    · have : a * (u + 1) ≤ a * q := Int.mul_le_mul_of_nonneg_left h (by omega)
      rw [Int.mul_add] at this; omega
    · exact h
  have l2 : u ≤ q + 1 := by
    rcases Int.lt_or_le (q + 1) u with h | h
    · have : a * (q + 2) ≤ a * u := Int.mul_le_mul_of_nonneg_left (by omega) (by omega)
      rw [Int.mul_add] at this; omega
    · exact h
  by_cases c1 : s < q
  · have : s ≠ q := by omega
    have : s ≠ u := by omega
    simp_all
  · by_cases c2 : u < s
    · have : s ≠ q := by omega
      have : s ≠ u := by omega
      simp_all
    · have : s = q ∨ s = u := by omega
      rcases this with h | h <;> simp [c1, c2, h] <;> omega
def sq (xs ys : List Int) : Bool := (xs.zip ys).all fun p => okp (sumOf.sp xs) (sumOf.sp ys) p.1 p.2
def R : List AVal → Option (Bool × AVal × List Blk)
  | [.ro (.ints .i64 xs) m 1, .ro (.ints .i64 ys) k 1] => some (decide (m ≤ xs.length ∧ k ≤ ys.length ∧ m ≤ 4611686018427387904 ∧ k ≤ 4611686018427387904), .tup [.bool (sKeepsQuota.sp (xs.take m) (ys.take k) && sKeepsQuota.sq (xs.take m) (ys.take k)), .bool (sKeepsQuota.sp (xs.take m) (ys.take k))], [])
  | _ => none
def hd : Nat → Head := fun i => bif eqN i 2 then ⟨[0, 1, 4, 5, 7, 8, 38, 39], none⟩ else ⟨[0, 1, 4, 5, 22, 23], none⟩
noncomputable def L1 (f n : Nat) (s : State) := loopAt Try.prog (orc [⟨59, l07Votes.R⟩, ⟨60, l00In.R⟩, ⟨61, l07Sum.R⟩]) hd Dr.std 0 f (bodyOf Try.f25) 0 [true, true, false, true] (retK Try.prog [4, 5] 0 none) n s
noncomputable def L2 (f n : Nat) (s : State) := loopAt Try.prog (orc [⟨59, l07Votes.R⟩, ⟨60, l00In.R⟩, ⟨61, l07Sum.R⟩]) hd Dr.std 0 f (bodyOf Try.f25) 0 [true, true, true, true, true, false, true] (retK Try.prog [4, 5] 0 none) n s
theorem start (xs ys : List Int) (m k : Nat) (f : Nat) :
  runFn Try.prog (orc [⟨59, l07Votes.R⟩, ⟨60, l00In.R⟩, ⟨61, l07Sum.R⟩]) hd Dr.std none f (bodyOf Try.f25) 70 [4, 5] [.ro (.ints .i64 xs) m 1, .ro (.ints .i64 ys) k 1] []
  = (bif decide (m ≤ xs.length ∧ m ≤ (4611686018427387904 : Nat)) && (true && true || true && true) then bif !l07Votes.sp (List.take m xs) then some (AVal.tup [AVal.bool false, AVal.bool false], []) else bif (↑k : Int) != (↑m : Int) then some (AVal.tup [AVal.bool false, AVal.bool false], []) else L1 f f (mkS (70 : Nat) [((0 : Nat), AVal.ro (Cont.ints IntKind.i64 xs) m (1 : Nat)), ((1 : Nat), AVal.ro (Cont.ints IntKind.i64 ys) k (1 : Nat)), ((4 : Nat), AVal.bool false), ((5 : Nat), AVal.bool false), ((22 : Nat), AVal.int IntKind.i64 (↑k : Int)), ((23 : Nat), AVal.int IntKind.i64 (0 : Int))] []) else none) := by kernel_rfl
theorem round1 (xs ys : List Int) (m k i : Nat) (f n : Nat) :
  L1 f (n + 1) (mkS 70 [(0, .ro (.ints .i64 xs) m 1), (1, .ro (.ints .i64 ys) k 1), (4, .bool false), (5, .bool false), (22, .int .i64 k), (23, .int .i64 i)] [])
  = (bif decide ((↑i : Int) < (↑k : Int)) then bif true && (decide ((0 : Int) ≤ (↑i : Int)) && decide ((↑i : Int) < (↑k : Int))) then bif decide ((↑i : Int).toNat < ys.length) then bif true && (true && true || true && true) then bif !(decide ((0 : Int) ≤ gz ys (↑i : Int).toNat) && decide (gz ys (↑i : Int).toNat ≤ (100 : Int))) then some (AVal.tup [AVal.bool false, AVal.bool false], []) else L1 f n (mkS (70 : Nat) [((0 : Nat), AVal.ro (Cont.ints IntKind.i64 xs) m (1 : Nat)), ((1 : Nat), AVal.ro (Cont.ints IntKind.i64 ys) k (1 : Nat)), ((4 : Nat), AVal.bool false), ((5 : Nat), AVal.bool false), ((22 : Nat), AVal.int IntKind.i64 (↑k : Int)), ((23 : Nat), AVal.int IntKind.i64 (IntKind.i64.wrap ((↑i : Int) + (1 : Int))))] []) else none else none else none else bif decide (m ≤ xs.length ∧ m ≤ (4611686018427387904 : Nat)) && (true && true || true && true) then bif decide (k ≤ ys.length ∧ k ≤ (4611686018427387904 : Nat)) && (true && true || true && true) then L2 f f (mkS (70 : Nat) [((0 : Nat), AVal.ro (Cont.ints IntKind.i64 xs) m (1 : Nat)), ((1 : Nat), AVal.ro (Cont.ints IntKind.i64 ys) k (1 : Nat)), ((4 : Nat), AVal.bool false), ((5 : Nat), AVal.bool false), ((7 : Nat), AVal.int IntKind.i64 (sumOf.sp (List.take m xs))), ((8 : Nat), AVal.int IntKind.i64 (sumOf.sp (List.take k ys))), ((38 : Nat), AVal.int IntKind.i64 (↑k : Int)), ((39 : Nat), AVal.int IntKind.i64 (0 : Int))] []) else none else none) := by kernel_rfl
theorem round2 (xs ys : List Int) (m k i : Nat) (a g : Int) (f n : Nat) :
  L2 f (n + 1) (mkS 70 [(0, .ro (.ints .i64 xs) m 1), (1, .ro (.ints .i64 ys) k 1), (4, .bool false), (5, .bool false), (7, .int .i64 a), (8, .int .i64 g), (38, .int .i64 k), (39, .int .i64 i)] [])
  = (bif decide ((↑i : Int) < (↑k : Int)) then bif true && (decide ((0 : Int) ≤ (↑i : Int)) && decide ((↑i : Int) < (↑m : Int))) then bif decide ((↑i : Int).toNat < xs.length) then bif true && (decide ((0 : Int) ≤ (↑i : Int)) && decide ((↑i : Int) < (↑k : Int))) then bif decide ((↑i : Int).toNat < ys.length) then bif !a == (0 : Int) then bif decide (gz ys (↑i : Int).toNat < IntKind.i64.wrap ((IntKind.i64.wrap (gz xs (↑i : Int).toNat * g)).tdiv a)) then some (AVal.tup [AVal.bool false, AVal.bool true], []) else bif true && (decide ((0 : Int) ≤ (↑i : Int)) && decide ((↑i : Int) < (↑k : Int))) then bif decide ((↑i : Int).toNat < ys.length) then bif !a == (0 : Int) then bif decide (IntKind.i64.wrap ((IntKind.i64.wrap (IntKind.i64.wrap (IntKind.i64.wrap (gz xs (↑i : Int).toNat * g) + a) - (1 : Int))).tdiv a) < gz ys (↑i : Int).toNat) then some (AVal.tup [AVal.bool false, AVal.bool true], []) else L2 f n (mkS (70 : Nat) [((0 : Nat), AVal.ro (Cont.ints IntKind.i64 xs) m (1 : Nat)), ((1 : Nat), AVal.ro (Cont.ints IntKind.i64 ys) k (1 : Nat)), ((4 : Nat), AVal.bool false), ((5 : Nat), AVal.bool false), ((7 : Nat), AVal.int IntKind.i64 a), ((8 : Nat), AVal.int IntKind.i64 g), ((38 : Nat), AVal.int IntKind.i64 (↑k : Int)), ((39 : Nat), AVal.int IntKind.i64 (IntKind.i64.wrap ((↑i : Int) + (1 : Int))))] []) else none else none else none else none else none else none else none else none else some (AVal.tup [AVal.bool true, AVal.bool true], [])) := by kernel_rfl
theorem loop2 (xs ys : List Int) (m : Nat) (a g : Int) (f : Nat) (hx : m ≤ xs.length) (hy : m ≤ ys.length) (hb : m ≤ 1048576) (ha : a ≠ 0) : ∀ (d i n : Nat), i + d = m → d < n →
    L2 f n (mkS 70 [(0, .ro (.ints .i64 xs) m 1), (1, .ro (.ints .i64 ys) m 1), (4, .bool false), (5, .bool false), (7, .int .i64 a), (8, .int .i64 g), (38, .int .i64 m), (39, .int .i64 i)] []) = some (.tup [.bool ((((xs.take m).drop i).zip ((ys.take m).drop i)).all fun p => okp a g p.1 p.2), .bool true], []) := by
  have ha0 : (a == 0) = false := by simpa using ha
  intro d
  induction d with
  | zero =>
    intro i n hi hn
    obtain ⟨n, rfl⟩ : ∃ k, n = k + 1 := ⟨n - 1, by omega⟩
    obtain rfl : i = m := by omega
    rw [round2]
    simp
  | succ d ih =>
    intro i n hi hn
    obtain ⟨n, rfl⟩ : ∃ k, n = k + 1 := ⟨n - 1, by omega⟩
    have h1 : i < m := by omega
    have h2 : i < xs.length := by omega
    have h3 : i < ys.length := by omega
    rw [round2]
    have h4 : (0 : Int) ≤ (i : Int) := Int.natCast_nonneg _
    have h5 : (i : Int) < (m : Int) := by omega
    simp only [h4, h5, h2, h3, ha0, decide_true, Bool.and_self, Bool.or_self, Bool.not_false, cond_true, Int.toNat_natCast, wrap_nat i (by omega), gz_eq h2, gz_eq h3]
    rw [drop_take_cons hx h1, drop_take_cons hy h1, List.zip_cons_cons, List.all_cons, ih (i + 1) n (by omega) (by omega)]
    generalize (((xs.take m).drop (i + 1)).zip ((ys.take m).drop (i + 1))).all (fun p => okp a g p.1 p.2) = rest
    have hd : IntKind.i64.wrap ((IntKind.i64.wrap (xs[i] * g)).tdiv a) = dn a g xs[i] := rfl
    have hu : IntKind.i64.wrap ((IntKind.i64.wrap (IntKind.i64.wrap (IntKind.i64.wrap (xs[i] * g) + a) - 1)).tdiv a) = up a g xs[i] := rfl
    rw [hd, hu]
    simp only [okp]
    by_cases c1 : ys[i] < dn a g xs[i] <;> by_cases c2 : up a g xs[i] < ys[i] <;> simp [c1, c2]
theorem loop1 (xs ys : List Int) (m : Nat) (f : Nat) (hx : m ≤ xs.length) (hy : m ≤ ys.length) (hb : m ≤ 1048576) (hf : m < f) (ha : sumOf.sp (xs.take m) ≠ 0) : ∀ (d i n : Nat), i + d = m → d < n →
    L1 f n (mkS 70 [(0, .ro (.ints .i64 xs) m 1), (1, .ro (.ints .i64 ys) m 1), (4, .bool false), (5, .bool false), (22, .int .i64 m), (23, .int .i64 i)] []) = some (.tup [.bool ((((ys.take m).drop i).all fun y => decide (0 ≤ y) && decide (y ≤ 100)) && sq (xs.take m) (ys.take m)), .bool (((ys.take m).drop i).all fun y => decide (0 ≤ y) && decide (y ≤ 100))], []) := by
  intro d
  induction d with
  | zero =>
    intro i n hi hn
    obtain ⟨n, rfl⟩ : ∃ k, n = k + 1 := ⟨n - 1, by omega⟩
    obtain rfl : i = m := by omega
    have hb' : i ≤ 4611686018427387904 := by omega
    rw [round1]
    have hl := loop2 xs ys i (sumOf.sp (xs.take i)) (sumOf.sp (ys.take i)) f hx hy hb ha i 0 f (by omega) hf
    have c : ¬ ((i : Int) < (i : Int)) := by omega
    simp only [c, hx, hy, hb', and_self, decide_true, decide_false, Bool.and_self, Bool.or_self, cond_true, cond_false]
    have hl' := hl
    simp only [List.drop_zero] at hl'
    have e : (ys.take i).drop i = [] := by simp
    rw [e]
    exact hl'
  | succ d ih =>
    intro i n hi hn
    obtain ⟨n, rfl⟩ : ∃ k, n = k + 1 := ⟨n - 1, by omega⟩
    have h1 : i < m := by omega
    have h3 : i < ys.length := by omega
    rw [round1]
    have h4 : (0 : Int) ≤ (i : Int) := Int.natCast_nonneg _
    have h5 : (i : Int) < (m : Int) := by omega
    simp only [h4, h5, h3, decide_true, Bool.and_self, Bool.or_self, Bool.not_false, cond_true, Int.toNat_natCast, wrap_nat i (by omega), gz_eq h3]
    rw [drop_take_cons hy h1, List.all_cons, ih (i + 1) n (by omega) (by omega)]
    generalize (decide (0 ≤ ys[i]) && decide (ys[i] ≤ 100)) = b
    cases b <;> simp
theorem run : ∀ args v new, R args = some (true, v, new) → ∃ fuel, runFn Try.prog (orc [⟨59, l07Votes.R⟩, ⟨60, l00In.R⟩, ⟨61, l07Sum.R⟩]) hd Dr.std none fuel (bodyOf Try.f25) 70 [4, 5] args [] = some (v, new) := by
  intro args v new h
  unfold R at h
  split at h
  · rename_i xs m ys k
    simp only [Option.some.injEq, Prod.mk.injEq, decide_eq_true_eq] at h
    obtain ⟨⟨h1, h2, h3, h4⟩, rfl, rfl⟩ := h
    refine ⟨m + 1, ?_⟩
    rw [start]
    have e1 : (xs.take m).length = m := by simp; omega
    have e2 : (ys.take k).length = k := by simp; omega
    simp only [h1, h3, and_self, decide_true, Bool.and_self, Bool.or_self, cond_true]
    cases hv : l07Votes.sp (xs.take m) with
    | false => simp [sp, hv]
    | true =>
      simp only [Bool.not_true, cond_false]
      by_cases hk : k = m
      · subst hk
        obtain ⟨v1, v2, v3, v4⟩ := votes_sum hv
        have hl := loop1 xs ys k (k + 1) h1 h2 (by omega) (by omega) (by omega) k 0 (k + 1) (by omega) (by omega)
        simp only [bne_self_eq_false, cond_false]
        have hl' := hl
        simp only [List.drop_zero] at hl'
        simp only [sp, hv, e1, e2, decide_true, Bool.and_self, Bool.true_and]
        exact hl'
      · have c : ((k : Int) != (m : Int)) = true := by simp only [bne_iff_ne, ne_eq, Int.natCast_inj]; exact hk
        simp [c, sp, hv, e1, e2, hk]
  · cases h
theorem ok : EntOk Try.prog ⟨25, R⟩ :=
  ent_okA mixed (A := (orc [⟨59, l07Votes.R⟩, ⟨60, l00In.R⟩, ⟨61, l07Sum.R⟩])) (orc_ok (by simp only [List.mem_cons, List.not_mem_nil, or_false, forall_eq_or_imp, forall_eq]; exact ⟨l07Votes.ok, l00In.ok, l07Sum.ok⟩)) Try.func25 (by kernel_rfl) (by kernel_rfl) (n := 70) (ts := [4, 5]) (hd := hd) (dr := Dr.std) (cut := none) (by kernel_rfl) (by kernel_rfl) (by kernel_rfl) run
end sKeepsQuota

namespace iKeepsQuota
def R : List AVal → Option (Bool × AVal × List Blk)
  | [.ro (.ints .i64 xs) m 1, .ro (.ints .i64 ys) k 1] => some (decide (m ≤ xs.length ∧ k ≤ ys.length ∧ m ≤ 4611686018427387904 ∧ k ≤ 4611686018427387904), .tup [.bool (sKeepsQuota.sp (xs.take m) (ys.take k) && sKeepsQuota.sq (xs.take m) (ys.take k)), .bool (sKeepsQuota.sp (xs.take m) (ys.take k))], [])
  | _ => none
def hd : Nat → Head := fun _ => ⟨[1, 4, 5, 7, 8, 28, 29, 30], none⟩
noncomputable def L (f n : Nat) (s : State) := loopAt Try.prog (orc [⟨62, areVotesOf.R⟩, ⟨52, areMany.R⟩, ⟨55, sumOf.R⟩]) hd Dr.std 0 f (bodyOf Try.f26) 0 [true, true, true, true, false, true] (retK Try.prog [4, 5] 0 none) n s
theorem start (xs ys : List Int) (m k : Nat) (f : Nat) :
  runFn Try.prog (orc [⟨62, areVotesOf.R⟩, ⟨52, areMany.R⟩, ⟨55, sumOf.R⟩]) hd Dr.std none f (bodyOf Try.f26) 62 [4, 5] [.ro (.ints .i64 xs) m 1, .ro (.ints .i64 ys) k 1] []
  = (bif decide (m ≤ xs.length ∧ m ≤ (4611686018427387904 : Nat)) && (true && true || true && true) then bif !l07Votes.sp (List.take m xs) then some (AVal.tup [AVal.bool false, AVal.bool false], []) else bif decide (k ≤ ys.length ∧ k ≤ (4611686018427387904 : Nat)) && (true && (true && (true && true)) || true && true) then bif !(decide ((↑m : Int) ≤ (↑k : Int)) && decide ((↑k : Int) ≤ (↑m : Int)) && (List.take k ys).all fun x => decide ((0 : Int) ≤ x) && decide (x ≤ (100 : Int))) then some (AVal.tup [AVal.bool false, AVal.bool false], []) else bif decide (m ≤ xs.length ∧ m ≤ (4611686018427387904 : Nat)) && (true && true || true && true) then bif decide (k ≤ ys.length ∧ k ≤ (4611686018427387904 : Nat)) && (true && true || true && true) then L f f (mkS (62 : Nat) [((1 : Nat), AVal.ro (Cont.ints IntKind.i64 ys) k (1 : Nat)), ((4 : Nat), AVal.bool false), ((5 : Nat), AVal.bool false), ((7 : Nat), AVal.int IntKind.i64 (sumOf.sp (List.take m xs))), ((8 : Nat), AVal.int IntKind.i64 (sumOf.sp (List.take k ys))), ((28 : Nat), AVal.ro (Cont.ints IntKind.i64 xs) m (1 : Nat)), ((29 : Nat), AVal.int IntKind.i64 (↑m : Int)), ((30 : Nat), AVal.int IntKind.i64 (0 : Int))] []) else none else none else none else none) := by kernel_rfl
theorem round (xs ys : List Int) (m k i : Nat) (a g : Int) (f n : Nat) :
  L f (n + 1) (mkS 62 [(1, .ro (.ints .i64 ys) k 1), (4, .bool false), (5, .bool false), (7, .int .i64 a), (8, .int .i64 g), (28, .ro (.ints .i64 xs) m 1), (29, .int .i64 m), (30, .int .i64 i)] [])
  = (bif decide ((↑i : Int) < (↑m : Int)) then bif true && (decide ((0 : Int) ≤ (↑i : Int)) && decide ((↑i : Int) < (↑m : Int))) then bif decide ((↑i : Int).toNat < xs.length) then bif !a == (0 : Int) then bif true && (decide ((0 : Int) ≤ (↑i : Int)) && decide ((↑i : Int) < (↑k : Int))) then bif decide ((↑i : Int).toNat < ys.length) then bif gz ys (↑i : Int).toNat != IntKind.i64.wrap ((IntKind.i64.wrap (gz xs (↑i : Int).toNat * g)).tdiv a) then bif true && (decide ((0 : Int) ≤ (↑i : Int)) && decide ((↑i : Int) < (↑k : Int))) then bif decide ((↑i : Int).toNat < ys.length) then bif !a == (0 : Int) then bif gz ys (↑i : Int).toNat != IntKind.i64.wrap ((IntKind.i64.wrap (IntKind.i64.wrap (IntKind.i64.wrap (gz xs (↑i : Int).toNat * g) + a) - (1 : Int))).tdiv a) then some (AVal.tup [AVal.bool false, AVal.bool true], []) else L f n (mkS (62 : Nat) [((1 : Nat), AVal.ro (Cont.ints IntKind.i64 ys) k (1 : Nat)), ((4 : Nat), AVal.bool false), ((5 : Nat), AVal.bool false), ((7 : Nat), AVal.int IntKind.i64 a), ((8 : Nat), AVal.int IntKind.i64 g), ((28 : Nat), AVal.ro (Cont.ints IntKind.i64 xs) m (1 : Nat)), ((29 : Nat), AVal.int IntKind.i64 (↑m : Int)), ((30 : Nat), AVal.int IntKind.i64 (IntKind.i64.wrap ((↑i : Int) + (1 : Int))))] []) else none else none else none else L f n (mkS (62 : Nat) [((1 : Nat), AVal.ro (Cont.ints IntKind.i64 ys) k (1 : Nat)), ((4 : Nat), AVal.bool false), ((5 : Nat), AVal.bool false), ((7 : Nat), AVal.int IntKind.i64 a), ((8 : Nat), AVal.int IntKind.i64 g), ((28 : Nat), AVal.ro (Cont.ints IntKind.i64 xs) m (1 : Nat)), ((29 : Nat), AVal.int IntKind.i64 (↑m : Int)), ((30 : Nat), AVal.int IntKind.i64 (IntKind.i64.wrap ((↑i : Int) + (1 : Int))))] []) else none else none else none else none else none else some (AVal.tup [AVal.bool true, AVal.bool true], [])) := by kernel_rfl
theorem loop (xs ys : List Int) (m : Nat) (a g : Int) (f : Nat) (hx : m ≤ xs.length) (hy : m ≤ ys.length) (hb : m ≤ 1048576) (ha : 1 ≤ a) (ha' : a ≤ 12000000) (hg : 0 ≤ g) (hg' : g ≤ 1200) (hv : ∀ x ∈ xs.take m, 0 ≤ x ∧ x ≤ 1000000) : ∀ (d i n : Nat), i + d = m → d < n →
    L f n (mkS 62 [(1, .ro (.ints .i64 ys) m 1), (4, .bool false), (5, .bool false), (7, .int .i64 a), (8, .int .i64 g), (28, .ro (.ints .i64 xs) m 1), (29, .int .i64 m), (30, .int .i64 i)] []) = some (.tup [.bool ((((xs.take m).drop i).zip ((ys.take m).drop i)).all fun p => sKeepsQuota.okp a g p.1 p.2), .bool true], []) := by
  have ha0 : (a == 0) = false := by simp; omega
  intro d
  induction d with
  | zero =>
    intro i n hi hn
    obtain ⟨n, rfl⟩ : ∃ k, n = k + 1 := ⟨n - 1, by omega⟩
    obtain rfl : i = m := by omega
    rw [round]
    simp
  | succ d ih =>
    intro i n hi hn
    obtain ⟨n, rfl⟩ : ∃ k, n = k + 1 := ⟨n - 1, by omega⟩
    have h1 : i < m := by omega
    have h2 : i < xs.length := by omega
    have h3 : i < ys.length := by omega
    rw [round]
    have h4 : (0 : Int) ≤ (i : Int) := Int.natCast_nonneg _
    have h5 : (i : Int) < (m : Int) := by omega
    simp only [h4, h5, h2, h3, ha0, decide_true, Bool.and_self, Bool.or_self, Bool.not_false, cond_true, Int.toNat_natCast, wrap_nat i (by omega), gz_eq h2, gz_eq h3]
    have hvi := hv xs[i] (List.mem_take_iff_getElem.2 ⟨i, by omega, rfl⟩)
    rw [drop_take_cons hx h1, drop_take_cons hy h1, List.zip_cons_cons, List.all_cons, ih (i + 1) n (by omega) (by omega), sKeepsQuota.quota a g xs[i] ys[i] ha ha' hg hg' hvi.1 hvi.2]
    generalize (((xs.take m).drop (i + 1)).zip ((ys.take m).drop (i + 1))).all (fun p => sKeepsQuota.okp a g p.1 p.2) = rest
    have hd : IntKind.i64.wrap ((IntKind.i64.wrap (xs[i] * g)).tdiv a) = sKeepsQuota.dn a g xs[i] := rfl
    have hu : IntKind.i64.wrap ((IntKind.i64.wrap (IntKind.i64.wrap (IntKind.i64.wrap (xs[i] * g) + a) - 1)).tdiv a) = sKeepsQuota.up a g xs[i] := rfl
    rw [hd, hu]
    cases (ys[i] != sKeepsQuota.dn a g xs[i]) <;> cases (ys[i] != sKeepsQuota.up a g xs[i]) <;> rfl
theorem run : ∀ args v new, R args = some (true, v, new) → ∃ fuel, runFn Try.prog (orc [⟨62, areVotesOf.R⟩, ⟨52, areMany.R⟩, ⟨55, sumOf.R⟩]) hd Dr.std none fuel (bodyOf Try.f26) 62 [4, 5] args [] = some (v, new) := by
  intro args v new h
  unfold R at h
  split at h
  · rename_i xs m ys k
    simp only [Option.some.injEq, Prod.mk.injEq, decide_eq_true_eq] at h
    obtain ⟨⟨h1, h2, h3, h4⟩, rfl, rfl⟩ := h
    refine ⟨m + 1, ?_⟩
    rw [start]
    have e1 : (xs.take m).length = m := by simp; omega
    have e2 : (ys.take k).length = k := by simp; omega
    simp only [h1, h2, h3, h4, and_self, decide_true, Bool.and_self, Bool.or_self, cond_true]
    cases hv : l07Votes.sp (xs.take m) with
    | false => simp [sKeepsQuota.sp, hv]
    | true =>
      simp only [Bool.not_true, cond_false]
      by_cases hk : k = m
      · subst hk
        obtain ⟨v1, v2, v3, v4⟩ := votes_sum hv
        have c : decide ((k : Int) ≤ (k : Int)) = true := by simp
        simp only [c, Bool.and_self, Bool.true_and, sKeepsQuota.sp, hv, e1, e2, decide_true]
        cases ha : (ys.take k).all fun x => decide (0 ≤ x) && decide (x ≤ 100) with
        | false => simp
        | true =>
          have ha' : ∀ y ∈ ys.take k, 0 ≤ y ∧ y ≤ 100 := by simpa using ha
          have hb := sum_bound 100 (by omega) (ys.take k) 0 ha' (by omega) (by omega)
          have hg : sumOf.sp (ys.take k) = (ys.take k).foldl (fun s x => IntKind.i64.wrap (s + x)) 0 := rfl
          have hl := loop xs ys k (sumOf.sp (xs.take k)) (sumOf.sp (ys.take k)) (k + 1) h1 h2 (by omega) v1 v2 (by omega) (by omega) v4 k 0 (k + 1) (by omega) (by omega)
          simp only [Bool.not_true, cond_false]
          simpa [sKeepsQuota.sq] using hl
      · have c : (decide ((m : Int) ≤ (k : Int)) && decide ((k : Int) ≤ (m : Int))) = false := by
          simp only [Bool.and_eq_false_iff, decide_eq_false_iff_not]; omega
        have c' : decide (k = m) = false := by simpa using hk
        simp only [c, Bool.false_and, Bool.not_false, cond_true, sKeepsQuota.sp, hv, e1, e2, c', Bool.and_false]
  · cases h
theorem ok : EntOk Try.prog ⟨26, R⟩ :=
  ent_okA mixed (A := (orc [⟨62, areVotesOf.R⟩, ⟨52, areMany.R⟩, ⟨55, sumOf.R⟩])) (orc_ok (by simp only [List.mem_cons, List.not_mem_nil, or_false, forall_eq_or_imp, forall_eq]; exact ⟨areVotesOf.ok, areMany.ok, sumOf.ok⟩)) Try.func26 (by kernel_rfl) (by kernel_rfl) (n := 62) (ts := [4, 5]) (hd := hd) (dr := Dr.std) (cut := none) (by kernel_rfl) (by kernel_rfl) (by kernel_rfl) run
end iKeepsQuota

namespace FnExactKeepsQuota
def R : List AVal → Option (Bool × AVal × List Blk)
  | [.ro (.ints .i64 xs) m 1, .ro (.ints .i64 ys) k 1] => some (decide (m ≤ xs.length ∧ k ≤ ys.length), .bool true, [])
  | _ => none
theorem go (xs ys : List Int) (m k : Nat) :
  runFn Try.prog (orc [⟨15, toInt64S.R⟩, ⟨25, sKeepsQuota.R⟩, ⟨26, iKeepsQuota.R⟩, ⟨17, eqInt64S.R⟩]) hd0 Dr.std (some 0) 0 (bodyOf Try.f6) 53 [4] [.ro (.ints .i64 xs) m 1, .ro (.ints .i64 ys) k 1] []
  = (bif decide ((1048576 : Int) < (↑m : Int)) then some (AVal.bool true, []) else bif decide ((1048576 : Int) < (↑k : Int)) then some (AVal.bool true, []) else bif decide (m ≤ xs.length ∧ m ≤ (1048576 : Nat)) && (true && true || true && (true && true)) then bif decide (k ≤ ys.length ∧ k ≤ (1048576 : Nat)) && (true && true || true && (true && true)) then bif decide (m ≤ (List.take m xs).length ∧ k ≤ (List.take k ys).length ∧ m ≤ (4611686018427387904 : Nat) ∧ k ≤ (4611686018427387904 : Nat)) && (false && (false && true) || true && (true && true) && true) then bif decide (m ≤ xs.length ∧ m ≤ (1048576 : Nat)) && (true && true || true && (true && true)) then bif decide (k ≤ ys.length ∧ k ≤ (1048576 : Nat)) && (true && true || true && (true && true)) then bif decide (m ≤ (List.take m xs).length ∧ k ≤ (List.take k ys).length ∧ m ≤ (4611686018427387904 : Nat) ∧ k ≤ (4611686018427387904 : Nat)) && (false && (false && true) || true && (true && true) && true) then bif !(sKeepsQuota.sp (List.take m (List.take m xs)) (List.take k (List.take k ys)) && sKeepsQuota.sq (List.take m (List.take m xs)) (List.take k (List.take k ys))) == (sKeepsQuota.sp (List.take m (List.take m xs)) (List.take k (List.take k ys)) && sKeepsQuota.sq (List.take m (List.take m xs)) (List.take k (List.take k ys))) then some (AVal.bool false, []) else bif !sKeepsQuota.sp (List.take m (List.take m xs)) (List.take k (List.take k ys)) == sKeepsQuota.sp (List.take m (List.take m xs)) (List.take k (List.take k ys)) then some (AVal.bool false, []) else bif decide (m ≤ xs.length ∧ m ≤ (1048576 : Nat)) && (true && true || true && (true && true)) then bif decide (m ≤ (List.take m xs).length ∧ m ≤ (List.take m xs).length ∧ m ≤ (4611686018427387904 : Nat)) && (false && (false && true) || true && true) then bif !decide (List.take m (List.take m xs) = List.take m (List.take m xs)) then some (AVal.bool false, []) else bif decide (k ≤ ys.length ∧ k ≤ (1048576 : Nat)) && (true && true || true && (true && true)) then bif decide (k ≤ (List.take k ys).length ∧ k ≤ (List.take k ys).length ∧ k ≤ (4611686018427387904 : Nat)) && (false && (false && true) || true && true) then bif !decide (List.take k (List.take k ys) = List.take k (List.take k ys)) then some (AVal.bool false, []) else some (AVal.bool true, []) else none else none else none else none else none else none else none else none else none else none) := by kernel_rfl
theorem run : ∀ args v new, R args = some (true, v, new) → ∃ fuel, runFn Try.prog (orc [⟨15, toInt64S.R⟩, ⟨25, sKeepsQuota.R⟩, ⟨26, iKeepsQuota.R⟩, ⟨17, eqInt64S.R⟩]) hd0 Dr.std (some 0) fuel (bodyOf Try.f6) 53 [4] args [] = some (v, new) := by
  intro args v new h
  unfold R at h
  split at h
  · rename_i xs m ys k
    simp only [Option.some.injEq, Prod.mk.injEq, decide_eq_true_eq] at h
    obtain ⟨⟨h1, h2⟩, rfl, rfl⟩ := h
    refine ⟨0, ?_⟩
    rw [go]
    by_cases b0 : (1048576 : Int) < (m : Int)
    · simp only [b0, decide_true, cond_true]
    by_cases b1 : (1048576 : Int) < (k : Int)
    · simp only [b0, b1, decide_true, decide_false, cond_false, cond_true]
    have g1 : m ≤ 1048576 := by omega
    have g2 : k ≤ 1048576 := by omega
    have g3 : m ≤ 4611686018427387904 := by omega
    have g4 : k ≤ 4611686018427387904 := by omega
    have e1 : (xs.take m).length = m := by simp; omega
    have e2 : (ys.take k).length = k := by simp; omega
    simp only [b0, b1, g1, g2, g3, g4, e1, e2, h1, h2, List.take_take, Nat.min_self, Nat.le_refl, List.take_length, marks_length, take_marks, one_neg, i0_1, i1_b, true_and, and_true, and_self, decide_true, decide_false, Bool.and_self, Bool.or_self, Bool.and_true, Bool.true_and, Bool.and_false, Bool.false_and, Bool.or_true, Bool.true_or, Bool.or_false, Bool.false_or, Bool.not_true, Bool.not_false, cond_true, cond_false, bne_self_eq_false, beq_self_eq_true]
  · cases h
theorem ok : EntOk Try.prog ⟨6, R⟩ :=
  ent_ok (es := [⟨15, toInt64S.R⟩, ⟨25, sKeepsQuota.R⟩, ⟨26, iKeepsQuota.R⟩, ⟨17, eqInt64S.R⟩]) mixed (by simp only [List.mem_cons, List.not_mem_nil, or_false, forall_eq_or_imp, forall_eq]; exact ⟨toInt64S.ok, sKeepsQuota.ok, iKeepsQuota.ok, eqInt64S.ok⟩) Try.func6 (by kernel_rfl) (by kernel_rfl) (n := 53) (ts := [4]) (hd := hd0) (dr := Dr.std) (cut := some 0) (by kernel_rfl) (by kernel_rfl) (by kernel_rfl) run
end FnExactKeepsQuota

end Go.Proofs.Ytmaegbgkpjbohaa.Ab
