/-
  Functions: games that are valid, and with both players exchanged.
-/
import Derived.Test.YthecninmmojkgaaFnF
import Derived.Test.YthecninmmojkgaaFnXA
namespace Go.Proofs.Ythecninmmojkgaa.Ab
open Go
set_option linter.unusedVariables false
set_option linter.unusedSimpArgs false
set_option maxRecDepth 100000

namespace gm
def gain.sp (x : Int) : Bool := decide (-1000 ≤ x) && decide (x ≤ 1000)
def sp (r c : Int) (xs ys : List Int) : Bool := ((decide (1 ≤ r) && decide (r ≤ 6)) && (decide (1 ≤ c) && decide (c ≤ 6))) && ((decide ((xs.length : Int) = r * c) && xs.all gain.sp) && (decide ((ys.length : Int) = r * c) && ys.all gain.sp))
theorem valid {r c : Int} {xs ys : List Int} (h : sp r c xs ys = true) : ∃ R C : Nat, r = R ∧ c = C ∧ (1 ≤ R ∧ R ≤ 6) ∧ (1 ≤ C ∧ C ≤ 6) ∧ xs.length = R * C ∧ ys.length = R * C ∧ (∀ x ∈ xs, -1000 ≤ x ∧ x ≤ 1000) ∧ ∀ y ∈ ys, -1000 ≤ y ∧ y ≤ 1000 := by
  simp only [sp, gain.sp, Bool.and_eq_true, decide_eq_true_eq, List.all_eq_true] at h
  obtain ⟨⟨⟨h1, h2⟩, h3, h4⟩, ⟨h5, h6⟩, h7, h8⟩ := h
  refine ⟨r.toNat, c.toNat, by omega, by omega, by omega, by omega, ?_, ?_, h6, h8⟩
  · have : ((r.toNat * c.toNat : Nat) : Int) = r * c := by rw [Int.natCast_mul, Int.toNat_of_nonneg (by omega), Int.toNat_of_nonneg (by omega)]
    omega
  · have : ((r.toNat * c.toNat : Nat) : Int) = r * c := by rw [Int.natCast_mul, Int.toNat_of_nonneg (by omega), Int.toNat_of_nonneg (by omega)]
    omega
theorem ix_lt {R C i k : Nat} (hi : i < R) (hk : k < C) : i * C + k < R * C := by
  have : (i + 1) * C ≤ R * C := Nat.mul_le_mul_right C hi
  rw [Nat.add_mul, Nat.one_mul] at this
  omega
theorem le_66 {r c : Int} (h1 : 1 ≤ r) (h2 : r ≤ 6) (h3 : 1 ≤ c) (h4 : c ≤ 6) : 1 ≤ r * c ∧ r * c ≤ 36 := by
  have a := Int.mul_le_mul h2 h4 (by omega) (by omega)
  have b := Int.mul_le_mul h1 h3 (by omega) (by omega)
  omega
theorem le_36 {R C : Nat} (hr : R ≤ 6) (hc : C ≤ 6) : R * C ≤ 36 := Nat.mul_le_mul hr hc
end gm
namespace tn
def row (r c : Nat) (xs : List Int) (k n : Nat) : List Int := (List.range n).map fun i => gz xs (i * c + k)
def pre (r c : Nat) (xs : List Int) (k i : Nat) : List Int := ((List.range k).flatMap fun k => row r c xs k r) ++ row r c xs k i
def sv (r c : Nat) (xs : List Int) : List Int := (List.range c).flatMap fun k => row r c xs k r
theorem pre_succ (r c : Nat) (xs : List Int) (k i : Nat) : pre r c xs k i ++ [gz xs (i * c + k)] = pre r c xs k (i + 1) := by
  simp [pre, row, List.range_succ]
theorem pre_next (r c : Nat) (xs : List Int) (k : Nat) : pre r c xs k r = pre r c xs (k + 1) 0 := by
  simp [pre, row, List.range_succ]
theorem pre_zero (r c : Nat) (xs : List Int) : pre r c xs 0 0 = [] := by simp [pre, row]
theorem pre_all (r c : Nat) (xs : List Int) : pre r c xs c 0 = sv r c xs := by simp [pre, sv, row]
theorem pre_length (r c : Nat) (xs : List Int) (k i : Nat) : (pre r c xs k i).length = k * r + i := by
  induction k generalizing i with
  | zero => simp [pre, row]
  | succ k ih =>
    have h := ih r
    simp only [pre, List.length_append] at h ⊢
    rw [List.range_succ, List.flatMap_append, List.length_append]
    simp only [List.flatMap_cons, List.flatMap_nil, List.append_nil]
    rw [h, Nat.add_mul, Nat.one_mul]
    simp [row]
theorem sv_length (r c : Nat) (xs : List Int) : (sv r c xs).length = c * r := by rw [← pre_all, pre_length]; rfl
theorem sv_mem {r c : Nat} {xs : List Int} (hl : xs.length = r * c) {y : Int} (h : y ∈ sv r c xs) : y ∈ xs := by
  simp only [sv, row, List.mem_flatMap, List.mem_range, List.mem_map] at h
  obtain ⟨k, hk, i, hi, rfl⟩ := h
  have := gm.ix_lt hi hk
  rw [gz_eq (by omega)]
  exact List.getElem_mem _
theorem pre_get (r c : Nat) (xs : List Int) : ∀ (m : Nat), ∀ k i, k < m → i < r → gz (pre r c xs m 0) (k * r + i) = gz xs (i * c + k) := by
  intro m
  induction m with
  | zero => intro k i h; omega
  | succ m ih =>
    intro k i hk hi
    rw [← pre_next]
    by_cases c1 : k < m
    · have h := ih k i c1 hi
      have hl := pre_length r c xs m 0
      have hlt := gm.ix_lt (R := m) (C := r) c1 hi
      have e : pre r c xs m r = pre r c xs m 0 ++ row r c xs m r := by simp [pre, row]
      rw [e, gz_eq (by simp; omega), List.getElem_append_left (by omega), ← gz_eq (by omega)]
      exact h
    · have : k = m := by omega
      subst this
      have hl := pre_length r c xs k 0
      have e : pre r c xs k r = pre r c xs k 0 ++ row r c xs k r := by simp [pre, row]
      have hrl : (row r c xs k r).length = r := by simp [row]
      rw [e, gz_eq (by rw [List.length_append, hl, hrl]; omega), List.getElem_append_right (by omega)]
      simp [row, hl]
theorem sv_get {r c : Nat} {xs : List Int} {k i : Nat} (hk : k < c) (hi : i < r) : gz (sv r c xs) (k * r + i) = gz xs (i * c + k) := by
  rw [← pre_all]; exact pre_get r c xs c k i hk hi
theorem sv_small {r c : Int} {xs ys : List Int} (h : gm.sp r c xs ys = true) (zs : List Int) : (sv r.toNat c.toNat zs).length ≤ 1000000 := by
  obtain ⟨r, c, rfl, rfl, hr, hc, _⟩ := gm.valid h
  rw [sv_length, Int.toNat_natCast, Int.toNat_natCast]
  have := gm.le_36 hc.2 hr.2
  omega
theorem valid {r c : Nat} {xs ys : List Int} (hr : 1 ≤ r ∧ r ≤ 6) (hc : 1 ≤ c ∧ c ≤ 6) (hx : xs.length = r * c) (hy : ys.length = r * c) (vx : ∀ x ∈ xs, -1000 ≤ x ∧ x ≤ 1000) (vy : ∀ x ∈ ys, -1000 ≤ x ∧ x ≤ 1000) : gm.sp c r (sv r c ys) (sv r c xs) = true := by
  simp only [gm.sp, gm.gain.sp, Bool.and_eq_true, decide_eq_true_eq, List.all_eq_true, sv_length]
  refine ⟨⟨⟨by omega, by omega⟩, by omega, by omega⟩, ⟨by simp, fun x hx' => vy x (sv_mem hy hx')⟩, by simp, fun x hx' => vx x (sv_mem hx hx')⟩
end tn

namespace isSide
def R : List AVal → Option (Bool × AVal × List Blk)
  | [.int .i64 n] => some (true, .bool (decide (1 ≤ n) && decide (n ≤ 6)), [])
  | _ => none
theorem go (n : Int) :
  runFn Try.prog (orc [⟨51, within.R⟩]) hd0 Dr.std none 0 (bodyOf Try.f68) 5 [2] [.int .i64 n] []
  = (bif true && (true && true || true && true) then some (AVal.bool (decide ((1 : Int) ≤ n) && decide (n ≤ (6 : Int))), []) else none) := by kernel_rfl
theorem run : ∀ args v new, R args = some (true, v, new) → ∃ fuel, runFn Try.prog (orc [⟨51, within.R⟩]) hd0 Dr.std none fuel (bodyOf Try.f68) 5 [2] args [] = some (v, new) := by
  intro args v new h
  unfold R at h
  split at h
  · rename_i n
    simp only [Option.some.injEq, Prod.mk.injEq] at h
    obtain ⟨_, rfl, rfl⟩ := h
    refine ⟨0, ?_⟩
    rw [go]
    simp only [decide_true, decide_false, Bool.and_self, Bool.or_self, Bool.and_true, Bool.true_and, Bool.and_false, Bool.false_and, Bool.or_true, Bool.true_or, Bool.or_false, Bool.false_or, Bool.not_true, Bool.not_false, cond_true, cond_false]
  · cases h
theorem ok : EntOk Try.prog ⟨68, R⟩ :=
  ent_okA mixed (A := (orc [⟨51, within.R⟩])) (orc_ok (by simp only [List.mem_cons, List.not_mem_nil, or_false, forall_eq_or_imp, forall_eq]; exact within.ok)) Try.func68 (by kernel_rfl) (by kernel_rfl) (n := 5) (ts := [2]) (hd := hd0) (dr := Dr.std) (cut := none) (by kernel_rfl) (by kernel_rfl) (by kernel_rfl) run
end isSide

namespace isGains
def R : List AVal → Option (Bool × AVal × List Blk)
  | [.ro (.ints .i64 xs) m 1, .int .i64 a, .int .i64 b] => some (decide (m = xs.length ∧ m ≤ 4611686018427387904 ∧ 1 ≤ a ∧ a ≤ 6 ∧ 1 ≤ b ∧ b ≤ 6), .bool (decide ((m : Int) = a * b) && xs.all gm.gain.sp), [])
  | _ => none
theorem go (xs : List Int) (m : Nat) (a b : Int) :
  runFn Try.prog (orc [⟨87, areMany.R⟩]) hd0 Dr.std none 0 (bodyOf Try.f69) 15 [6] [.ro (.ints .i64 xs) m 1, .int .i64 a, .int .i64 b] []
  = (bif decide (m ≤ xs.length ∧ m ≤ (4611686018427387904 : Nat)) && (true && (true && (true && true)) || true && true) then some (AVal.bool (decide (IntKind.i64.wrap (a * b) ≤ (↑m : Int)) && decide ((↑m : Int) ≤ IntKind.i64.wrap (a * b)) && (List.take m xs).all fun x => decide ((-1000 : Int) ≤ x) && decide (x ≤ (1000 : Int))), []) else none) := by kernel_rfl
theorem run : ∀ args v new, R args = some (true, v, new) → ∃ fuel, runFn Try.prog (orc [⟨87, areMany.R⟩]) hd0 Dr.std none fuel (bodyOf Try.f69) 15 [6] args [] = some (v, new) := by
  intro args v new h
  unfold R at h
  split at h
  · rename_i xs m a b
    simp only [Option.some.injEq, Prod.mk.injEq, decide_eq_true_eq] at h
    obtain ⟨⟨rfl, h2, h3, h4, h5, h6⟩, rfl, rfl⟩ := h
    have p := gm.le_66 h3 h4 h5 h6
    have w : IntKind.i64.wrap (a * b) = a * b := IntWalk.i64_in _ (by omega)
    refine ⟨0, ?_⟩
    rw [go, w]
    generalize a * b = q at p ⊢
    have d3 : (decide (q ≤ (xs.length : Int)) && decide ((xs.length : Int) ≤ q)) = decide ((xs.length : Int) = q) := by
      rw [← Bool.decide_and]; congr 1; apply propext; omega
    have hf : (fun x : Int => decide (-1000 ≤ x) && decide (x ≤ 1000)) = gm.gain.sp := rfl
    rw [d3, hf]
    simp only [h2, Nat.le_refl, List.take_length, and_self, decide_true, decide_false, Bool.and_self, Bool.or_self, Bool.and_true, Bool.true_and, Bool.and_false, Bool.false_and, Bool.or_true, Bool.true_or, Bool.or_false, Bool.false_or, Bool.not_true, Bool.not_false, cond_true, cond_false]
  · cases h
theorem ok : EntOk Try.prog ⟨69, R⟩ :=
  ent_okA mixed (A := (orc [⟨87, areMany.R⟩])) (orc_ok (by simp only [List.mem_cons, List.not_mem_nil, or_false, forall_eq_or_imp, forall_eq]; exact areMany.ok)) Try.func69 (by kernel_rfl) (by kernel_rfl) (n := 15) (ts := [6]) (hd := hd0) (dr := Dr.std) (cut := none) (by kernel_rfl) (by kernel_rfl) (by kernel_rfl) run
end isGains

namespace l02Gains
def R : List AVal → Option (Bool × AVal × List Blk)
  | [.ro (.ints .i64 xs) m 1, .int .i64 q] => some (decide (m = xs.length ∧ m ≤ 4611686018427387904), .bool (decide ((m : Int) = q) && xs.all gm.gain.sp), [])
  | _ => none
def hd : Nat → Head := fun _ => ⟨[0, 1, 4, 5], none⟩
noncomputable def L (f n : Nat) (s : State) := loopAt Try.prog (orc [⟨29, l00In.R⟩]) hd Dr.std 0 f (bodyOf Try.f47) 0 [true, false, true] (retK Try.prog [4] 0 none) n s
theorem start (xs : List Int) (m : Nat) (q : Int) (f : Nat) :
  runFn Try.prog (orc [⟨29, l00In.R⟩]) hd Dr.std none f (bodyOf Try.f47) 22 [4] [.ro (.ints .i64 xs) m 1, .int .i64 q] []
  = (L f f (mkS (22 : Nat) [((0 : Nat), AVal.ro (Cont.ints IntKind.i64 xs) m (1 : Nat)), ((1 : Nat), AVal.int IntKind.i64 q), ((4 : Nat), AVal.bool false), ((5 : Nat), AVal.int IntKind.i64 (0 : Int))] [])) := by kernel_rfl
theorem round (xs : List Int) (m : Nat) (q : Int) (i f n : Nat) :
  L f (n + 1) (mkS 22 [(0, .ro (.ints .i64 xs) m 1), (1, .int .i64 q), (4, .bool false), (5, .int .i64 i)] [])
  = (bif decide ((↑i : Int) < (↑m : Int)) then bif true && (decide ((0 : Int) ≤ (↑i : Int)) && decide ((↑i : Int) < (↑m : Int))) then bif decide ((↑i : Int).toNat < xs.length) then bif true && (true && true || true && true) then bif !(decide ((-1000 : Int) ≤ gz xs (↑i : Int).toNat) && decide (gz xs (↑i : Int).toNat ≤ (1000 : Int))) then some (AVal.bool false, []) else L f n (mkS (22 : Nat) [((0 : Nat), AVal.ro (Cont.ints IntKind.i64 xs) m (1 : Nat)), ((1 : Nat), AVal.int IntKind.i64 q), ((4 : Nat), AVal.bool false), ((5 : Nat), AVal.int IntKind.i64 (IntKind.i64.wrap ((↑i : Int) + (1 : Int))))] []) else none else none else none else some (AVal.bool ((↑m : Int) == q), [])) := by kernel_rfl
theorem loop (xs : List Int) (m : Nat) (q : Int) (f : Nat) (hx : m ≤ xs.length) (hb : m ≤ 4611686018427387904) : ∀ (d i n : Nat) , i + d = m → d < n →
    L f n (mkS 22 [(0, .ro (.ints .i64 xs) m 1), (1, .int .i64 q), (4, .bool false), (5, .int .i64 i)] []) = some (.bool (((xs.take m).drop i).all gm.gain.sp && decide ((m : Int) = q)), []) := by
  intro d
  induction d with
  | zero =>
    intro i n  hi hn 
    obtain ⟨n, rfl⟩ : ∃ k, n = k + 1 := ⟨n - 1, by omega⟩
    obtain rfl : i = m := by omega
    rw [round]
    have e : (xs.take i).drop i = [] := by simp
    have e2 : ((i : Int) == q) = decide ((i : Int) = q) := rfl
    rw [e]
    simp [e2]
  | succ d ih =>
    intro i n  hi hn 
    obtain ⟨n, rfl⟩ : ∃ k, n = k + 1 := ⟨n - 1, by omega⟩
    have h1 : i < m := by omega
    have h4 : (0 : Int) ≤ (i : Int) := Int.natCast_nonneg _
    have h5 : (i : Int) < (m : Int) := by omega
    have h2 : i < xs.length := by omega
    rw [round]
    rw [drop_take_cons hx h1, List.all_cons]
    have hr := ih (i + 1) n (by omega) (by omega)
    have ht : (decide (-1000 ≤ xs[i]) && decide (xs[i] ≤ 1000)) = gm.gain.sp xs[i] := rfl
    simp only [h4, h5, h2, gz_eq h2, ht, decide_true, Bool.and_self, Bool.or_self, Bool.and_true, Bool.true_and, cond_true, Int.toNat_natCast, wrap_nat i (by omega)]
    rw [hr]
    cases gm.gain.sp xs[i] <;> simp
theorem run : ∀ args v new, R args = some (true, v, new) → ∃ fuel, runFn Try.prog (orc [⟨29, l00In.R⟩]) hd Dr.std none fuel (bodyOf Try.f47) 22 [4] args [] = some (v, new) := by
  intro args v new h
  unfold R at h
  split at h
  · rename_i xs m q
    simp only [Option.some.injEq, Prod.mk.injEq, decide_eq_true_eq] at h
    obtain ⟨⟨rfl, h2⟩, rfl, rfl⟩ := h
    obtain ⟨m, hm⟩ : ∃ m, m = xs.length := ⟨_, rfl⟩
    refine ⟨m + 1, ?_⟩
    rw [start]
    have hl := loop xs m q (m + 1) (by omega) (by omega) m 0 (m + 1) (by omega) (by omega)
    rw [List.drop_zero, List.take_of_length_le (by omega), Bool.and_comm] at hl
    rw [← hm]
    exact hl
  · cases h
theorem ok : EntOk Try.prog ⟨47, R⟩ :=
  ent_okA mixed (A := (orc [⟨29, l00In.R⟩])) (orc_ok (by simp only [List.mem_cons, List.not_mem_nil, or_false, forall_eq_or_imp, forall_eq]; exact l00In.ok)) Try.func47 (by kernel_rfl) (by kernel_rfl) (n := 22) (ts := [4]) (hd := hd) (dr := Dr.std) (cut := none) (by kernel_rfl) (by kernel_rfl) (by kernel_rfl) run
end l02Gains

namespace l02Is
def R : List AVal → Option (Bool × AVal × List Blk)
  | [.rom [.int .i64 r, .int .i64 c, .ro (.ints .i64 xs) ma 1, .ro (.ints .i64 ys) mb 1] 0] => some (decide (ma = xs.length ∧ mb = ys.length ∧ ma ≤ 4611686018427387904 ∧ mb ≤ 4611686018427387904), .bool (gm.sp r c xs ys), [])
  | _ => none
theorem go (r c : Int) (xs ys : List Int) (ma mb : Nat) :
  runFn Try.prog (orc [⟨29, l00In.R⟩, ⟨47, l02Gains.R⟩]) hd0 Dr.std none 0 (bodyOf Try.f30) 47 [2] [.rom [.int .i64 r, .int .i64 c, .ro (.ints .i64 xs) ma 1, .ro (.ints .i64 ys) mb 1] 0] []
  = (bif true && (true && true || true && true) then bif !(decide ((1 : Int) ≤ r) && decide (r ≤ (6 : Int))) then some (AVal.bool false, []) else bif true && (true && true || true && true) then bif !(decide ((1 : Int) ≤ c) && decide (c ≤ (6 : Int))) then some (AVal.bool false, []) else bif decide (ma = xs.length ∧ ma ≤ (4611686018427387904 : Nat)) && (true && (true && true) || true && true) then bif decide ((↑ma : Int) = IntKind.i64.wrap (r * c)) && xs.all gm.gain.sp then bif decide (mb = ys.length ∧ mb ≤ (4611686018427387904 : Nat)) && (true && (true && true) || true && true) then some (AVal.bool (decide ((↑mb : Int) = IntKind.i64.wrap (r * c)) && ys.all gm.gain.sp), []) else none else some (AVal.bool false, []) else none else none else none) := by kernel_rfl
theorem run : ∀ args v new, R args = some (true, v, new) → ∃ fuel, runFn Try.prog (orc [⟨29, l00In.R⟩, ⟨47, l02Gains.R⟩]) hd0 Dr.std none fuel (bodyOf Try.f30) 47 [2] args [] = some (v, new) := by
  intro args v new h
  unfold R at h
  split at h
  · rename_i r c xs ma ys mb
    simp only [Option.some.injEq, Prod.mk.injEq, decide_eq_true_eq] at h
    obtain ⟨⟨rfl, rfl, h3, h4⟩, rfl, rfl⟩ := h
    refine ⟨0, ?_⟩
    rw [go]
    unfold gm.sp
    by_cases c1 : 1 ≤ r ∧ r ≤ 6
    · by_cases c2 : 1 ≤ c ∧ c ≤ 6
      · have p := gm.le_66 c1.1 c1.2 c2.1 c2.2
        have w : IntKind.i64.wrap (r * c) = r * c := IntWalk.i64_in _ (by omega)
        obtain ⟨c11, c12⟩ := c1
        obtain ⟨c21, c22⟩ := c2
        simp only [w, h3, h4, c11, c12, c21, c22, and_self, decide_true, decide_false, Bool.and_self, Bool.or_self, Bool.and_true, Bool.true_and, Bool.and_false, Bool.false_and, Bool.or_true, Bool.true_or, Bool.or_false, Bool.false_or, Bool.not_true, Bool.not_false, cond_true, cond_false]
        generalize (decide ((xs.length : Int) = r * c) && xs.all gm.gain.sp) = b1
        generalize (decide ((ys.length : Int) = r * c) && ys.all gm.gain.sp) = b2
        cases b1 <;> cases b2 <;> rfl
      · have c3 : (decide (1 ≤ c) && decide (c ≤ 6)) = false := by
          simp only [Bool.and_eq_false_iff, decide_eq_false_iff_not]; omega
        obtain ⟨c11, c12⟩ := c1
        simp only [c3, c11, c12, decide_true, decide_false, Bool.and_self, Bool.or_self, Bool.and_true, Bool.true_and, Bool.and_false, Bool.false_and, Bool.or_true, Bool.true_or, Bool.or_false, Bool.false_or, Bool.not_true, Bool.not_false, cond_true, cond_false]
    · have c3 : (decide (1 ≤ r) && decide (r ≤ 6)) = false := by
        simp only [Bool.and_eq_false_iff, decide_eq_false_iff_not]; omega
      simp only [c3, decide_true, decide_false, Bool.and_self, Bool.or_self, Bool.and_true, Bool.true_and, Bool.and_false, Bool.false_and, Bool.or_true, Bool.true_or, Bool.or_false, Bool.false_or, Bool.not_true, Bool.not_false, cond_true, cond_false]
  · cases h
theorem ok : EntOk Try.prog ⟨30, R⟩ :=
  ent_okA mixed (A := (orc [⟨29, l00In.R⟩, ⟨47, l02Gains.R⟩])) (orc_ok (by simp only [List.mem_cons, List.not_mem_nil, or_false, forall_eq_or_imp, forall_eq]; exact ⟨l00In.ok, l02Gains.ok⟩)) Try.func30 (by kernel_rfl) (by kernel_rfl) (n := 47) (ts := [2]) (hd := hd0) (dr := Dr.std) (cut := none) (by kernel_rfl) (by kernel_rfl) (by kernel_rfl) run
end l02Is

namespace iValidGame
def R : List AVal → Option (Bool × AVal × List Blk)
  | [.agg [.int .i64 r, .int .i64 c, .ro (.ints .i64 xs) ma 1, .ro (.ints .i64 ys) mb 1]] => some (decide (ma = xs.length ∧ mb = ys.length ∧ ma ≤ 4611686018427387904 ∧ mb ≤ 4611686018427387904), .bool (gm.sp r c xs ys), [])
  | _ => none
theorem go (r c : Int) (xs ys : List Int) (ma mb : Nat) :
  runFn Try.prog (orc [⟨68, isSide.R⟩, ⟨69, isGains.R⟩]) hd0 Dr.std (some 0) 0 (bodyOf Try.f52) 29 [2] [.agg [.int .i64 r, .int .i64 c, .ro (.ints .i64 xs) ma 1, .ro (.ints .i64 ys) mb 1]] []
  = (bif true && true then bif true && (true && true || true && true) then bif decide ((1 : Int) ≤ r) && decide (r ≤ (6 : Int)) then bif true && true then bif true && (true && true || true && true) then bif decide ((1 : Int) ≤ c) && decide (c ≤ (6 : Int)) then bif true && true then bif true && true then bif true && true then bif decide (ma = xs.length ∧ ma ≤ (4611686018427387904 : Nat) ∧ (1 : Int) ≤ r ∧ r ≤ (6 : Int) ∧ (1 : Int) ≤ c ∧ c ≤ (6 : Int)) && (true && (true && (true && true)) || true && true) then bif decide ((↑ma : Int) = r * c) && xs.all gm.gain.sp then bif true && true then bif true && true then bif true && true then bif decide (mb = ys.length ∧ mb ≤ (4611686018427387904 : Nat) ∧ (1 : Int) ≤ r ∧ r ≤ (6 : Int) ∧ (1 : Int) ≤ c ∧ c ≤ (6 : Int)) && (true && (true && (true && true)) || true && true) then some (AVal.bool (decide ((↑mb : Int) = r * c) && ys.all gm.gain.sp), []) else none else none else none else none else some (AVal.bool false, []) else none else none else none else none else some (AVal.bool false, []) else none else none else some (AVal.bool false, []) else none else none) := by kernel_rfl
theorem run : ∀ args v new, R args = some (true, v, new) → ∃ fuel, runFn Try.prog (orc [⟨68, isSide.R⟩, ⟨69, isGains.R⟩]) hd0 Dr.std (some 0) fuel (bodyOf Try.f52) 29 [2] args [] = some (v, new) := by
  intro args v new h
  unfold R at h
  split at h
  · rename_i r c xs ma ys mb
    simp only [Option.some.injEq, Prod.mk.injEq, decide_eq_true_eq] at h
    obtain ⟨⟨rfl, rfl, h3, h4⟩, rfl, rfl⟩ := h
    refine ⟨0, ?_⟩
    rw [go]
    unfold gm.sp
    by_cases c1 : 1 ≤ r ∧ r ≤ 6
    · by_cases c2 : 1 ≤ c ∧ c ≤ 6
      · have p := gm.le_66 c1.1 c1.2 c2.1 c2.2
        have w : IntKind.i64.wrap (r * c) = r * c := IntWalk.i64_in _ (by omega)
        obtain ⟨c11, c12⟩ := c1
        obtain ⟨c21, c22⟩ := c2
        simp only [w, h3, h4, c11, c12, c21, c22, and_self, decide_true, decide_false, Bool.and_self, Bool.or_self, Bool.and_true, Bool.true_and, Bool.and_false, Bool.false_and, Bool.or_true, Bool.true_or, Bool.or_false, Bool.false_or, Bool.not_true, Bool.not_false, cond_true, cond_false]
        generalize (decide ((xs.length : Int) = r * c) && xs.all gm.gain.sp) = b1
        generalize (decide ((ys.length : Int) = r * c) && ys.all gm.gain.sp) = b2
        cases b1 <;> cases b2 <;> rfl
      · have c3 : (decide (1 ≤ c) && decide (c ≤ 6)) = false := by
          simp only [Bool.and_eq_false_iff, decide_eq_false_iff_not]; omega
        obtain ⟨c11, c12⟩ := c1
        simp only [c3, c11, c12, decide_true, decide_false, Bool.and_self, Bool.or_self, Bool.and_true, Bool.true_and, Bool.and_false, Bool.false_and, Bool.or_true, Bool.true_or, Bool.or_false, Bool.false_or, Bool.not_true, Bool.not_false, cond_true, cond_false]
    · have c3 : (decide (1 ≤ r) && decide (r ≤ 6)) = false := by
        simp only [Bool.and_eq_false_iff, decide_eq_false_iff_not]; omega
      simp only [c3, decide_true, decide_false, Bool.and_self, Bool.or_self, Bool.and_true, Bool.true_and, Bool.and_false, Bool.false_and, Bool.or_true, Bool.true_or, Bool.or_false, Bool.false_or, Bool.not_true, Bool.not_false, cond_true, cond_false]
  · cases h
theorem ok : EntOk Try.prog ⟨52, R⟩ :=
  ent_okA mixed (A := (orc [⟨68, isSide.R⟩, ⟨69, isGains.R⟩])) (orc_ok (by simp only [List.mem_cons, List.not_mem_nil, or_false, forall_eq_or_imp, forall_eq]; exact ⟨isSide.ok, isGains.ok⟩)) Try.func52 (by kernel_rfl) (by kernel_rfl) (n := 29) (ts := [2]) (hd := hd0) (dr := Dr.std) (cut := (some 0)) (by kernel_rfl) (by kernel_rfl) (by kernel_rfl) run
end iValidGame

namespace gA
def R : List AVal → Option (Bool × AVal × List Blk)
  | [.agg [.int .i64 r, .int .i64 c, .ro (.ints .i64 xs) ma 1, .ro (.ints .i64 ys) mb 1], .int .i64 i, .int .i64 k] => some (decide (ma = xs.length ∧ mb = ys.length ∧ 0 ≤ i ∧ 0 ≤ k ∧ i ≤ 100 ∧ k ≤ 100 ∧ 0 ≤ c ∧ c ≤ 100 ∧ i * c + k < (xs.length : Int)), .int .i64 (gz xs (i * c + k).toNat), [])
  | _ => none
theorem go (r c : Int) (xs ys : List Int) (ma mb : Nat) (i k : Int) :
  runFn Try.prog (orc []) hd0 Dr.std (some 0) 0 (bodyOf Try.f89) 17 [6] [.agg [.int .i64 r, .int .i64 c, .ro (.ints .i64 xs) ma 1, .ro (.ints .i64 ys) mb 1], .int .i64 i, .int .i64 k] []
  = (bif true && true then bif true && true then bif true && (decide ((0 : Int) ≤ IntKind.i64.wrap (IntKind.i64.wrap (i * c) + k)) && decide (IntKind.i64.wrap (IntKind.i64.wrap (i * c) + k) < (↑ma : Int))) then bif decide ((IntKind.i64.wrap (IntKind.i64.wrap (i * c) + k)).toNat < xs.length) then some (AVal.int IntKind.i64 (gz xs (IntKind.i64.wrap (IntKind.i64.wrap (i * c) + k)).toNat), []) else none else none else none else none) := by kernel_rfl
theorem run : ∀ args v new, R args = some (true, v, new) → ∃ fuel, runFn Try.prog (orc []) hd0 Dr.std (some 0) fuel (bodyOf Try.f89) 17 [6] args [] = some (v, new) := by
  intro args v new h
  unfold R at h
  split at h
  · rename_i r c xs ma ys mb i k
    simp only [Option.some.injEq, Prod.mk.injEq, decide_eq_true_eq] at h
    obtain ⟨⟨rfl, rfl, h1, h2, h3, h4, h5, h6, h7⟩, rfl, rfl⟩ := h
    have p1 : 0 ≤ i * c := Int.mul_nonneg h1 h5
    have p2 : i * c ≤ 100 * 100 := Int.mul_le_mul h3 h6 h5 (by omega)
    have w1 : IntKind.i64.wrap (i * c) = i * c := IntWalk.i64_in _ (by omega)
    have w2 : IntKind.i64.wrap (i * c + k) = i * c + k := IntWalk.i64_in _ (by omega)
    refine ⟨0, ?_⟩
    rw [go, w1, w2]
    generalize hq : i * c + k = q at h7 ⊢
    have q0 : 0 ≤ q := by omega
    have q1 : q.toNat < xs.length := by omega
    simp only [q0, q1, h7, decide_true, decide_false, Bool.and_self, Bool.or_self, Bool.and_true, Bool.true_and, Bool.and_false, Bool.false_and, Bool.or_true, Bool.true_or, Bool.or_false, Bool.false_or, Bool.not_true, Bool.not_false, cond_true, cond_false]
  · cases h
theorem ok : EntOk Try.prog ⟨89, R⟩ :=
  ent_okA mixed (A := (orc [])) (orc_ok (by simp)) Try.func89 (by kernel_rfl) (by kernel_rfl) (n := 17) (ts := [6]) (hd := hd0) (dr := Dr.std) (cut := (some 0)) (by kernel_rfl) (by kernel_rfl) (by kernel_rfl) run
end gA

namespace gB
def R : List AVal → Option (Bool × AVal × List Blk)
  | [.agg [.int .i64 r, .int .i64 c, .ro (.ints .i64 xs) ma 1, .ro (.ints .i64 ys) mb 1], .int .i64 i, .int .i64 k] => some (decide (ma = xs.length ∧ mb = ys.length ∧ 0 ≤ i ∧ 0 ≤ k ∧ i ≤ 100 ∧ k ≤ 100 ∧ 0 ≤ c ∧ c ≤ 100 ∧ i * c + k < (ys.length : Int)), .int .i64 (gz ys (i * c + k).toNat), [])
  | _ => none
theorem go (r c : Int) (xs ys : List Int) (ma mb : Nat) (i k : Int) :
  runFn Try.prog (orc []) hd0 Dr.std (some 0) 0 (bodyOf Try.f88) 17 [6] [.agg [.int .i64 r, .int .i64 c, .ro (.ints .i64 xs) ma 1, .ro (.ints .i64 ys) mb 1], .int .i64 i, .int .i64 k] []
  = (bif true && true then bif true && true then bif true && (decide ((0 : Int) ≤ IntKind.i64.wrap (IntKind.i64.wrap (i * c) + k)) && decide (IntKind.i64.wrap (IntKind.i64.wrap (i * c) + k) < (↑mb : Int))) then bif decide ((IntKind.i64.wrap (IntKind.i64.wrap (i * c) + k)).toNat < ys.length) then some (AVal.int IntKind.i64 (gz ys (IntKind.i64.wrap (IntKind.i64.wrap (i * c) + k)).toNat), []) else none else none else none else none) := by kernel_rfl
theorem run : ∀ args v new, R args = some (true, v, new) → ∃ fuel, runFn Try.prog (orc []) hd0 Dr.std (some 0) fuel (bodyOf Try.f88) 17 [6] args [] = some (v, new) := by
  intro args v new h
  unfold R at h
  split at h
  · rename_i r c xs ma ys mb i k
    simp only [Option.some.injEq, Prod.mk.injEq, decide_eq_true_eq] at h
    obtain ⟨⟨rfl, rfl, h1, h2, h3, h4, h5, h6, h7⟩, rfl, rfl⟩ := h
    have p1 : 0 ≤ i * c := Int.mul_nonneg h1 h5
    have p2 : i * c ≤ 100 * 100 := Int.mul_le_mul h3 h6 h5 (by omega)
    have w1 : IntKind.i64.wrap (i * c) = i * c := IntWalk.i64_in _ (by omega)
    have w2 : IntKind.i64.wrap (i * c + k) = i * c + k := IntWalk.i64_in _ (by omega)
    refine ⟨0, ?_⟩
    rw [go, w1, w2]
    generalize hq : i * c + k = q at h7 ⊢
    have q0 : 0 ≤ q := by omega
    have q1 : q.toNat < ys.length := by omega
    simp only [q0, q1, h7, decide_true, decide_false, Bool.and_self, Bool.or_self, Bool.and_true, Bool.true_and, Bool.and_false, Bool.false_and, Bool.or_true, Bool.true_or, Bool.or_false, Bool.false_or, Bool.not_true, Bool.not_false, cond_true, cond_false]
  · cases h
theorem ok : EntOk Try.prog ⟨88, R⟩ :=
  ent_okA mixed (A := (orc [])) (orc_ok (by simp)) Try.func88 (by kernel_rfl) (by kernel_rfl) (n := 17) (ts := [6]) (hd := hd0) (dr := Dr.std) (cut := (some 0)) (by kernel_rfl) (by kernel_rfl) (by kernel_rfl) run
end gB

end Go.Proofs.Ythecninmmojkgaa.Ab
