/-
  Functions: parts of things: what they are worth.
-/
import Derived.Test.YtkoongajnnaeoaaFnAU
import Derived.Test.YtkoongajnnaeoaaFnZA
import Derived.Test.YtkoongajnnaeoaaFnC
namespace Go.Proofs.Ytkoongajnnaeoaa.Ab
open Go
set_option linter.unusedVariables false
set_option linter.unusedSimpArgs false
set_option maxRecDepth 100000

namespace vp
/-- Valid values. -/
def sp (p t : Int) (ws : List Int) : Bool := ((decide (1 ≤ p) && decide (p ≤ 6)) && (decide (1 ≤ t) && decide (t ≤ 8))) && (decide ((ws.length : Int) = p * t) && ws.all fun x => decide (0 ≤ x) && decide (x ≤ 1000))
theorem valid {p t : Int} {ws : List Int} (h : sp p t ws = true) : ∃ P T : Nat, p = P ∧ t = T ∧ (1 ≤ P ∧ P ≤ 6) ∧ (1 ≤ T ∧ T ≤ 8) ∧ ws.length = P * T ∧ ∀ x ∈ ws, 0 ≤ x ∧ x ≤ 1000 := by
  simp only [sp, Bool.and_eq_true, decide_eq_true_eq, List.all_eq_true] at h
  obtain ⟨⟨⟨h1, h2⟩, h3, h4⟩, h5, h6⟩ := h
  refine ⟨p.toNat, t.toNat, by omega, by omega, by omega, by omega, ?_, h6⟩
  have : ((p.toNat * t.toNat : Nat) : Int) = p * t := by rw [Int.natCast_mul, Int.toNat_of_nonneg (by omega), Int.toNat_of_nonneg (by omega)]
  omega
theorem le_48 {p t : Nat} (hp : p ≤ 6) (ht : t ≤ 8) : p * t ≤ 48 := Nat.mul_le_mul hp ht
theorem le_48i {p t : Int} (h1 : 1 ≤ p) (hp : p ≤ 6) (h2 : 1 ≤ t) (ht : t ≤ 8) : 1 ≤ p * t ∧ p * t ≤ 48 := by
  have a := Int.mul_le_mul hp ht (by omega) (by omega)
  have b := Int.mul_le_mul h1 h2 (by omega) (by omega)
  omega
def w (t : Nat) (ws : List Int) (i k : Nat) : Int := gz ws (i * t + k)
theorem w_in {ws : List Int} (v : ∀ x ∈ ws, 0 ≤ x ∧ x ≤ 1000) (t i k : Nat) : 0 ≤ w t ws i k ∧ w t ws i k ≤ 1000 := by
  unfold w
  by_cases h : i * t + k < ws.length
  · exact v _ (gz_mem h)
  · rw [gz_out (by omega)]; omega
/-- What the things that one has, of the first ones, are worth to one. -/
def ps (t : Nat) (ws os : List Int) (i : Nat) (j : Int) : Nat → Int
  | 0 => 0
  | k + 1 => ps t ws os i j k + (bif gz os k == j then w t ws i k else 0)
theorem ps_in {ws : List Int} (v : ∀ x ∈ ws, 0 ≤ x ∧ x ≤ 1000) (t : Nat) (os : List Int) (i : Nat) (j : Int) : ∀ k, 0 ≤ ps t ws os i j k ∧ ps t ws os i j k ≤ 1000 * k := by
  intro k
  induction k with
  | zero => simp [ps]
  | succ k ih =>
    have := w_in v t i k
    simp only [ps]
    cases gz os k == j
    · simp only [cond_false]; omega
    · simp only [cond_true]; omega
def part.sv (t : Nat) (ws os : List Int) (i : Nat) (j : Int) : Int := ps t ws os i j os.length
def envy.sv (t : Nat) (ws os : List Int) (i : Nat) (j : Int) : Int := part.sv t ws os i j - part.sv t ws os i (i : Int)
def own.sv (t : Nat) (ws os : List Int) (p : Nat) : List Int := (List.range p).map fun i => part.sv t ws os i (i : Int)
def tab.sv (t : Nat) (ws os : List Int) (p n : Nat) : List Int := (List.range n).map fun q => envy.sv t ws os (q / p) ((q % p : Nat) : Int)
theorem own_length (t : Nat) (ws os : List Int) (p : Nat) : (own.sv t ws os p).length = p := by simp [own.sv]
theorem own_succ (t : Nat) (ws os : List Int) (p : Nat) : own.sv t ws os p ++ [part.sv t ws os p (p : Int)] = own.sv t ws os (p + 1) := by simp [own.sv, List.range_succ]
theorem own_get {t : Nat} {ws os : List Int} {p i : Nat} (h : i < p) : gz (own.sv t ws os p) i = part.sv t ws os i (i : Int) := by rw [gz_eq (by rw [own_length]; exact h)]; simp [own.sv]
theorem tab_length (t : Nat) (ws os : List Int) (p n : Nat) : (tab.sv t ws os p n).length = n := by simp [tab.sv]
theorem tab_succ (t : Nat) (ws os : List Int) (p n : Nat) : tab.sv t ws os p n ++ [envy.sv t ws os (n / p) ((n % p : Nat) : Int)] = tab.sv t ws os p (n + 1) := by simp [tab.sv, List.range_succ]
theorem tab_get {t : Nat} {ws os : List Int} {p n q : Nat} (h : q < n) : gz (tab.sv t ws os p n) q = envy.sv t ws os (q / p) ((q % p : Nat) : Int) := by rw [gz_eq (by rw [tab_length]; exact h)]; simp [tab.sv]
theorem part_in {ws : List Int} (v : ∀ x ∈ ws, 0 ≤ x ∧ x ≤ 1000) (t : Nat) {os : List Int} (h : os.length ≤ 8) (i : Nat) (j : Int) : 0 ≤ part.sv t ws os i j ∧ part.sv t ws os i j ≤ 8000 := by
  have := ps_in v t os i j os.length
  unfold part.sv
  omega
/-- The dearest of the things that one has. -/
def mx (t : Nat) (ws os : List Int) (i : Nat) (j : Int) : Nat → Int
  | 0 => 0
  | k + 1 => bif gz os k == j then (if mx t ws os i j k < w t ws i k then w t ws i k else mx t ws os i j k) else mx t ws os i j k
theorem mx_in {ws : List Int} (v : ∀ x ∈ ws, 0 ≤ x ∧ x ≤ 1000) (t : Nat) (os : List Int) (i : Nat) (j : Int) : ∀ k, 0 ≤ mx t ws os i j k ∧ mx t ws os i j k ≤ 1000 := by
  intro k
  induction k with
  | zero => simp [mx]
  | succ k ih =>
    have := w_in v t i k
    simp only [mx]
    cases gz os k == j
    · simp only [cond_false]; omega
    · simp only [cond_true]; split <;> omega
/-- Does nobody envy anybody but for a thing? From some pair on. -/
def ef1 (t : Nat) (ws os : List Int) (i j : Nat) : Bool := !decide (mx t ws os i (j : Int) os.length < envy.sv t ws os i (j : Int))
def efr (t : Nat) (ws os : List Int) (i : Nat) : Nat → Nat → Bool
  | 0, _ => true
  | d + 1, j => ef1 t ws os i j && efr t ws os i d (j + 1)
def efa (t : Nat) (ws os : List Int) (p : Nat) : Nat → Nat → Bool
  | 0, _ => true
  | d + 1, i => efr t ws os i p 0 && efa t ws os p d (i + 1)
def ef.sp (t : Nat) (ws os : List Int) (p : Nat) : Bool := efa t ws os p p 0
/-- The greatest. -/
def hi : List Int → Int → Int
  | [], a => a
  | x :: r, a => hi r (if a < x then x else a)
def hi.sv : List Int → Int
  | [] => 0
  | x :: r => hi r x
def rs (t : Nat) (ws : List Int) (i : Nat) : Nat → Int
  | 0 => 0
  | k + 1 => rs t ws i k + w t ws i k
def eva (t : Nat) (ws os : List Int) (p : Nat) : Nat → Nat → Bool
  | 0, _ => true
  | d + 1, i => !decide (part.sv t ws os i (i : Int) * p < rs t ws i t) && eva t ws os p d (i + 1)
def ev.sp (t : Nat) (ws os : List Int) (p : Nat) : Bool := eva t ws os p p 0
theorem rs_in {ws : List Int} (v : ∀ x ∈ ws, 0 ≤ x ∧ x ≤ 1000) (t i : Nat) : ∀ k, 0 ≤ rs t ws i k ∧ rs t ws i k ≤ 1000 * k := by
  intro k
  induction k with
  | zero => simp [rs]
  | succ k ih => have := w_in v t i k; simp only [rs]; omega
def wsum (l : List Int) (a : Int) : Int := l.foldl (fun s x => IntKind.i64.wrap (s + x)) a
theorem sum_row {ws : List Int} (v : ∀ x ∈ ws, 0 ≤ x ∧ x ≤ 1000) {t i : Nat} (ht : t ≤ 8) (h : (i + 1) * t ≤ ws.length) : sumOf.sp ((ws.drop (i * t)).take t) = rs t ws i t := by
  have key : ∀ d k, k + d = t → (((ws.drop (i * t)).take t).drop k).foldl (fun s x => IntKind.i64.wrap (s + x)) (rs t ws i k) = rs t ws i t := by
    intro d
    induction d with
    | zero =>
      intro k hk
      rw [List.drop_of_length_le (by rw [List.length_take]; omega)]
      obtain rfl : k = t := by omega
      rfl
    | succ d ih =>
      intro k hk
      rw [Nat.succ_mul] at h
      have hl : k < ((ws.drop (i * t)).take t).length := by rw [List.length_take, List.length_drop]; omega
      have e : ((ws.drop (i * t)).take t)[k] = w t ws i k := by
        unfold w
        rw [gz_eq (by omega)]
        simp
      have b1 := rs_in v t i k
      have b2 := w_in v t i k
      rw [List.drop_eq_getElem_cons hl, List.foldl_cons, e, IntWalk.i64_in _ (by omega)]
      exact ih (k + 1) (by omega)
  have := key t 0 (by omega)
  rw [List.drop_zero] at this
  exact this
end vp

namespace areHeirs
def R : List AVal → Option (Bool × AVal × List Blk)
  | [.int .i64 n] => some (true, .bool (decide (1 ≤ n) && decide (n ≤ 6)), [])
  | _ => none
theorem go (n : Int) :
  runFn Try.prog (orc [⟨76, within.R⟩]) hd0 Dr.std none 0 (bodyOf Try.f129) 5 [2] [.int .i64 n] []
  = (bif true && (true && true || true && true) then some (AVal.bool (decide ((1 : Int) ≤ n) && decide (n ≤ (6 : Int))), []) else none) := by kernel_rfl
theorem run : ∀ args v new, R args = some (true, v, new) → ∃ fuel, runFn Try.prog (orc [⟨76, within.R⟩]) hd0 Dr.std none fuel (bodyOf Try.f129) 5 [2] args [] = some (v, new) := by
  intro args v new h
  unfold R at h
  split at h
  · rename_i n
    simp only [Option.some.injEq, Prod.mk.injEq] at h
    obtain ⟨_, rfl, rfl⟩ := h
    refine ⟨0, ?_⟩
    rw [go]
    simp -implicitDefEqProofs (disch := omega) only [take_one, set_one, decide_eq_true, decide_eq_false, IntWalk.i64_in, beqT, beqF, bneT, bneF, nat_succ, ← Int.natCast_mul, ← Int.natCast_add, Int.toNat_natCast, Int.zero_mul, Int.zero_add, Int.add_zero, Nat.zero_add, Nat.add_zero, Nat.zero_mul, List.length_singleton, List.length_append, List.length_nil, List.length_cons, List.take_length, List.drop_zero, List.replicate_zero, List.take_nil, List.nil_append, Nat.reduceBEq, Nat.reduceMul, Nat.reduceLeDiff, eq_self, and_self, true_and, and_true, decide_true, decide_false, Bool.and_self, Bool.or_self, Bool.and_true, Bool.true_and, Bool.and_false, Bool.false_and, Bool.or_true, Bool.true_or, Bool.or_false, Bool.false_or, Bool.not_true, Bool.not_false, cond_true, cond_false]
  · cases h
theorem ok : EntOk Try.prog ⟨129, R⟩ :=
  ent_okA mixed (A := (orc [⟨76, within.R⟩])) (orc_ok (by simp only [List.mem_cons, List.not_mem_nil, or_false, forall_eq_or_imp, forall_eq]; exact within.ok)) Try.func129 (by kernel_rfl) (by kernel_rfl) (n := 5) (ts := [2]) (hd := hd0) (dr := Dr.std) (cut := none) (by kernel_rfl) (by kernel_rfl) (by kernel_rfl) run
end areHeirs

namespace iValidValues
def R : List AVal → Option (Bool × AVal × List Blk)
  | [.agg [.int .i64 p, .int .i64 t, .ro (.ints .i64 ws) m 1]] => some (decide (m = ws.length) && vp.sp p t ws, .bool true, [])
  | _ => none
theorem go (p t : Int) (ws : List Int) (m : Nat) :
  runFn Try.prog (orc [⟨129, areHeirs.R⟩, ⟨76, within.R⟩, ⟨77, areMany.R⟩]) hd0 Dr.std (some 0) 0 (bodyOf Try.f73) 24 [2] [.agg [.int .i64 p, .int .i64 t, .ro (.ints .i64 ws) m 1]] []
  = (bif true && true then bif true && true then bif true && true then bif true && (true && true || true && true) then bif decide ((1 : Int) ≤ p) && decide (p ≤ (6 : Int)) then bif true && true then bif true && (true && true || true && true) then bif decide ((1 : Int) ≤ t) && decide (t ≤ (8 : Int)) then bif true && true then bif decide (m ≤ ws.length ∧ m ≤ (4611686018427387904 : Nat)) && (true && (true && (true && true)) || true && true) then some (AVal.bool (decide (IntKind.i64.wrap (p * t) ≤ (↑m : Int)) && decide ((↑m : Int) ≤ IntKind.i64.wrap (p * t)) && (List.take m ws).all fun x => decide ((0 : Int) ≤ x) && decide (x ≤ (1000 : Int))), []) else none else none else some (AVal.bool false, []) else none else none else some (AVal.bool false, []) else none else none else none else none) := by kernel_rfl
theorem run : ∀ args v new, R args = some (true, v, new) → ∃ fuel, runFn Try.prog (orc [⟨129, areHeirs.R⟩, ⟨76, within.R⟩, ⟨77, areMany.R⟩]) hd0 Dr.std (some 0) fuel (bodyOf Try.f73) 24 [2] args [] = some (v, new) := by
  intro args v new h
  unfold R at h
  split at h
  · rename_i p t ws m
    simp only [Option.some.injEq, Prod.mk.injEq, Bool.and_eq_true, decide_eq_true_eq] at h
    obtain ⟨⟨⟨rfl⟩, hs⟩, rfl, rfl⟩ := h
    have hs2 := hs
    obtain ⟨p, t, rfl, rfl, hp, ht, hw, v⟩ := vp.valid hs2
    have h48 := vp.le_48 hp.2 ht.2
    have hall : (ws.all fun x => decide (0 ≤ x) && decide (x ≤ 1000)) = true := by
      rw [List.all_eq_true]; intro x hx; have := v x hx; simp only [Bool.and_eq_true, decide_eq_true_eq]; exact this
    have e : ((ws.length : Nat) : Int) = ((p * t : Nat) : Int) := by rw [hw]
    refine ⟨0, ?_⟩
    rw [go]
    simp -implicitDefEqProofs (disch := omega) only [hall, take_one, set_one, decide_eq_true, decide_eq_false, IntWalk.i64_in, beqT, beqF, bneT, bneF, nat_succ, ← Int.natCast_mul, ← Int.natCast_add, Int.toNat_natCast, Int.zero_mul, Int.zero_add, Int.add_zero, Nat.zero_add, Nat.add_zero, Nat.zero_mul, List.length_singleton, List.length_append, List.length_nil, List.length_cons, List.take_length, List.drop_zero, List.replicate_zero, List.take_nil, List.nil_append, Nat.reduceBEq, Nat.reduceMul, Nat.reduceLeDiff, eq_self, and_self, true_and, and_true, decide_true, decide_false, Bool.and_self, Bool.or_self, Bool.and_true, Bool.true_and, Bool.and_false, Bool.false_and, Bool.or_true, Bool.true_or, Bool.or_false, Bool.false_or, Bool.not_true, Bool.not_false, cond_true, cond_false]
  · cases h
theorem ok : EntOk Try.prog ⟨73, R⟩ :=
  ent_okA mixed (A := (orc [⟨129, areHeirs.R⟩, ⟨76, within.R⟩, ⟨77, areMany.R⟩])) (orc_ok (by simp only [List.mem_cons, List.not_mem_nil, or_false, forall_eq_or_imp, forall_eq]; exact ⟨areHeirs.ok, within.ok, areMany.ok⟩)) Try.func73 (by kernel_rfl) (by kernel_rfl) (n := 24) (ts := [2]) (hd := hd0) (dr := Dr.std) (cut := (some 0)) (by kernel_rfl) (by kernel_rfl) (by kernel_rfl) run
end iValidValues

namespace vOf
def R : List AVal → Option (Bool × AVal × List Blk)
  | [.agg [.int .i64 p, .int .i64 t, .ro (.ints .i64 ws) m 1], .int .i64 i, .int .i64 k] => some (decide (m = ws.length ∧ 0 ≤ i ∧ 0 ≤ k ∧ i ≤ 100 ∧ k ≤ 100 ∧ 0 ≤ t ∧ t ≤ 100 ∧ i * t + k < (ws.length : Int)), .int .i64 (gz ws (i * t + k).toNat), [])
  | _ => none
theorem go (p t : Int) (ws : List Int) (m : Nat) (i k : Int) :
  runFn Try.prog (orc []) hd0 Dr.std (some 0) 0 (bodyOf Try.f160) 17 [6] [.agg [.int .i64 p, .int .i64 t, .ro (.ints .i64 ws) m 1], .int .i64 i, .int .i64 k] []
  = (bif true && true then bif true && true then bif true && (decide ((0 : Int) ≤ IntKind.i64.wrap (IntKind.i64.wrap (i * t) + k)) && decide (IntKind.i64.wrap (IntKind.i64.wrap (i * t) + k) < (↑m : Int))) then bif decide ((IntKind.i64.wrap (IntKind.i64.wrap (i * t) + k)).toNat < ws.length) then some (AVal.int IntKind.i64 (gz ws (IntKind.i64.wrap (IntKind.i64.wrap (i * t) + k)).toNat), []) else none else none else none else none) := by kernel_rfl
theorem run : ∀ args v new, R args = some (true, v, new) → ∃ fuel, runFn Try.prog (orc []) hd0 Dr.std (some 0) fuel (bodyOf Try.f160) 17 [6] args [] = some (v, new) := by
  intro args v new h
  unfold R at h
  split at h
  · rename_i p t ws m i k
    simp only [Option.some.injEq, Prod.mk.injEq, decide_eq_true_eq] at h
    obtain ⟨⟨rfl, h1, h2, h3, h4, h5, h6, h7⟩, rfl, rfl⟩ := h
    have p1 : 0 ≤ i * t := Int.mul_nonneg h1 h5
    have p2 : i * t ≤ 100 * 100 := Int.mul_le_mul h3 h6 h5 (by omega)
    have w1 : IntKind.i64.wrap (i * t) = i * t := IntWalk.i64_in _ (by omega)
    have w2 : IntKind.i64.wrap (i * t + k) = i * t + k := IntWalk.i64_in _ (by omega)
    refine ⟨0, ?_⟩
    rw [go, w1, w2]
    generalize hq : i * t + k = q at h7 ⊢
    have q1 : q.toNat < ws.length := by omega
    simp -implicitDefEqProofs (disch := omega) only [take_one, set_one, decide_eq_true, decide_eq_false, IntWalk.i64_in, beqT, beqF, bneT, bneF, nat_succ, ← Int.natCast_mul, ← Int.natCast_add, Int.toNat_natCast, Int.zero_mul, Int.zero_add, Int.add_zero, Nat.zero_add, Nat.add_zero, Nat.zero_mul, List.length_singleton, List.length_append, List.length_nil, List.length_cons, List.take_length, List.drop_zero, List.replicate_zero, List.take_nil, List.nil_append, Nat.reduceBEq, Nat.reduceMul, Nat.reduceLeDiff, eq_self, and_self, true_and, and_true, decide_true, decide_false, Bool.and_self, Bool.or_self, Bool.and_true, Bool.true_and, Bool.and_false, Bool.false_and, Bool.or_true, Bool.true_or, Bool.or_false, Bool.false_or, Bool.not_true, Bool.not_false, cond_true, cond_false]
  · cases h
theorem ok : EntOk Try.prog ⟨160, R⟩ :=
  ent_okA mixed (A := (orc [])) (orc_ok (by simp)) Try.func160 (by kernel_rfl) (by kernel_rfl) (n := 17) (ts := [6]) (hd := hd0) (dr := Dr.std) (cut := (some 0)) (by kernel_rfl) (by kernel_rfl) (by kernel_rfl) run
end vOf

namespace vPart
def R : List AVal → Option (Bool × AVal × List Blk)
  | [.agg [.int .i64 p, .int .i64 t, .ro (.ints .i64 ws) m 1], .int .i64 i, .int .i64 j, .ro (.ints .i64 os) l 1] => some (decide (m = ws.length ∧ l = os.length ∧ 0 ≤ i ∧ i < p ∧ (l : Int) = t) && vp.sp p t ws, .int .i64 (vp.part.sv t.toNat ws os i.toNat j), [])
  | _ => none
def hd : Nat → Head := fun _ => ⟨[1, 2, 4, 9, 12, 13, 14], some 1⟩
noncomputable def L (f n : Nat) (s : State) := loopAt Try.prog (orc [⟨160, vOf.R⟩]) hd Dr.std 0 f (bodyOf Try.f126) 0 [true, true, false, true] (retK Try.prog [8] 0 (some 0)) n s
theorem start (p t : Nat) (ws : List Int) (os : List Int) (i : Nat) (j : Int) (f : Nat) :
  runFn Try.prog (orc [⟨160, vOf.R⟩]) hd Dr.std (some 0) f (bodyOf Try.f126) 30 [8] [.agg [.int .i64 p, .int .i64 t, .ro (.ints .i64 ws) ws.length 1], .int .i64 (i : Int), .int .i64 j, .ro (.ints .i64 os) os.length 1] []
  = (L f f (mkS (30 : Nat) [((1 : Nat), AVal.int IntKind.i64 (↑i : Int)), ((2 : Nat), AVal.int IntKind.i64 j), ((4 : Nat), AVal.ptr (0 : Nat) (0 : Nat) (0 : Nat)), ((9 : Nat), AVal.int IntKind.i64 (0 : Int)), ((12 : Nat), AVal.ro (Cont.ints IntKind.i64 os) os.length (1 : Nat)), ((13 : Nat), AVal.int IntKind.i64 (↑os.length : Int)), ((14 : Nat), AVal.int IntKind.i64 (0 : Int))] [{ c := BC.cells [AVal.int IntKind.i64 (↑p : Int), AVal.int IntKind.i64 (↑t : Int), AVal.ro (Cont.ints IntKind.i64 ws) ws.length (1 : Nat)], ver := (0 : Nat) }])) := by kernel_rfl
theorem round (p t : Nat) (ws : List Int) (os : List Int) (i : Nat) (j a : Int) (k f n : Nat) :
  L f (n + 1) (mkS 30 [(1, .int .i64 (i : Int)), (2, .int .i64 j), (4, .ptr 0 0 0), (9, .int .i64 a), (12, .ro (.ints .i64 os) os.length 1), (13, .int .i64 os.length), (14, .int .i64 (k : Int))] [⟨.cells [.int .i64 p, .int .i64 t, .ro (.ints .i64 ws) ws.length 1], 0⟩])
  = (bif decide ((↑k : Int) < (↑os.length : Int)) then bif true && (decide ((0 : Int) ≤ (↑k : Int)) && decide ((↑k : Int) < (↑os.length : Int))) then bif decide ((↑k : Int).toNat < os.length) then bif gz os (↑k : Int).toNat == j then bif true && true && (true && true && (true && true && true)) then bif decide (ws.length = ws.length ∧ (0 : Int) ≤ (↑i : Int) ∧ (0 : Int) ≤ (↑k : Int) ∧ (↑i : Int) ≤ (100 : Int) ∧ (↑k : Int) ≤ (100 : Int) ∧ (0 : Int) ≤ (↑t : Int) ∧ (↑t : Int) ≤ (100 : Int) ∧ (↑i : Int) * (↑t : Int) + (↑k : Int) < (↑ws.length : Int)) && (true && (true && (true && true)) && (true && (true && true)) || true && true) then L f n (mkS (30 : Nat) [((1 : Nat), AVal.int IntKind.i64 (↑i : Int)), ((2 : Nat), AVal.int IntKind.i64 j), ((4 : Nat), AVal.ptr (0 : Nat) (0 : Nat) (0 : Nat)), ((9 : Nat), AVal.int IntKind.i64 (IntKind.i64.wrap (a + gz ws ((↑i : Int) * (↑t : Int) + (↑k : Int)).toNat))), ((12 : Nat), AVal.ro (Cont.ints IntKind.i64 os) os.length (1 : Nat)), ((13 : Nat), AVal.int IntKind.i64 (↑os.length : Int)), ((14 : Nat), AVal.int IntKind.i64 (IntKind.i64.wrap ((↑k : Int) + (1 : Int))))] [{ c := BC.cells [AVal.int IntKind.i64 (↑p : Int), AVal.int IntKind.i64 (↑t : Int), AVal.ro (Cont.ints IntKind.i64 ws) ws.length (1 : Nat)], ver := (0 : Nat) }]) else none else none else L f n (mkS (30 : Nat) [((1 : Nat), AVal.int IntKind.i64 (↑i : Int)), ((2 : Nat), AVal.int IntKind.i64 j), ((4 : Nat), AVal.ptr (0 : Nat) (0 : Nat) (0 : Nat)), ((9 : Nat), AVal.int IntKind.i64 a), ((12 : Nat), AVal.ro (Cont.ints IntKind.i64 os) os.length (1 : Nat)), ((13 : Nat), AVal.int IntKind.i64 (↑os.length : Int)), ((14 : Nat), AVal.int IntKind.i64 (IntKind.i64.wrap ((↑k : Int) + (1 : Int))))] [{ c := BC.cells [AVal.int IntKind.i64 (↑p : Int), AVal.int IntKind.i64 (↑t : Int), AVal.ro (Cont.ints IntKind.i64 ws) ws.length (1 : Nat)], ver := (0 : Nat) }]) else none else none else some (AVal.int IntKind.i64 a, [])) := by kernel_rfl
theorem loop (p t : Nat) (ws : List Int) (os : List Int) (i : Nat) (j : Int) (f : Nat) (hp : 1 ≤ p ∧ p ≤ 6) (ht : 1 ≤ t ∧ t ≤ 8) (hw : ws.length = p * t) (v : ∀ x ∈ ws, 0 ≤ x ∧ x ≤ 1000) (hi : i < p) (hl : os.length = t) : ∀ (d k n : Nat), k + d = os.length → d < n →
    L f n (mkS 30 [(1, .int .i64 (i : Int)), (2, .int .i64 j), (4, .ptr 0 0 0), (9, .int .i64 (vp.ps t ws os i j k)), (12, .ro (.ints .i64 os) os.length 1), (13, .int .i64 os.length), (14, .int .i64 (k : Int))] [⟨.cells [.int .i64 p, .int .i64 t, .ro (.ints .i64 ws) ws.length 1], 0⟩]) = some (.int .i64 (vp.part.sv t ws os i j), []) := by
  intro d
  induction d with
  | zero =>
    intro k n hk hn
    obtain ⟨n, rfl⟩ : ∃ k, n = k + 1 := ⟨n - 1, by omega⟩
    obtain rfl : k = os.length := by omega
    rw [round]
    simp -implicitDefEqProofs (disch := omega) only [take_one, set_one, decide_eq_true, decide_eq_false, IntWalk.i64_in, beqT, beqF, bneT, bneF, nat_succ, ← Int.natCast_mul, ← Int.natCast_add, Int.toNat_natCast, Int.zero_mul, Int.zero_add, Int.add_zero, Nat.zero_add, Nat.add_zero, Nat.zero_mul, List.length_singleton, List.length_append, List.length_nil, List.length_cons, List.take_length, List.drop_zero, List.replicate_zero, List.take_nil, List.nil_append, Nat.reduceBEq, Nat.reduceMul, Nat.reduceLeDiff, eq_self, and_self, true_and, and_true, decide_true, decide_false, Bool.and_self, Bool.or_self, Bool.and_true, Bool.true_and, Bool.and_false, Bool.false_and, Bool.or_true, Bool.true_or, Bool.or_false, Bool.false_or, Bool.not_true, Bool.not_false, cond_true, cond_false]
    rfl
  | succ d ih =>
    intro k n hk hn
    obtain ⟨n, rfl⟩ : ∃ k, n = k + 1 := ⟨n - 1, by omega⟩
    have hkt : k < t := by omega
    have h48 := vp.le_48 hp.2 ht.2
    have hx := ix_lt (R := p) (C := t) hi hkt
    have b1 := vp.ps_in v t os i j k
    have b2 := vp.w_in v t i k
    have ew : gz ws (i * t + k) = vp.w t ws i k := rfl
    have g := ih (k + 1) n (by omega) (by omega)
    simp only [vp.ps] at g
    rw [round]
    cases hc : (gz os k == j)
    · rw [hc] at g
      simp only [cond_false, Int.add_zero] at g
      simp -implicitDefEqProofs (disch := omega) only [hc, ew, take_one, set_one, decide_eq_true, decide_eq_false, IntWalk.i64_in, bneT, bneF, nat_succ, ← Int.natCast_mul, ← Int.natCast_add, Int.toNat_natCast, Int.zero_mul, Int.zero_add, Int.add_zero, Nat.zero_add, Nat.add_zero, Nat.zero_mul, List.length_singleton, List.length_append, List.length_nil, List.length_cons, List.take_length, List.drop_zero, List.replicate_zero, List.take_nil, List.nil_append, Nat.reduceBEq, Nat.reduceMul, Nat.reduceLeDiff, eq_self, and_self, true_and, and_true, decide_true, decide_false, Bool.and_self, Bool.or_self, Bool.and_true, Bool.true_and, Bool.and_false, Bool.false_and, Bool.or_true, Bool.true_or, Bool.or_false, Bool.false_or, Bool.not_true, Bool.not_false, cond_true, cond_false]
      exact g
    · rw [hc] at g
      simp only [cond_true] at g
      simp -implicitDefEqProofs (disch := omega) only [hc, ew, take_one, set_one, decide_eq_true, decide_eq_false, IntWalk.i64_in, bneT, bneF, nat_succ, ← Int.natCast_mul, ← Int.natCast_add, Int.toNat_natCast, Int.zero_mul, Int.zero_add, Int.add_zero, Nat.zero_add, Nat.add_zero, Nat.zero_mul, List.length_singleton, List.length_append, List.length_nil, List.length_cons, List.take_length, List.drop_zero, List.replicate_zero, List.take_nil, List.nil_append, Nat.reduceBEq, Nat.reduceMul, Nat.reduceLeDiff, eq_self, and_self, true_and, and_true, decide_true, decide_false, Bool.and_self, Bool.or_self, Bool.and_true, Bool.true_and, Bool.and_false, Bool.false_and, Bool.or_true, Bool.true_or, Bool.or_false, Bool.false_or, Bool.not_true, Bool.not_false, cond_true, cond_false]
      exact g
theorem run : ∀ args v new, R args = some (true, v, new) → ∃ fuel, runFn Try.prog (orc [⟨160, vOf.R⟩]) hd Dr.std (some 0) fuel (bodyOf Try.f126) 30 [8] args [] = some (v, new) := by
  intro args v new h
  unfold R at h
  split at h
  · rename_i p t ws m i j os l
    simp only [Option.some.injEq, Prod.mk.injEq, Bool.and_eq_true, decide_eq_true_eq] at h
    obtain ⟨⟨⟨rfl, rfl, h1, h2, h3⟩, hs⟩, rfl, rfl⟩ := h
    have hs2 := hs
    obtain ⟨p, t, rfl, rfl, hp, ht, hw, v⟩ := vp.valid hs2
    have h48 := vp.le_48 hp.2 ht.2
    obtain ⟨i, rfl⟩ : ∃ q : Nat, i = q := ⟨i.toNat, by omega⟩
    refine ⟨os.length + 1, ?_⟩
    rw [start]
    simp -implicitDefEqProofs (disch := omega) only [take_one, set_one, decide_eq_true, decide_eq_false, IntWalk.i64_in, beqT, beqF, bneT, bneF, nat_succ, ← Int.natCast_mul, ← Int.natCast_add, Int.toNat_natCast, Int.zero_mul, Int.zero_add, Int.add_zero, Nat.zero_add, Nat.add_zero, Nat.zero_mul, List.length_singleton, List.length_append, List.length_nil, List.length_cons, List.take_length, List.drop_zero, List.replicate_zero, List.take_nil, List.nil_append, Nat.reduceBEq, Nat.reduceMul, Nat.reduceLeDiff, eq_self, and_self, true_and, and_true, decide_true, decide_false, Bool.and_self, Bool.or_self, Bool.and_true, Bool.true_and, Bool.and_false, Bool.false_and, Bool.or_true, Bool.true_or, Bool.or_false, Bool.false_or, Bool.not_true, Bool.not_false, cond_true, cond_false]
    exact loop p t ws os i j (os.length + 1) hp ht hw v (by omega) (by omega) os.length 0 (os.length + 1) (by omega) (by omega)
  · cases h
theorem ok : EntOk Try.prog ⟨126, R⟩ :=
  ent_okA mixed (A := (orc [⟨160, vOf.R⟩])) (orc_ok (by simp only [List.mem_cons, List.not_mem_nil, or_false, forall_eq_or_imp, forall_eq]; exact vOf.ok)) Try.func126 (by kernel_rfl) (by kernel_rfl) (n := 30) (ts := [8]) (hd := hd) (dr := Dr.std) (cut := (some 0)) (by kernel_rfl) (by kernel_rfl) (by kernel_rfl) run
end vPart


namespace vOwn
def R : List AVal → Option (Bool × AVal × List Blk)
  | [.agg [.int .i64 p, .int .i64 t, .ro (.ints .i64 ws) m 1], .ro (.ints .i64 os) l 1] => some (decide (m = ws.length ∧ l = os.length ∧ (l : Int) = t) && vp.sp p t ws, .own 0 0 p.toNat 0 1, [⟨.typ (.ints .i64 (vp.own.sv t.toNat ws os p.toNat)), 0⟩])
  | _ => none
def hd : Nat → Head := fun _ => ⟨[1, 2, 5, 9, 10], some 2⟩
noncomputable def L (f n : Nat) (s : State) := loopAt Try.prog (orc [⟨126, vPart.R⟩]) hd Dr.std 0 f (bodyOf Try.f67) 0 [true, true, false, true] (retK Try.prog [4] 0 none) n s
theorem start (p t : Nat) (ws : List Int) (os : List Int) (f : Nat) :
  runFn Try.prog (orc [⟨126, vPart.R⟩]) hd Dr.std none f (bodyOf Try.f67) 23 [4] [.agg [.int .i64 p, .int .i64 t, .ro (.ints .i64 ws) ws.length 1], .ro (.ints .i64 os) os.length 1] []
  = (bif true && true then L f f (mkS (23 : Nat) [((1 : Nat), AVal.ro (Cont.ints IntKind.i64 os) os.length (1 : Nat)), ((2 : Nat), AVal.ptr (0 : Nat) (0 : Nat) (0 : Nat)), ((5 : Nat), AVal.own (1 : Nat) (0 : Nat) (0 : Nat) (0 : Nat) (1 : Nat)), ((9 : Nat), AVal.int IntKind.i64 (↑p : Int)), ((10 : Nat), AVal.int IntKind.i64 (0 : Int))] [{ c := BC.cells [AVal.int IntKind.i64 (↑p : Int), AVal.int IntKind.i64 (↑t : Int), AVal.ro (Cont.ints IntKind.i64 ws) ws.length (1 : Nat)], ver := (0 : Nat) }, { c := BC.typ (Cont.ints IntKind.i64 (List.replicate (0 : Nat) (0 : Int))), ver := (0 : Nat) }]) else none) := by kernel_rfl
theorem round (p t : Nat) (ws : List Int) (os zs : List Int) (i f n : Nat) :
  L f (n + 1) (mkS 23 [(1, .ro (.ints .i64 os) os.length 1), (2, .ptr 0 0 0), (5, .own 1 0 (i : Nat) 0 1), (9, .int .i64 p), (10, .int .i64 (i : Int))] [⟨.cells [.int .i64 p, .int .i64 t, .ro (.ints .i64 ws) ws.length 1], 0⟩, ⟨.typ (.ints .i64 zs), 0⟩])
  = (bif decide ((↑i : Int) < (↑p : Int)) then bif true && true && (true && true && (true && true && true)) then bif decide (ws.length = ws.length ∧ os.length = os.length ∧ (0 : Int) ≤ (↑i : Int) ∧ (↑i : Int) < (↑p : Int) ∧ (↑os.length : Int) = (↑t : Int)) && vp.sp (↑p : Int) (↑t : Int) ws && (true && (true && (true && true)) && (true && (true && (true && true))) || true && true) then bif (1 : Nat) == (1 : Nat) && (1 : Nat) == (1 : Nat) && (true && (true && true) && (true && true && (decide (i + (List.take (1 : Nat) (List.drop (0 : Nat) ((List.replicate (1 : Nat) (0 : Int)).set (0 : Nat) (vp.part.sv (↑t : Int).toNat ws os (↑i : Int).toNat (↑i : Int))))).length ≤ (4611686018427387904 : Nat)) && decide ((i + (List.take (1 : Nat) (List.drop (0 : Nat) ((List.replicate (1 : Nat) (0 : Int)).set (0 : Nat) (vp.part.sv (↑t : Int).toNat ws os (↑i : Int).toNat (↑i : Int))))).length) * (8 : Nat) ≤ (140737488355328 : Nat))))) then L f n (mkS (23 : Nat) [((1 : Nat), AVal.ro (Cont.ints IntKind.i64 os) os.length (1 : Nat)), ((2 : Nat), AVal.ptr (0 : Nat) (0 : Nat) (0 : Nat)), ((5 : Nat), AVal.own (1 : Nat) (0 : Nat) (i + (List.take (1 : Nat) (List.drop (0 : Nat) ((List.replicate (1 : Nat) (0 : Int)).set (0 : Nat) (vp.part.sv (↑t : Int).toNat ws os (↑i : Int).toNat (↑i : Int))))).length) (0 : Nat) (1 : Nat)), ((9 : Nat), AVal.int IntKind.i64 (↑p : Int)), ((10 : Nat), AVal.int IntKind.i64 (IntKind.i64.wrap ((↑i : Int) + (1 : Int))))] [{ c := BC.cells [AVal.int IntKind.i64 (↑p : Int), AVal.int IntKind.i64 (↑t : Int), AVal.ro (Cont.ints IntKind.i64 ws) ws.length (1 : Nat)], ver := (0 : Nat) }, { c := BC.typ (Cont.ints IntKind.i64 (List.take i zs ++ List.take (1 : Nat) (List.drop (0 : Nat) ((List.replicate (1 : Nat) (0 : Int)).set (0 : Nat) (vp.part.sv (↑t : Int).toNat ws os (↑i : Int).toNat (↑i : Int)))))), ver := (0 : Nat) }]) else none else none else none else some (AVal.own (1 : Nat) (0 : Nat) i (0 : Nat) (1 : Nat), [{ c := BC.cells [AVal.int IntKind.i64 (↑p : Int), AVal.int IntKind.i64 (↑t : Int), AVal.ro (Cont.ints IntKind.i64 ws) ws.length (1 : Nat)], ver := (0 : Nat) }, { c := BC.typ (Cont.ints IntKind.i64 zs), ver := (0 : Nat) }])) := by kernel_rfl
theorem loop (p t : Nat) (ws : List Int) (os : List Int) (f : Nat) (hs : vp.sp p t ws = true) (hp : 1 ≤ p ∧ p ≤ 6) (ht : 1 ≤ t ∧ t ≤ 8) (hw : ws.length = p * t) (v : ∀ x ∈ ws, 0 ≤ x ∧ x ≤ 1000) (hl : os.length = t) : ∀ (d i n : Nat), i + d = p → d < n →
    L f n (mkS 23 [(1, .ro (.ints .i64 os) os.length 1), (2, .ptr 0 0 0), (5, .own 1 0 (i : Nat) 0 1), (9, .int .i64 p), (10, .int .i64 (i : Int))] [⟨.cells [.int .i64 p, .int .i64 t, .ro (.ints .i64 ws) ws.length 1], 0⟩, ⟨.typ (.ints .i64 (vp.own.sv t ws os i)), 0⟩]) = some (.own 1 0 p 0 1, [⟨.cells [.int .i64 p, .int .i64 t, .ro (.ints .i64 ws) ws.length 1], 0⟩, ⟨.typ (.ints .i64 (vp.own.sv t ws os p)), 0⟩]) := by
  intro d
  induction d with
  | zero =>
    intro i n hi hn
    obtain ⟨n, rfl⟩ : ∃ k, n = k + 1 := ⟨n - 1, by omega⟩
    obtain rfl : i = p := by omega
    rw [round]
    simp -implicitDefEqProofs (disch := omega) only [take_one, set_one, decide_eq_true, decide_eq_false, IntWalk.i64_in, beqT, beqF, bneT, bneF, nat_succ, ← Int.natCast_mul, ← Int.natCast_add, Int.toNat_natCast, Int.zero_mul, Int.zero_add, Int.add_zero, Nat.zero_add, Nat.add_zero, Nat.zero_mul, List.length_singleton, List.length_append, List.length_nil, List.length_cons, List.take_length, List.drop_zero, List.replicate_zero, List.take_nil, List.nil_append, Nat.reduceBEq, Nat.reduceMul, Nat.reduceLeDiff, eq_self, and_self, true_and, and_true, decide_true, decide_false, Bool.and_self, Bool.or_self, Bool.and_true, Bool.true_and, Bool.and_false, Bool.false_and, Bool.or_true, Bool.true_or, Bool.or_false, Bool.false_or, Bool.not_true, Bool.not_false, cond_true, cond_false]
  | succ d ih =>
    intro i n hi hn
    obtain ⟨n, rfl⟩ : ∃ k, n = k + 1 := ⟨n - 1, by omega⟩
    have g := ih (i + 1) n (by omega) (by omega)
    have e := vp.own_succ t ws os i
    have lo := vp.own_length t ws os i
    have tz : (vp.own.sv t ws os i).take i = vp.own.sv t ws os i := List.take_of_length_le (by omega)
    rw [round]
    simp -implicitDefEqProofs (disch := omega) only [hs, tz, e, take_one, set_one, decide_eq_true, decide_eq_false, IntWalk.i64_in, beqT, beqF, bneT, bneF, nat_succ, ← Int.natCast_mul, ← Int.natCast_add, Int.toNat_natCast, Int.zero_mul, Int.zero_add, Int.add_zero, Nat.zero_add, Nat.add_zero, Nat.zero_mul, List.length_singleton, List.length_append, List.length_nil, List.length_cons, List.take_length, List.drop_zero, List.replicate_zero, List.take_nil, List.nil_append, Nat.reduceBEq, Nat.reduceMul, Nat.reduceLeDiff, eq_self, and_self, true_and, and_true, decide_true, decide_false, Bool.and_self, Bool.or_self, Bool.and_true, Bool.true_and, Bool.and_false, Bool.false_and, Bool.or_true, Bool.true_or, Bool.or_false, Bool.false_or, Bool.not_true, Bool.not_false, cond_true, cond_false]
    exact g
theorem run : ∀ args v new, R args = some (true, v, new) → ∃ fuel, regc [1] (runFn Try.prog (orc [⟨126, vPart.R⟩]) hd Dr.std none fuel (bodyOf Try.f67) 23 [4] args []) = some (v, new) := by
  intro args v new h
  unfold R at h
  split at h
  · rename_i p t ws m os l
    simp only [Option.some.injEq, Prod.mk.injEq, Bool.and_eq_true, decide_eq_true_eq] at h
    obtain ⟨⟨⟨rfl, rfl, h3⟩, hs⟩, rfl, rfl⟩ := h
    have hs2 := hs
    obtain ⟨p, t, rfl, rfl, hp, ht, hw, v⟩ := vp.valid hs2
    have h48 := vp.le_48 hp.2 ht.2
    obtain ⟨F, hF⟩ : ∃ F : Nat, F = 100 := ⟨100, rfl⟩
    refine ⟨F, ?_⟩
    have g := loop p t ws os F hs hp ht hw v (by omega) p 0 F (by omega) (by omega)
    rw [start]
    simp -implicitDefEqProofs (disch := omega) only [take_one, set_one, decide_eq_true, decide_eq_false, IntWalk.i64_in, beqT, beqF, bneT, bneF, nat_succ, ← Int.natCast_mul, ← Int.natCast_add, Int.toNat_natCast, Int.zero_mul, Int.zero_add, Int.add_zero, Nat.zero_add, Nat.add_zero, Nat.zero_mul, List.length_singleton, List.length_append, List.length_nil, List.length_cons, List.take_length, List.drop_zero, List.replicate_zero, List.take_nil, List.nil_append, Nat.reduceBEq, Nat.reduceMul, Nat.reduceLeDiff, eq_self, and_self, true_and, and_true, decide_true, decide_false, Bool.and_self, Bool.or_self, Bool.and_true, Bool.true_and, Bool.and_false, Bool.false_and, Bool.or_true, Bool.true_or, Bool.or_false, Bool.false_or, Bool.not_true, Bool.not_false, cond_true, cond_false]
    exact (congrArg (regc [1]) g).trans rfl
  · cases h
theorem ok : EntOk Try.prog ⟨67, R⟩ :=
  ent_okAG (ks := [1]) mixed (A := (orc [⟨126, vPart.R⟩])) (orc_ok (by simp only [List.mem_cons, List.not_mem_nil, or_false, forall_eq_or_imp, forall_eq]; exact vPart.ok)) Try.func67 (by kernel_rfl) (by kernel_rfl) (n := 23) (ts := [4]) (hd := hd) (dr := Dr.std) (cut := none) (by kernel_rfl) (by kernel_rfl) (by kernel_rfl) run
end vOwn

namespace vOwned
def R : List AVal → Option (Bool × AVal × List Blk)
  | [.agg [.int .i64 p, .int .i64 t, .ro (.ints .i64 ws) m 1], .ro (.ints .i64 os) l 1] => some (decide (m = ws.length ∧ l = os.length ∧ (l : Int) = t) && (vp.sp p t ws && (os.all fun x => decide (0 ≤ x) && decide (x ≤ p - 1))), .bool true, [])
  | _ => none
theorem go (p t : Int) (ws : List Int) (m : Nat) (os : List Int) (l : Nat) :
  runFn Try.prog (orc [⟨73, iValidValues.R⟩, ⟨77, areMany.R⟩]) hd0 Dr.std (some 0) 0 (bodyOf Try.f66) 18 [4] [.agg [.int .i64 p, .int .i64 t, .ro (.ints .i64 ws) m 1], .ro (.ints .i64 os) l 1] []
  = (bif true && true && (true && true && (true && true && true)) then bif decide (m = ws.length) && vp.sp p t ws && (true && (true && (true && true)) && true || true && true) then bif true && true then bif true && true then bif true && true then bif decide (l ≤ os.length ∧ l ≤ (4611686018427387904 : Nat)) && (true && (true && (true && (true && (true && true)))) || true && true) then some (AVal.bool (decide (t ≤ (↑l : Int)) && decide ((↑l : Int) ≤ t) && (List.take l os).all fun x => decide ((0 : Int) ≤ x) && decide (x ≤ IntKind.i64.wrap (p - (1 : Int)))), []) else none else none else none else none else none else none) := by kernel_rfl
theorem run : ∀ args v new, R args = some (true, v, new) → ∃ fuel, runFn Try.prog (orc [⟨73, iValidValues.R⟩, ⟨77, areMany.R⟩]) hd0 Dr.std (some 0) fuel (bodyOf Try.f66) 18 [4] args [] = some (v, new) := by
  intro args v new h
  unfold R at h
  split at h
  · rename_i p t ws m os l
    simp only [Option.some.injEq, Prod.mk.injEq, Bool.and_eq_true, decide_eq_true_eq] at h
    obtain ⟨⟨⟨rfl, rfl, h3⟩, hs, ho⟩, rfl, rfl⟩ := h
    have hs2 := hs
    obtain ⟨p, t, rfl, rfl, hp, ht, hw, v⟩ := vp.valid hs2
    have h48 := vp.le_48 hp.2 ht.2
    refine ⟨0, ?_⟩
    rw [go]
    simp -implicitDefEqProofs (disch := omega) only [hs, ho, take_one, set_one, decide_eq_true, decide_eq_false, IntWalk.i64_in, beqT, beqF, bneT, bneF, nat_succ, ← Int.natCast_mul, ← Int.natCast_add, Int.toNat_natCast, Int.zero_mul, Int.zero_add, Int.add_zero, Nat.zero_add, Nat.add_zero, Nat.zero_mul, List.length_singleton, List.length_append, List.length_nil, List.length_cons, List.take_length, List.drop_zero, List.replicate_zero, List.take_nil, List.nil_append, Nat.reduceBEq, Nat.reduceMul, Nat.reduceLeDiff, eq_self, and_self, true_and, and_true, decide_true, decide_false, Bool.and_self, Bool.or_self, Bool.and_true, Bool.true_and, Bool.and_false, Bool.false_and, Bool.or_true, Bool.true_or, Bool.or_false, Bool.false_or, Bool.not_true, Bool.not_false, cond_true, cond_false]
  · cases h
theorem ok : EntOk Try.prog ⟨66, R⟩ :=
  ent_okA mixed (A := (orc [⟨73, iValidValues.R⟩, ⟨77, areMany.R⟩])) (orc_ok (by simp only [List.mem_cons, List.not_mem_nil, or_false, forall_eq_or_imp, forall_eq]; exact ⟨iValidValues.ok, areMany.ok⟩)) Try.func66 (by kernel_rfl) (by kernel_rfl) (n := 18) (ts := [4]) (hd := hd0) (dr := Dr.std) (cut := (some 0)) (by kernel_rfl) (by kernel_rfl) (by kernel_rfl) run
end vOwned

namespace iOwnWorths
def R : List AVal → Option (Bool × AVal × List Blk)
  | [.agg [.int .i64 p, .int .i64 t, .ro (.ints .i64 ws) m 1], .ro (.ints .i64 os) l 1] => some (decide (m = ws.length ∧ l = os.length ∧ (l : Int) = t) && (vp.sp p t ws && (os.all fun x => decide (0 ≤ x) && decide (x ≤ p - 1))), .tup [.own 0 0 p.toNat 0 1, .bool true], [⟨.typ (.ints .i64 (vp.own.sv t.toNat ws os p.toNat)), 0⟩])
  | _ => none
theorem go (p t : Int) (ws : List Int) (m : Nat) (os : List Int) (l : Nat) :
  regc [1] (runFn Try.prog (orc [⟨66, vOwned.R⟩, ⟨67, vOwn.R⟩]) hd0 Dr.std none 0 (bodyOf Try.f13) 13 [4, 5] [.agg [.int .i64 p, .int .i64 t, .ro (.ints .i64 ws) m 1], .ro (.ints .i64 os) l 1] [])
  = (match bif true && true && (true && true && (true && true && true)) then bif decide (m = ws.length ∧ l = os.length ∧ (↑l : Int) = t) && (vp.sp p t ws && os.all fun x => decide ((0 : Int) ≤ x) && decide (x ≤ p - (1 : Int))) && (true && (true && (true && true)) && (true && true) || true && true) then bif true && true && (true && true && (true && true && true)) then bif decide (m = ws.length ∧ l = os.length ∧ (↑l : Int) = t) && vp.sp p t ws && (true && (true && (true && true)) && (true && true) || true && (true && true)) then some (AVal.tup [AVal.own (1 : Nat) (0 : Nat) p.toNat (0 : Nat) (1 : Nat), AVal.bool true], [{ c := BC.cells [AVal.int IntKind.i64 p, AVal.int IntKind.i64 t, AVal.ro (Cont.ints IntKind.i64 ws) m (1 : Nat)], ver := (0 : Nat) }, { c := BC.typ (Cont.ints IntKind.i64 (vp.own.sv t.toNat ws os p.toNat)), ver := (0 : Nat) }]) else none else none else none else none with
| some (v, h) =>
  bif true && (ltN (1 : Nat) (hlen h) && true) then
    some
      (AVal.re [(1 : Nat)] h v,
        match nth h (1 : Nat) with
        | some b => { c := BC.re [(1 : Nat)] h b.c, ver := b.ver } :: reB [(1 : Nat)] h []
        | none => { c := BC.cells [], ver := (0 : Nat) } :: reB [(1 : Nat)] h [])
  else none
| none => none) := by kernel_rfl
theorem run : ∀ args v new, R args = some (true, v, new) → ∃ fuel, regc [1] (runFn Try.prog (orc [⟨66, vOwned.R⟩, ⟨67, vOwn.R⟩]) hd0 Dr.std none fuel (bodyOf Try.f13) 13 [4, 5] args []) = some (v, new) := by
  intro args v new h
  unfold R at h
  split at h
  · rename_i p t ws m os l
    simp only [Option.some.injEq, Prod.mk.injEq, Bool.and_eq_true, decide_eq_true_eq] at h
    obtain ⟨⟨⟨rfl, rfl, h3⟩, hs, ho⟩, rfl, rfl⟩ := h
    have hs2 := hs
    obtain ⟨p, t, rfl, rfl, hp, ht, hw, v⟩ := vp.valid hs2
    have h48 := vp.le_48 hp.2 ht.2
    refine ⟨0, ?_⟩
    rw [go]
    simp -implicitDefEqProofs (disch := omega) only [hs, ho, take_one, set_one, decide_eq_true, decide_eq_false, IntWalk.i64_in, beqT, beqF, bneT, bneF, nat_succ, ← Int.natCast_mul, ← Int.natCast_add, Int.toNat_natCast, Int.zero_mul, Int.zero_add, Int.add_zero, Nat.zero_add, Nat.add_zero, Nat.zero_mul, List.length_singleton, List.length_append, List.length_nil, List.length_cons, List.take_length, List.drop_zero, List.replicate_zero, List.take_nil, List.nil_append, Nat.reduceBEq, Nat.reduceMul, Nat.reduceLeDiff, eq_self, and_self, true_and, and_true, decide_true, decide_false, Bool.and_self, Bool.or_self, Bool.and_true, Bool.true_and, Bool.and_false, Bool.false_and, Bool.or_true, Bool.true_or, Bool.or_false, Bool.false_or, Bool.not_true, Bool.not_false, cond_true, cond_false]
    rfl
  · cases h
theorem ok : EntOk Try.prog ⟨13, R⟩ :=
  ent_okAG (ks := [1]) mixed (A := (orc [⟨66, vOwned.R⟩, ⟨67, vOwn.R⟩])) (orc_ok (by simp only [List.mem_cons, List.not_mem_nil, or_false, forall_eq_or_imp, forall_eq]; exact ⟨vOwned.ok, vOwn.ok⟩)) Try.func13 (by kernel_rfl) (by kernel_rfl) (n := 13) (ts := [4, 5]) (hd := hd0) (dr := Dr.std) (cut := none) (by kernel_rfl) (by kernel_rfl) (by kernel_rfl) run
end iOwnWorths







end Go.Proofs.Ytkoongajnnaeoaa.Ab
