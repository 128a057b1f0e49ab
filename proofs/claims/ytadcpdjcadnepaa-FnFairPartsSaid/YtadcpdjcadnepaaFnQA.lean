/-
  Functions: parts of things: what they are worth.
-/
import Derived.Test.YtadcpdjcadnepaaFnAU
import Derived.Test.YtadcpdjcadnepaaFnZA
import Derived.Test.YtadcpdjcadnepaaFnC
namespace Go.Proofs.Ytadcpdjcadnepaa.Ab
open Go
set_option linter.unusedVariables false
set_option linter.unusedSimpArgs false
set_option maxRecDepth 100000

namespace vp
/-- Valid values. -/
def sp (p t : Int) (ws : List Int) : Bool := ((decide (1 ≤ p) && decide (p ≤ 6)) && (decide (1 ≤ t) && decide (t ≤ 8))) && (decide ((ws.length : Int) = p * t) && ws.all fun x => decide (0 ≤ x) && decide (x ≤ 1000))
theorem valid {p t : Int} {ws : List Int} (h : sp p t ws = true) : ∃ P T : Nat, p = P ∧ t = T ∧ (1 ≤ P ∧ P ≤ 6) ∧ (1 ≤ T ∧ T ≤ 8) ∧ ws.length = P * T ∧ ∀ x ∈ ws, 0 ≤ x ∧ x ≤ 1000 := by
  simp only [sp, Bool.and_eq_true, decide_eq_true_eq, List.all_eq_true] at h
  obtain ⟨⟨⟨h1, h2⟩, h3, h4⟩, h5, h6⟩ := h
  refine ⟨p.toNat, t.toNat, by omega, by omega, by omega, by omega, ?_, h6⟩
  have : ((p.toNat * t.toNat : Nat) : Int) = p * t := by rw [Int.natCast_mul, Int.toNat_of_nonneg (by omega), Int.toNat_of_nonneg (by omega)]
  omega
theorem le_48 {p t : Nat} (hp : p ≤ 6) (ht : t ≤ 8) : p * t ≤ 48 := Nat.mul_le_mul hp ht
theorem le_48i {p t : Int} (h1 : 1 ≤ p) (hp : p ≤ 6) (h2 : 1 ≤ t) (ht : t ≤ 8) : 1 ≤ p * t ∧ p * t ≤ 48 := by
  have a := Int.mul_le_mul hp ht (by omega) (by omega)
  have b := Int.mul_le_mul h1 h2 (by omega) (by omega)
  omega
def w (t : Nat) (ws : List Int) (i k : Nat) : Int := gz ws (i * t + k)
theorem w_in {ws : List Int} (v : ∀ x ∈ ws, 0 ≤ x ∧ x ≤ 1000) (t i k : Nat) : 0 ≤ w t ws i k ∧ w t ws i k ≤ 1000 := by
  unfold w
  by_cases h : i * t + k < ws.length
  · exact v _ (gz_mem h)
  · rw [gz_out (by omega)]; omega
/-- What the things that one has, of the first ones, are worth to one. -/
def ps (t : Nat) (ws os : List Int) (i : Nat) (j : Int) : Nat → Int
  | 0 => 0
  | k + 1 => ps t ws os i j k + (bif gz os k == j then w t ws i k else 0)
theorem ps_in {ws : List Int} (v : ∀ x ∈ ws, 0 ≤ x ∧ x ≤ 1000) (t : Nat) (os : List Int) (i : Nat) (j : Int) : ∀ k, 0 ≤ ps t ws os i j k ∧ ps t ws os i j k ≤ 1000 * k := by
  intro k
  induction k with
  | zero => simp [ps]
  | succ k ih =>
    have := w_in v t i k
    simp only [ps]
    cases gz os k == j
    · simp only [cond_false]; omega
    · simp only [cond_true]; omega
def part.sv (t : Nat) (ws os : List Int) (i : Nat) (j : Int) : Int := ps t ws os i j os.length
def envy.sv (t : Nat) (ws os : List Int) (i : Nat) (j : Int) : Int := part.sv t ws os i j - part.sv t ws os i (i : Int)
def own.sv (t : Nat) (ws os : List Int) (p : Nat) : List Int := (List.range p).map fun i => part.sv t ws os i (i : Int)
def tab.sv (t : Nat) (ws os : List Int) (p n : Nat) : List Int := (List.range n).map fun q => envy.sv t ws os (q / p) ((q % p : Nat) : Int)
theorem own_length (t : Nat) (ws os : List Int) (p : Nat) : (own.sv t ws os p).length = p := by simp [own.sv]
theorem own_succ (t : Nat) (ws os : List Int) (p : Nat) : own.sv t ws os p ++ [part.sv t ws os p (p : Int)] = own.sv t ws os (p + 1) := by simp [own.sv, List.range_succ]
theorem own_get {t : Nat} {ws os : List Int} {p i : Nat} (h : i < p) : gz (own.sv t ws os p) i = part.sv t ws os i (i : Int) := by rw [gz_eq (by rw [own_length]; exact h)]; simp [own.sv]
theorem tab_length (t : Nat) (ws os : List Int) (p n : Nat) : (tab.sv t ws os p n).length = n := by simp [tab.sv]
theorem tab_succ (t : Nat) (ws os : List Int) (p n : Nat) : tab.sv t ws os p n ++ [envy.sv t ws os (n / p) ((n % p : Nat) : Int)] = tab.sv t ws os p (n + 1) := by simp [tab.sv, List.range_succ]
theorem tab_get {t : Nat} {ws os : List Int} {p n q : Nat} (h : q < n) : gz (tab.sv t ws os p n) q = envy.sv t ws os (q / p) ((q % p : Nat) : Int) := by rw [gz_eq (by rw [tab_length]; exact h)]; simp [tab.sv]
theorem part_in {ws : List Int} (v : ∀ x ∈ ws, 0 ≤ x ∧ x ≤ 1000) (t : Nat) {os : List Int} (h : os.length ≤ 8) (i : Nat) (j : Int) : 0 ≤ part.sv t ws os i j ∧ part.sv t ws os i j ≤ 8000 := by
  have := ps_in v t os i j os.length
  unfold part.sv
  omega
/-- The dearest of the things that one has. -/
def mx (t : Nat) (ws os : List Int) (i : Nat) (j : Int) : Nat → Int
  | 0 => 0
  | k + 1 => bif gz os k == j then (if mx t ws os i j k < w t ws i k then w t ws i k else mx t ws os i j k) else mx t ws os i j k
theorem mx_in {ws : List Int} (v : ∀ x ∈ ws, 0 ≤ x ∧ x ≤ 1000) (t : Nat) (os : List Int) (i : Nat) (j : Int) : ∀ k, 0 ≤ mx t ws os i j k ∧ mx t ws os i j k ≤ 1000 := by
  intro k
  induction k with
  | zero => simp [mx]
  | succ k ih =>
    have := w_in v t i k
    simp only [mx]
    cases gz os k == j
    · simp only [cond_false]; omega
    · simp only [cond_true]; split <;> omega
/-- Does nobody envy anybody but for a thing? From some pair on. -/
def ef1 (t : Nat) (ws os : List Int) (i j : Nat) : Bool := !decide (mx t ws os i (j : Int) os.length < envy.sv t ws os i (j : Int))
def efr (t : Nat) (ws os : List Int) (i : Nat) : Nat → Nat → Bool
  | 0, _ => true
  | d + 1, j => ef1 t ws os i j && efr t ws os i d (j + 1)
def efa (t : Nat) (ws os : List Int) (p : Nat) : Nat → Nat → Bool
  | 0, _ => true
  | d + 1, i => efr t ws os i p 0 && efa t ws os p d (i + 1)
def ef.sp (t : Nat) (ws os : List Int) (p : Nat) : Bool := efa t ws os p p 0
/-- The greatest. -/
def hi : List Int → Int → Int
  | [], a => a
  | x :: r, a => hi r (if a < x then x else a)
def hi.sv : List Int → Int
  | [] => 0
  | x :: r => hi r x
def rs (t : Nat) (ws : List Int) (i : Nat) : Nat → Int
  | 0 => 0
  | k + 1 => rs t ws i k + w t ws i k
def eva (t : Nat) (ws os : List Int) (p : Nat) : Nat → Nat → Bool
  | 0, _ => true
  | d + 1, i => !decide (part.sv t ws os i (i : Int) * p < rs t ws i t) && eva t ws os p d (i + 1)
def ev.sp (t : Nat) (ws os : List Int) (p : Nat) : Bool := eva t ws os p p 0
theorem rs_in {ws : List Int} (v : ∀ x ∈ ws, 0 ≤ x ∧ x ≤ 1000) (t i : Nat) : ∀ k, 0 ≤ rs t ws i k ∧ rs t ws i k ≤ 1000 * k := by
  intro k
  induction k with
  | zero => simp [rs]
  | succ k ih => have := w_in v t i k; simp only [rs]; omega
def wsum (l : List Int) (a : Int) : Int := l.foldl (fun s x => IntKind.i64.wrap (s + x)) a
theorem sum_row {ws : List Int} (v : ∀ x ∈ ws, 0 ≤ x ∧ x ≤ 1000) {t i : Nat} (ht : t ≤ 8) (h : (i + 1) * t ≤ ws.length) : sumOf.sp ((ws.drop (i * t)).take t) = rs t ws i t := by
  have key : ∀ d k, k + d = t → (((ws.drop (i * t)).take t).drop k).foldl (fun s x => IntKind.i64.wrap (s + x)) (rs t ws i k) = rs t ws i t := by
    intro d
    induction d with
    | zero =>
      intro k hk
      rw [List.drop_of_length_le (by rw [List.length_take]; omega)]
      obtain rfl : k = t := by omega
      rfl
    | succ d ih =>
      intro k hk
      rw [Nat.succ_mul] at h
      have hl : k < ((ws.drop (i * t)).take t).length := by rw [List.length_take, List.length_drop]; omega
      have e : ((ws.drop (i * t)).take t)[k] = w t ws i k := by
        unfold w
        rw [gz_eq (by omega)]
        simp
      have b1 := rs_in v t i k
      have b2 := w_in v t i k
      rw [List.drop_eq_getElem_cons hl, List.foldl_cons, e, IntWalk.i64_in _ (by omega)]
      exact ih (k + 1) (by omega)
  have := key t 0 (by omega)
  rw [List.drop_zero] at this
  exact this
end vp

namespace areHeirs
def R : List AVal → Option (Bool × AVal × List Blk)
  | [.int .i64 n] => some (true, .bool (decide (1 ≤ n) && decide (n ≤ 6)), [])
  | _ => none
theorem go (n : Int) :
  runFn Try.prog (orc [⟨65, within.R⟩]) hd0 Dr.std none 0 (bodyOf Try.f98) 5 [2] [.int .i64 n] []
  = (bif true && (true && true || true && true) then some (AVal.bool (decide ((1 : Int) ≤ n) && decide (n ≤ (6 : Int))), []) else none) := by kernel_rfl
theorem run : ∀ args v new, R args = some (true, v, new) → ∃ fuel, runFn Try.prog (orc [⟨65, within.R⟩]) hd0 Dr.std none fuel (bodyOf Try.f98) 5 [2] args [] = some (v, new) := by
  intro args v new h
  unfold R at h
  split at h
  · rename_i n
    simp only [Option.some.injEq, Prod.mk.injEq] at h
    obtain ⟨_, rfl, rfl⟩ := h
    refine ⟨0, ?_⟩
    rw [go]
    simp -implicitDefEqProofs (disch := omega) only [take_one, set_one, decide_eq_true, decide_eq_false, IntWalk.i64_in, beqT, beqF, bneT, bneF, nat_succ, ← Int.natCast_mul, ← Int.natCast_add, Int.toNat_natCast, Int.zero_mul, Int.zero_add, Int.add_zero, Nat.zero_add, Nat.add_zero, Nat.zero_mul, List.length_singleton, List.length_append, List.length_nil, List.length_cons, List.take_length, List.drop_zero, List.replicate_zero, List.take_nil, List.nil_append, Nat.reduceBEq, Nat.reduceMul, Nat.reduceLeDiff, eq_self, and_self, true_and, and_true, decide_true, decide_false, Bool.and_self, Bool.or_self, Bool.and_true, Bool.true_and, Bool.and_false, Bool.false_and, Bool.or_true, Bool.true_or, Bool.or_false, Bool.false_or, Bool.not_true, Bool.not_false, cond_true, cond_false]
  · cases h
theorem ok : EntOk Try.prog ⟨98, R⟩ :=
  ent_okA mixed (A := (orc [⟨65, within.R⟩])) (orc_ok (by simp only [List.mem_cons, List.not_mem_nil, or_false, forall_eq_or_imp, forall_eq]; exact within.ok)) Try.func98 (by kernel_rfl) (by kernel_rfl) (n := 5) (ts := [2]) (hd := hd0) (dr := Dr.std) (cut := none) (by kernel_rfl) (by kernel_rfl) (by kernel_rfl) run
end areHeirs

namespace iValidValues
def R : List AVal → Option (Bool × AVal × List Blk)
  | [.agg [.int .i64 p, .int .i64 t, .ro (.ints .i64 ws) m 1]] => some (decide (m = ws.length) && vp.sp p t ws, .bool true, [])
  | _ => none
theorem go (p t : Int) (ws : List Int) (m : Nat) :
  runFn Try.prog (orc [⟨98, areHeirs.R⟩, ⟨65, within.R⟩, ⟨66, areMany.R⟩]) hd0 Dr.std (some 0) 0 (bodyOf Try.f42) 24 [2] [.agg [.int .i64 p, .int .i64 t, .ro (.ints .i64 ws) m 1]] []
  = (bif true && true then bif true && true then bif true && true then bif true && (true && true || true && true) then bif decide ((1 : Int) ≤ p) && decide (p ≤ (6 : Int)) then bif true && true then bif true && (true && true || true && true) then bif decide ((1 : Int) ≤ t) && decide (t ≤ (8 : Int)) then bif true && true then bif decide (m ≤ ws.length ∧ m ≤ (4611686018427387904 : Nat)) && (true && (true && (true && true)) || true && true) then some (AVal.bool (decide (IntKind.i64.wrap (p * t) ≤ (↑m : Int)) && decide ((↑m : Int) ≤ IntKind.i64.wrap (p * t)) && (List.take m ws).all fun x => decide ((0 : Int) ≤ x) && decide (x ≤ (1000 : Int))), []) else none else none else some (AVal.bool false, []) else none else none else some (AVal.bool false, []) else none else none else none else none) := by kernel_rfl
theorem run : ∀ args v new, R args = some (true, v, new) → ∃ fuel, runFn Try.prog (orc [⟨98, areHeirs.R⟩, ⟨65, within.R⟩, ⟨66, areMany.R⟩]) hd0 Dr.std (some 0) fuel (bodyOf Try.f42) 24 [2] args [] = some (v, new) := by
  intro args v new h
  unfold R at h
  split at h
  · rename_i p t ws m
    simp only [Option.some.injEq, Prod.mk.injEq, Bool.and_eq_true, decide_eq_true_eq] at h
    obtain ⟨⟨⟨rfl⟩, hs⟩, rfl, rfl⟩ := h
    have hs2 := hs
    obtain ⟨p, t, rfl, rfl, hp, ht, hw, v⟩ := vp.valid hs2
    have h48 := vp.le_48 hp.2 ht.2
    have hall : (ws.all fun x => decide (0 ≤ x) && decide (x ≤ 1000)) = true := by
      rw [List.all_eq_true]; intro x hx; have := v x hx; simp only [Bool.and_eq_true, decide_eq_true_eq]; exact this
    have e : ((ws.length : Nat) : Int) = ((p * t : Nat) : Int) := by rw [hw]
    refine ⟨0, ?_⟩
    rw [go]
    simp -implicitDefEqProofs (disch := omega) only [hall, take_one, set_one, decide_eq_true, decide_eq_false, IntWalk.i64_in, beqT, beqF, bneT, bneF, nat_succ, ← Int.natCast_mul, ← Int.natCast_add, Int.toNat_natCast, Int.zero_mul, Int.zero_add, Int.add_zero, Nat.zero_add, Nat.add_zero, Nat.zero_mul, List.length_singleton, List.length_append, List.length_nil, List.length_cons, List.take_length, List.drop_zero, List.replicate_zero, List.take_nil, List.nil_append, Nat.reduceBEq, Nat.reduceMul, Nat.reduceLeDiff, eq_self, and_self, true_and, and_true, decide_true, decide_false, Bool.and_self, Bool.or_self, Bool.and_true, Bool.true_and, Bool.and_false, Bool.false_and, Bool.or_true, Bool.true_or, Bool.or_false, Bool.false_or, Bool.not_true, Bool.not_false, cond_true, cond_false]
  · cases h
theorem ok : EntOk Try.prog ⟨42, R⟩ :=
  ent_okA mixed (A := (orc [⟨98, areHeirs.R⟩, ⟨65, within.R⟩, ⟨66, areMany.R⟩])) (orc_ok (by simp only [List.mem_cons, List.not_mem_nil, or_false, forall_eq_or_imp, forall_eq]; exact ⟨areHeirs.ok, within.ok, areMany.ok⟩)) Try.func42 (by kernel_rfl) (by kernel_rfl) (n := 24) (ts := [2]) (hd := hd0) (dr := Dr.std) (cut := (some 0)) (by kernel_rfl) (by kernel_rfl) (by kernel_rfl) run
end iValidValues

namespace vOf
def R : List AVal → Option (Bool × AVal × List Blk)
  | [.agg [.int .i64 p, .int .i64 t, .ro (.ints .i64 ws) m 1], .int .i64 i, .int .i64 k] => some (decide (m = ws.length ∧ 0 ≤ i ∧ 0 ≤ k ∧ i ≤ 100 ∧ k ≤ 100 ∧ 0 ≤ t ∧ t ≤ 100 ∧ i * t + k < (ws.length : Int)), .int .i64 (gz ws (i * t + k).toNat), [])
  | _ => none
theorem go (p t : Int) (ws : List Int) (m : Nat) (i k : Int) :
  runFn Try.prog (orc []) hd0 Dr.std (some 0) 0 (bodyOf Try.f89) 17 [6] [.agg [.int .i64 p, .int .i64 t, .ro (.ints .i64 ws) m 1], .int .i64 i, .int .i64 k] []
  = (bif true && true then bif true && true then bif true && (decide ((0 : Int) ≤ IntKind.i64.wrap (IntKind.i64.wrap (i * t) + k)) && decide (IntKind.i64.wrap (IntKind.i64.wrap (i * t) + k) < (↑m : Int))) then bif decide ((IntKind.i64.wrap (IntKind.i64.wrap (i * t) + k)).toNat < ws.length) then some (AVal.int IntKind.i64 (gz ws (IntKind.i64.wrap (IntKind.i64.wrap (i * t) + k)).toNat), []) else none else none else none else none) := by kernel_rfl
theorem run : ∀ args v new, R args = some (true, v, new) → ∃ fuel, runFn Try.prog (orc []) hd0 Dr.std (some 0) fuel (bodyOf Try.f89) 17 [6] args [] = some (v, new) := by
  intro args v new h
  unfold R at h
  split at h
  · rename_i p t ws m i k
    simp only [Option.some.injEq, Prod.mk.injEq, decide_eq_true_eq] at h
    obtain ⟨⟨rfl, h1, h2, h3, h4, h5, h6, h7⟩, rfl, rfl⟩ := h
    have p1 : 0 ≤ i * t := Int.mul_nonneg h1 h5
    have p2 : i * t ≤ 100 * 100 := Int.mul_le_mul h3 h6 h5 (by omega)
    have w1 : IntKind.i64.wrap (i * t) = i * t := IntWalk.i64_in _ (by omega)
    have w2 : IntKind.i64.wrap (i * t + k) = i * t + k := IntWalk.i64_in _ (by omega)
    refine ⟨0, ?_⟩
    rw [go, w1, w2]
    generalize hq : i * t + k = q at h7 ⊢
    have q1 : q.toNat < ws.length := by omega
    simp -implicitDefEqProofs (disch := omega) only [take_one, set_one, decide_eq_true, decide_eq_false, IntWalk.i64_in, beqT, beqF, bneT, bneF, nat_succ, ← Int.natCast_mul, ← Int.natCast_add, Int.toNat_natCast, Int.zero_mul, Int.zero_add, Int.add_zero, Nat.zero_add, Nat.add_zero, Nat.zero_mul, List.length_singleton, List.length_append, List.length_nil, List.length_cons, List.take_length, List.drop_zero, List.replicate_zero, List.take_nil, List.nil_append, Nat.reduceBEq, Nat.reduceMul, Nat.reduceLeDiff, eq_self, and_self, true_and, and_true, decide_true, decide_false, Bool.and_self, Bool.or_self, Bool.and_true, Bool.true_and, Bool.and_false, Bool.false_and, Bool.or_true, Bool.true_or, Bool.or_false, Bool.false_or, Bool.not_true, Bool.not_false, cond_true, cond_false]
  · cases h
theorem ok : EntOk Try.prog ⟨89, R⟩ :=
  ent_okA mixed (A := (orc [])) (orc_ok (by simp)) Try.func89 (by kernel_rfl) (by kernel_rfl) (n := 17) (ts := [6]) (hd := hd0) (dr := Dr.std) (cut := (some 0)) (by kernel_rfl) (by kernel_rfl) (by kernel_rfl) run
end vOf

namespace vPart
def R : List AVal → Option (Bool × AVal × List Blk)
  | [.agg [.int .i64 p, .int .i64 t, .ro (.ints .i64 ws) m 1], .int .i64 i, .int .i64 j, .ro (.ints .i64 os) l 1] => some (decide (m = ws.length ∧ l = os.length ∧ 0 ≤ i ∧ i < p ∧ (l : Int) = t) && vp.sp p t ws, .int .i64 (vp.part.sv t.toNat ws os i.toNat j), [])
  | _ => none
def hd : Nat → Head := fun _ => ⟨[1, 2, 4, 9, 12, 13, 14], some 1⟩
noncomputable def L (f n : Nat) (s : State) := loopAt Try.prog (orc [⟨89, vOf.R⟩]) hd Dr.std 0 f (bodyOf Try.f114) 0 [true, true, false, true] (retK Try.prog [8] 0 (some 0)) n s
theorem start (p t : Nat) (ws : List Int) (os : List Int) (i : Nat) (j : Int) (f : Nat) :
  runFn Try.prog (orc [⟨89, vOf.R⟩]) hd Dr.std (some 0) f (bodyOf Try.f114) 30 [8] [.agg [.int .i64 p, .int .i64 t, .ro (.ints .i64 ws) ws.length 1], .int .i64 (i : Int), .int .i64 j, .ro (.ints .i64 os) os.length 1] []
  = (L f f (mkS (30 : Nat) [((1 : Nat), AVal.int IntKind.i64 (↑i : Int)), ((2 : Nat), AVal.int IntKind.i64 j), ((4 : Nat), AVal.ptr (0 : Nat) (0 : Nat) (0 : Nat)), ((9 : Nat), AVal.int IntKind.i64 (0 : Int)), ((12 : Nat), AVal.ro (Cont.ints IntKind.i64 os) os.length (1 : Nat)), ((13 : Nat), AVal.int IntKind.i64 (↑os.length : Int)), ((14 : Nat), AVal.int IntKind.i64 (0 : Int))] [{ c := BC.cells [AVal.int IntKind.i64 (↑p : Int), AVal.int IntKind.i64 (↑t : Int), AVal.ro (Cont.ints IntKind.i64 ws) ws.length (1 : Nat)], ver := (0 : Nat) }])) := by kernel_rfl
theorem round (p t : Nat) (ws : List Int) (os : List Int) (i : Nat) (j a : Int) (k f n : Nat) :
  L f (n + 1) (mkS 30 [(1, .int .i64 (i : Int)), (2, .int .i64 j), (4, .ptr 0 0 0), (9, .int .i64 a), (12, .ro (.ints .i64 os) os.length 1), (13, .int .i64 os.length), (14, .int .i64 (k : Int))] [⟨.cells [.int .i64 p, .int .i64 t, .ro (.ints .i64 ws) ws.length 1], 0⟩])
  = (bif decide ((↑k : Int) < (↑os.length : Int)) then bif true && (decide ((0 : Int) ≤ (↑k : Int)) && decide ((↑k : Int) < (↑os.length : Int))) then bif decide ((↑k : Int).toNat < os.length) then bif gz os (↑k : Int).toNat == j then bif true && true && (true && true && (true && true && true)) then bif decide (ws.length = ws.length ∧ (0 : Int) ≤ (↑i : Int) ∧ (0 : Int) ≤ (↑k : Int) ∧ (↑i : Int) ≤ (100 : Int) ∧ (↑k : Int) ≤ (100 : Int) ∧ (0 : Int) ≤ (↑t : Int) ∧ (↑t : Int) ≤ (100 : Int) ∧ (↑i : Int) * (↑t : Int) + (↑k : Int) < (↑ws.length : Int)) && (true && (true && (true && true)) && (true && (true && true)) || true && true) then L f n (mkS (30 : Nat) [((1 : Nat), AVal.int IntKind.i64 (↑i : Int)), ((2 : Nat), AVal.int IntKind.i64 j), ((4 : Nat), AVal.ptr (0 : Nat) (0 : Nat) (0 : Nat)), ((9 : Nat), AVal.int IntKind.i64 (IntKind.i64.wrap (a + gz ws ((↑i : Int) * (↑t : Int) + (↑k : Int)).toNat))), ((12 : Nat), AVal.ro (Cont.ints IntKind.i64 os) os.length (1 : Nat)), ((13 : Nat), AVal.int IntKind.i64 (↑os.length : Int)), ((14 : Nat), AVal.int IntKind.i64 (IntKind.i64.wrap ((↑k : Int) + (1 : Int))))] [{ c := BC.cells [AVal.int IntKind.i64 (↑p : Int), AVal.int IntKind.i64 (↑t : Int), AVal.ro (Cont.ints IntKind.i64 ws) ws.length (1 : Nat)], ver := (0 : Nat) }]) else none else none else L f n (mkS (30 : Nat) [((1 : Nat), AVal.int IntKind.i64 (↑i : Int)), ((2 : Nat), AVal.int IntKind.i64 j), ((4 : Nat), AVal.ptr (0 : Nat) (0 : Nat) (0 : Nat)), ((9 : Nat), AVal.int IntKind.i64 a), ((12 : Nat), AVal.ro (Cont.ints IntKind.i64 os) os.length (1 : Nat)), ((13 : Nat), AVal.int IntKind.i64 (↑os.length : Int)), ((14 : Nat), AVal.int IntKind.i64 (IntKind.i64.wrap ((↑k : Int) + (1 : Int))))] [{ c := BC.cells [AVal.int IntKind.i64 (↑p : Int), AVal.int IntKind.i64 (↑t : Int), AVal.ro (Cont.ints IntKind.i64 ws) ws.length (1 : Nat)], ver := (0 : Nat) }]) else none else none else some (AVal.int IntKind.i64 a, [])) := by kernel_rfl
theorem loop (p t : Nat) (ws : List Int) (os : List Int) (i : Nat) (j : Int) (f : Nat) (hp : 1 ≤ p ∧ p ≤ 6) (ht : 1 ≤ t ∧ t ≤ 8) (hw : ws.length = p * t) (v : ∀ x ∈ ws, 0 ≤ x ∧ x ≤ 1000) (hi : i < p) (hl : os.length = t) : ∀ (d k n : Nat), k + d = os.length → d < n →
    L f n (mkS 30 [(1, .int .i64 (i : Int)), (2, .int .i64 j), (4, .ptr 0 0 0), (9, .int .i64 (vp.ps t ws os i j k)), (12, .ro (.ints .i64 os) os.length 1), (13, .int .i64 os.length), (14, .int .i64 (k : Int))] [⟨.cells [.int .i64 p, .int .i64 t, .ro (.ints .i64 ws) ws.length 1], 0⟩]) = some (.int .i64 (vp.part.sv t ws os i j), []) := by
  intro d
  induction d with
  | zero =>
    intro k n hk hn
    obtain ⟨n, rfl⟩ : ∃ k, n = k + 1 := ⟨n - 1, by omega⟩
    obtain rfl : k = os.length := by omega
    rw [round]
    simp -implicitDefEqProofs (disch := omega) only [take_one, set_one, decide_eq_true, decide_eq_false, IntWalk.i64_in, beqT, beqF, bneT, bneF, nat_succ, ← Int.natCast_mul, ← Int.natCast_add, Int.toNat_natCast, Int.zero_mul, Int.zero_add, Int.add_zero, Nat.zero_add, Nat.add_zero, Nat.zero_mul, List.length_singleton, List.length_append, List.length_nil, List.length_cons, List.take_length, List.drop_zero, List.replicate_zero, List.take_nil, List.nil_append, Nat.reduceBEq, Nat.reduceMul, Nat.reduceLeDiff, eq_self, and_self, true_and, and_true, decide_true, decide_false, Bool.and_self, Bool.or_self, Bool.and_true, Bool.true_and, Bool.and_false, Bool.false_and, Bool.or_true, Bool.true_or, Bool.or_false, Bool.false_or, Bool.not_true, Bool.not_false, cond_true, cond_false]
    rfl
  | succ d ih =>
    intro k n hk hn
    obtain ⟨n, rfl⟩ : ∃ k, n = k + 1 := ⟨n - 1, by omega⟩
    have hkt : k < t := by omega
    have h48 := vp.le_48 hp.2 ht.2
    have hx := ix_lt (R := p) (C := t) hi hkt
    have b1 := vp.ps_in v t os i j k
    have b2 := vp.w_in v t i k
    have ew : gz ws (i * t + k) = vp.w t ws i k := rfl
    have g := ih (k + 1) n (by omega) (by omega)
    simp only [vp.ps] at g
    rw [round]
    cases hc : (gz os k == j)
    · rw [hc] at g
      simp only [cond_false, Int.add_zero] at g
      simp -implicitDefEqProofs (disch := omega) only [hc, ew, take_one, set_one, decide_eq_true, decide_eq_false, IntWalk.i64_in, bneT, bneF, nat_succ, ← Int.natCast_mul, ← Int.natCast_add, Int.toNat_natCast, Int.zero_mul, Int.zero_add, Int.add_zero, Nat.zero_add, Nat.add_zero, Nat.zero_mul, List.length_singleton, List.length_append, List.length_nil, List.length_cons, List.take_length, List.drop_zero, List.replicate_zero, List.take_nil, List.nil_append, Nat.reduceBEq, Nat.reduceMul, Nat.reduceLeDiff, eq_self, and_self, true_and, and_true, decide_true, decide_false, Bool.and_self, Bool.or_self, Bool.and_true, Bool.true_and, Bool.and_false, Bool.false_and, Bool.or_true, Bool.true_or, Bool.or_false, Bool.false_or, Bool.not_true, Bool.not_false, cond_true, cond_false]
      exact g
    · rw [hc] at g
      simp only [cond_true] at g
      simp -implicitDefEqProofs (disch := omega) only [hc, ew, take_one, set_one, decide_eq_true, decide_eq_false, IntWalk.i64_in, bneT, bneF, nat_succ, ← Int.natCast_mul, ← Int.natCast_add, Int.toNat_natCast, Int.zero_mul, Int.zero_add, Int.add_zero, Nat.zero_add, Nat.add_zero, Nat.zero_mul, List.length_singleton, List.length_append, List.length_nil, List.length_cons, List.take_length, List.drop_zero, List.replicate_zero, List.take_nil, List.nil_append, Nat.reduceBEq, Nat.reduceMul, Nat.reduceLeDiff, eq_self, and_self, true_and, and_true, decide_true, decide_false, Bool.and_self, Bool.or_self, Bool.and_true, Bool.true_and, Bool.and_false, Bool.false_and, Bool.or_true, Bool.true_or, Bool.or_false, Bool.false_or, Bool.not_true, Bool.not_false, cond_true, cond_false]
      exact g
theorem run : ∀ args v new, R args = some (true, v, new) → ∃ fuel, runFn Try.prog (orc [⟨89, vOf.R⟩]) hd Dr.std (some 0) fuel (bodyOf Try.f114) 30 [8] args [] = some (v, new) := by
  intro args v new h
  unfold R at h
  split at h
  · rename_i p t ws m i j os l
    simp only [Option.some.injEq, Prod.mk.injEq, Bool.and_eq_true, decide_eq_true_eq] at h
    obtain ⟨⟨⟨rfl, rfl, h1, h2, h3⟩, hs⟩, rfl, rfl⟩ := h
    have hs2 := hs
    obtain ⟨p, t, rfl, rfl, hp, ht, hw, v⟩ := vp.valid hs2
    have h48 := vp.le_48 hp.2 ht.2
    obtain ⟨i, rfl⟩ : ∃ q : Nat, i = q := ⟨i.toNat, by omega⟩
    refine ⟨os.length + 1, ?_⟩
    rw [start]
    simp -implicitDefEqProofs (disch := omega) only [take_one, set_one, decide_eq_true, decide_eq_false, IntWalk.i64_in, beqT, beqF, bneT, bneF, nat_succ, ← Int.natCast_mul, ← Int.natCast_add, Int.toNat_natCast, Int.zero_mul, Int.zero_add, Int.add_zero, Nat.zero_add, Nat.add_zero, Nat.zero_mul, List.length_singleton, List.length_append, List.length_nil, List.length_cons, List.take_length, List.drop_zero, List.replicate_zero, List.take_nil, List.nil_append, Nat.reduceBEq, Nat.reduceMul, Nat.reduceLeDiff, eq_self, and_self, true_and, and_true, decide_true, decide_false, Bool.and_self, Bool.or_self, Bool.and_true, Bool.true_and, Bool.and_false, Bool.false_and, Bool.or_true, Bool.true_or, Bool.or_false, Bool.false_or, Bool.not_true, Bool.not_false, cond_true, cond_false]
    exact loop p t ws os i j (os.length + 1) hp ht hw v (by omega) (by omega) os.length 0 (os.length + 1) (by omega) (by omega)
  · cases h
theorem ok : EntOk Try.prog ⟨114, R⟩ :=
  ent_okA mixed (A := (orc [⟨89, vOf.R⟩])) (orc_ok (by simp only [List.mem_cons, List.not_mem_nil, or_false, forall_eq_or_imp, forall_eq]; exact vOf.ok)) Try.func114 (by kernel_rfl) (by kernel_rfl) (n := 30) (ts := [8]) (hd := hd) (dr := Dr.std) (cut := (some 0)) (by kernel_rfl) (by kernel_rfl) (by kernel_rfl) run
end vPart

namespace vEnvy
def dr : Nat → Dr := fun i => bif eqN i 1 then ⟨some [0, 1, 2, 3, 5, 6, 7, 8, 4, 9, 10, 11], false⟩ else ⟨none, false⟩
def R : List AVal → Option (Bool × AVal × List Blk)
  | [.agg [.int .i64 p, .int .i64 t, .ro (.ints .i64 ws) m 1], .int .i64 i, .int .i64 j, .ro (.ints .i64 os) l 1] => some (decide (m = ws.length ∧ l = os.length ∧ 0 ≤ i ∧ i < p ∧ (l : Int) = t) && vp.sp p t ws, .int .i64 (vp.envy.sv t.toNat ws os i.toNat j), [])
  | _ => none
theorem go (p t : Int) (ws : List Int) (m : Nat) (i j : Int) (os : List Int) (l : Nat) :
  runFn Try.prog (orc [⟨114, vPart.R⟩]) hd0 dr (some 0) 0 (bodyOf Try.f95) 20 [8] [.agg [.int .i64 p, .int .i64 t, .ro (.ints .i64 ws) m 1], .int .i64 i, .int .i64 j, .ro (.ints .i64 os) l 1] []
  = (bif true && true && (true && true && (true && true && true)) then bif true && true && (true && true && (true && true && true)) then bif decide (m = ws.length ∧ l = os.length ∧ (0 : Int) ≤ i ∧ i < p ∧ (↑l : Int) = t) && vp.sp p t ws && (true && (true && (true && true)) && (true && (true && (true && true))) || true && true) then bif decide (m = ws.length ∧ l = os.length ∧ (0 : Int) ≤ i ∧ i < p ∧ (↑l : Int) = t) && vp.sp p t ws && (true && (true && (true && true)) && (true && (true && (true && true))) || true && true) then some (AVal.int IntKind.i64 (IntKind.i64.wrap (vp.part.sv t.toNat ws os i.toNat j - vp.part.sv t.toNat ws os i.toNat i)), []) else none else none else none else none) := by kernel_rfl
theorem run : ∀ args v new, R args = some (true, v, new) → ∃ fuel, runFn Try.prog (orc [⟨114, vPart.R⟩]) hd0 dr (some 0) fuel (bodyOf Try.f95) 20 [8] args [] = some (v, new) := by
  intro args v new h
  unfold R at h
  split at h
  · rename_i p t ws m i j os l
    simp only [Option.some.injEq, Prod.mk.injEq, Bool.and_eq_true, decide_eq_true_eq] at h
    obtain ⟨⟨⟨rfl, rfl, h1, h2, h3⟩, hs⟩, rfl, rfl⟩ := h
    have hs2 := hs
    obtain ⟨p, t, rfl, rfl, hp, ht, hw, v⟩ := vp.valid hs2
    have h48 := vp.le_48 hp.2 ht.2
    obtain ⟨i, rfl⟩ : ∃ q : Nat, i = q := ⟨i.toNat, by omega⟩
    have b1 := vp.part_in v t (os := os) (by omega) i j
    have b2 := vp.part_in v t (os := os) (by omega) i (i : Int)
    refine ⟨0, ?_⟩
    rw [go]
    simp -implicitDefEqProofs (disch := omega) only [hs, take_one, set_one, decide_eq_true, decide_eq_false, IntWalk.i64_in, beqT, beqF, bneT, bneF, nat_succ, ← Int.natCast_mul, ← Int.natCast_add, Int.toNat_natCast, Int.zero_mul, Int.zero_add, Int.add_zero, Nat.zero_add, Nat.add_zero, Nat.zero_mul, List.length_singleton, List.length_append, List.length_nil, List.length_cons, List.take_length, List.drop_zero, List.replicate_zero, List.take_nil, List.nil_append, Nat.reduceBEq, Nat.reduceMul, Nat.reduceLeDiff, eq_self, and_self, true_and, and_true, decide_true, decide_false, Bool.and_self, Bool.or_self, Bool.and_true, Bool.true_and, Bool.and_false, Bool.false_and, Bool.or_true, Bool.true_or, Bool.or_false, Bool.false_or, Bool.not_true, Bool.not_false, cond_true, cond_false]
    rfl
  · cases h
theorem ok : EntOk Try.prog ⟨95, R⟩ :=
  ent_okA mixed (A := (orc [⟨114, vPart.R⟩])) (orc_ok (by simp only [List.mem_cons, List.not_mem_nil, or_false, forall_eq_or_imp, forall_eq]; exact vPart.ok)) Try.func95 (by kernel_rfl) (by kernel_rfl) (n := 20) (ts := [8]) (hd := hd0) (dr := dr) (cut := (some 0)) (by kernel_rfl) (by kernel_rfl) (by kernel_rfl) run
end vEnvy

namespace vOwn
def R : List AVal → Option (Bool × AVal × List Blk)
  | [.agg [.int .i64 p, .int .i64 t, .ro (.ints .i64 ws) m 1], .ro (.ints .i64 os) l 1] => some (decide (m = ws.length ∧ l = os.length ∧ (l : Int) = t) && vp.sp p t ws, .own 0 0 p.toNat 0 1, [⟨.typ (.ints .i64 (vp.own.sv t.toNat ws os p.toNat)), 0⟩])
  | _ => none
def hd : Nat → Head := fun _ => ⟨[1, 2, 5, 9, 10], some 2⟩
noncomputable def L (f n : Nat) (s : State) := loopAt Try.prog (orc [⟨114, vPart.R⟩]) hd Dr.std 0 f (bodyOf Try.f57) 0 [true, true, false, true] (retK Try.prog [4] 0 none) n s
theorem start (p t : Nat) (ws : List Int) (os : List Int) (f : Nat) :
  runFn Try.prog (orc [⟨114, vPart.R⟩]) hd Dr.std none f (bodyOf Try.f57) 23 [4] [.agg [.int .i64 p, .int .i64 t, .ro (.ints .i64 ws) ws.length 1], .ro (.ints .i64 os) os.length 1] []
  = (bif true && true then L f f (mkS (23 : Nat) [((1 : Nat), AVal.ro (Cont.ints IntKind.i64 os) os.length (1 : Nat)), ((2 : Nat), AVal.ptr (0 : Nat) (0 : Nat) (0 : Nat)), ((5 : Nat), AVal.own (1 : Nat) (0 : Nat) (0 : Nat) (0 : Nat) (1 : Nat)), ((9 : Nat), AVal.int IntKind.i64 (↑p : Int)), ((10 : Nat), AVal.int IntKind.i64 (0 : Int))] [{ c := BC.cells [AVal.int IntKind.i64 (↑p : Int), AVal.int IntKind.i64 (↑t : Int), AVal.ro (Cont.ints IntKind.i64 ws) ws.length (1 : Nat)], ver := (0 : Nat) }, { c := BC.typ (Cont.ints IntKind.i64 (List.replicate (0 : Nat) (0 : Int))), ver := (0 : Nat) }]) else none) := by kernel_rfl
theorem round (p t : Nat) (ws : List Int) (os zs : List Int) (i f n : Nat) :
  L f (n + 1) (mkS 23 [(1, .ro (.ints .i64 os) os.length 1), (2, .ptr 0 0 0), (5, .own 1 0 (i : Nat) 0 1), (9, .int .i64 p), (10, .int .i64 (i : Int))] [⟨.cells [.int .i64 p, .int .i64 t, .ro (.ints .i64 ws) ws.length 1], 0⟩, ⟨.typ (.ints .i64 zs), 0⟩])
  = (bif decide ((↑i : Int) < (↑p : Int)) then bif true && true && (true && true && (true && true && true)) then bif decide (ws.length = ws.length ∧ os.length = os.length ∧ (0 : Int) ≤ (↑i : Int) ∧ (↑i : Int) < (↑p : Int) ∧ (↑os.length : Int) = (↑t : Int)) && vp.sp (↑p : Int) (↑t : Int) ws && (true && (true && (true && true)) && (true && (true && (true && true))) || true && true) then bif (1 : Nat) == (1 : Nat) && (1 : Nat) == (1 : Nat) && (true && (true && true) && (true && true && (decide (i + (List.take (1 : Nat) (List.drop (0 : Nat) ((List.replicate (1 : Nat) (0 : Int)).set (0 : Nat) (vp.part.sv (↑t : Int).toNat ws os (↑i : Int).toNat (↑i : Int))))).length ≤ (4611686018427387904 : Nat)) && decide ((i + (List.take (1 : Nat) (List.drop (0 : Nat) ((List.replicate (1 : Nat) (0 : Int)).set (0 : Nat) (vp.part.sv (↑t : Int).toNat ws os (↑i : Int).toNat (↑i : Int))))).length) * (8 : Nat) ≤ (140737488355328 : Nat))))) then L f n (mkS (23 : Nat) [((1 : Nat), AVal.ro (Cont.ints IntKind.i64 os) os.length (1 : Nat)), ((2 : Nat), AVal.ptr (0 : Nat) (0 : Nat) (0 : Nat)), ((5 : Nat), AVal.own (1 : Nat) (0 : Nat) (i + (List.take (1 : Nat) (List.drop (0 : Nat) ((List.replicate (1 : Nat) (0 : Int)).set (0 : Nat) (vp.part.sv (↑t : Int).toNat ws os (↑i : Int).toNat (↑i : Int))))).length) (0 : Nat) (1 : Nat)), ((9 : Nat), AVal.int IntKind.i64 (↑p : Int)), ((10 : Nat), AVal.int IntKind.i64 (IntKind.i64.wrap ((↑i : Int) + (1 : Int))))] [{ c := BC.cells [AVal.int IntKind.i64 (↑p : Int), AVal.int IntKind.i64 (↑t : Int), AVal.ro (Cont.ints IntKind.i64 ws) ws.length (1 : Nat)], ver := (0 : Nat) }, { c := BC.typ (Cont.ints IntKind.i64 (List.take i zs ++ List.take (1 : Nat) (List.drop (0 : Nat) ((List.replicate (1 : Nat) (0 : Int)).set (0 : Nat) (vp.part.sv (↑t : Int).toNat ws os (↑i : Int).toNat (↑i : Int)))))), ver := (0 : Nat) }]) else none else none else none else some (AVal.own (1 : Nat) (0 : Nat) i (0 : Nat) (1 : Nat), [{ c := BC.cells [AVal.int IntKind.i64 (↑p : Int), AVal.int IntKind.i64 (↑t : Int), AVal.ro (Cont.ints IntKind.i64 ws) ws.length (1 : Nat)], ver := (0 : Nat) }, { c := BC.typ (Cont.ints IntKind.i64 zs), ver := (0 : Nat) }])) := by kernel_rfl
theorem loop (p t : Nat) (ws : List Int) (os : List Int) (f : Nat) (hs : vp.sp p t ws = true) (hp : 1 ≤ p ∧ p ≤ 6) (ht : 1 ≤ t ∧ t ≤ 8) (hw : ws.length = p * t) (v : ∀ x ∈ ws, 0 ≤ x ∧ x ≤ 1000) (hl : os.length = t) : ∀ (d i n : Nat), i + d = p → d < n →
    L f n (mkS 23 [(1, .ro (.ints .i64 os) os.length 1), (2, .ptr 0 0 0), (5, .own 1 0 (i : Nat) 0 1), (9, .int .i64 p), (10, .int .i64 (i : Int))] [⟨.cells [.int .i64 p, .int .i64 t, .ro (.ints .i64 ws) ws.length 1], 0⟩, ⟨.typ (.ints .i64 (vp.own.sv t ws os i)), 0⟩]) = some (.own 1 0 p 0 1, [⟨.cells [.int .i64 p, .int .i64 t, .ro (.ints .i64 ws) ws.length 1], 0⟩, ⟨.typ (.ints .i64 (vp.own.sv t ws os p)), 0⟩]) := by
  intro d
  induction d with
  | zero =>
    intro i n hi hn
    obtain ⟨n, rfl⟩ : ∃ k, n = k + 1 := ⟨n - 1, by omega⟩
    obtain rfl : i = p := by omega
    rw [round]
    simp -implicitDefEqProofs (disch := omega) only [take_one, set_one, decide_eq_true, decide_eq_false, IntWalk.i64_in, beqT, beqF, bneT, bneF, nat_succ, ← Int.natCast_mul, ← Int.natCast_add, Int.toNat_natCast, Int.zero_mul, Int.zero_add, Int.add_zero, Nat.zero_add, Nat.add_zero, Nat.zero_mul, List.length_singleton, List.length_append, List.length_nil, List.length_cons, List.take_length, List.drop_zero, List.replicate_zero, List.take_nil, List.nil_append, Nat.reduceBEq, Nat.reduceMul, Nat.reduceLeDiff, eq_self, and_self, true_and, and_true, decide_true, decide_false, Bool.and_self, Bool.or_self, Bool.and_true, Bool.true_and, Bool.and_false, Bool.false_and, Bool.or_true, Bool.true_or, Bool.or_false, Bool.false_or, Bool.not_true, Bool.not_false, cond_true, cond_false]
  | succ d ih =>
    intro i n hi hn
    obtain ⟨n, rfl⟩ : ∃ k, n = k + 1 := ⟨n - 1, by omega⟩
    have g := ih (i + 1) n (by omega) (by omega)
    have e := vp.own_succ t ws os i
    have lo := vp.own_length t ws os i
    have tz : (vp.own.sv t ws os i).take i = vp.own.sv t ws os i := List.take_of_length_le (by omega)
    rw [round]
    simp -implicitDefEqProofs (disch := omega) only [hs, tz, e, take_one, set_one, decide_eq_true, decide_eq_false, IntWalk.i64_in, beqT, beqF, bneT, bneF, nat_succ, ← Int.natCast_mul, ← Int.natCast_add, Int.toNat_natCast, Int.zero_mul, Int.zero_add, Int.add_zero, Nat.zero_add, Nat.add_zero, Nat.zero_mul, List.length_singleton, List.length_append, List.length_nil, List.length_cons, List.take_length, List.drop_zero, List.replicate_zero, List.take_nil, List.nil_append, Nat.reduceBEq, Nat.reduceMul, Nat.reduceLeDiff, eq_self, and_self, true_and, and_true, decide_true, decide_false, Bool.and_self, Bool.or_self, Bool.and_true, Bool.true_and, Bool.and_false, Bool.false_and, Bool.or_true, Bool.true_or, Bool.or_false, Bool.false_or, Bool.not_true, Bool.not_false, cond_true, cond_false]
    exact g
theorem run : ∀ args v new, R args = some (true, v, new) → ∃ fuel, regc [1] (runFn Try.prog (orc [⟨114, vPart.R⟩]) hd Dr.std none fuel (bodyOf Try.f57) 23 [4] args []) = some (v, new) := by
  intro args v new h
  unfold R at h
  split at h
  · rename_i p t ws m os l
    simp only [Option.some.injEq, Prod.mk.injEq, Bool.and_eq_true, decide_eq_true_eq] at h
    obtain ⟨⟨⟨rfl, rfl, h3⟩, hs⟩, rfl, rfl⟩ := h
    have hs2 := hs
    obtain ⟨p, t, rfl, rfl, hp, ht, hw, v⟩ := vp.valid hs2
    have h48 := vp.le_48 hp.2 ht.2
    obtain ⟨F, hF⟩ : ∃ F : Nat, F = 100 := ⟨100, rfl⟩
    refine ⟨F, ?_⟩
    have g := loop p t ws os F hs hp ht hw v (by omega) p 0 F (by omega) (by omega)
    rw [start]
    simp -implicitDefEqProofs (disch := omega) only [take_one, set_one, decide_eq_true, decide_eq_false, IntWalk.i64_in, beqT, beqF, bneT, bneF, nat_succ, ← Int.natCast_mul, ← Int.natCast_add, Int.toNat_natCast, Int.zero_mul, Int.zero_add, Int.add_zero, Nat.zero_add, Nat.add_zero, Nat.zero_mul, List.length_singleton, List.length_append, List.length_nil, List.length_cons, List.take_length, List.drop_zero, List.replicate_zero, List.take_nil, List.nil_append, Nat.reduceBEq, Nat.reduceMul, Nat.reduceLeDiff, eq_self, and_self, true_and, and_true, decide_true, decide_false, Bool.and_self, Bool.or_self, Bool.and_true, Bool.true_and, Bool.and_false, Bool.false_and, Bool.or_true, Bool.true_or, Bool.or_false, Bool.false_or, Bool.not_true, Bool.not_false, cond_true, cond_false]
    exact (congrArg (regc [1]) g).trans rfl
  · cases h
theorem ok : EntOk Try.prog ⟨57, R⟩ :=
  ent_okAG (ks := [1]) mixed (A := (orc [⟨114, vPart.R⟩])) (orc_ok (by simp only [List.mem_cons, List.not_mem_nil, or_false, forall_eq_or_imp, forall_eq]; exact vPart.ok)) Try.func57 (by kernel_rfl) (by kernel_rfl) (n := 23) (ts := [4]) (hd := hd) (dr := Dr.std) (cut := none) (by kernel_rfl) (by kernel_rfl) (by kernel_rfl) run
end vOwn

namespace vOwned
def R : List AVal → Option (Bool × AVal × List Blk)
  | [.agg [.int .i64 p, .int .i64 t, .ro (.ints .i64 ws) m 1], .ro (.ints .i64 os) l 1] => some (decide (m = ws.length ∧ l = os.length ∧ (l : Int) = t) && (vp.sp p t ws && (os.all fun x => decide (0 ≤ x) && decide (x ≤ p - 1))), .bool true, [])
  | _ => none
theorem go (p t : Int) (ws : List Int) (m : Nat) (os : List Int) (l : Nat) :
  runFn Try.prog (orc [⟨42, iValidValues.R⟩, ⟨66, areMany.R⟩]) hd0 Dr.std (some 0) 0 (bodyOf Try.f56) 18 [4] [.agg [.int .i64 p, .int .i64 t, .ro (.ints .i64 ws) m 1], .ro (.ints .i64 os) l 1] []
  = (bif true && true && (true && true && (true && true && true)) then bif decide (m = ws.length) && vp.sp p t ws && (true && (true && (true && true)) && true || true && true) then bif true && true then bif true && true then bif true && true then bif decide (l ≤ os.length ∧ l ≤ (4611686018427387904 : Nat)) && (true && (true && (true && (true && (true && true)))) || true && true) then some (AVal.bool (decide (t ≤ (↑l : Int)) && decide ((↑l : Int) ≤ t) && (List.take l os).all fun x => decide ((0 : Int) ≤ x) && decide (x ≤ IntKind.i64.wrap (p - (1 : Int)))), []) else none else none else none else none else none else none) := by kernel_rfl
theorem run : ∀ args v new, R args = some (true, v, new) → ∃ fuel, runFn Try.prog (orc [⟨42, iValidValues.R⟩, ⟨66, areMany.R⟩]) hd0 Dr.std (some 0) fuel (bodyOf Try.f56) 18 [4] args [] = some (v, new) := by
  intro args v new h
  unfold R at h
  split at h
  · rename_i p t ws m os l
    simp only [Option.some.injEq, Prod.mk.injEq, Bool.and_eq_true, decide_eq_true_eq] at h
    obtain ⟨⟨⟨rfl, rfl, h3⟩, hs, ho⟩, rfl, rfl⟩ := h
    have hs2 := hs
    obtain ⟨p, t, rfl, rfl, hp, ht, hw, v⟩ := vp.valid hs2
    have h48 := vp.le_48 hp.2 ht.2
    refine ⟨0, ?_⟩
    rw [go]
    simp -implicitDefEqProofs (disch := omega) only [hs, ho, take_one, set_one, decide_eq_true, decide_eq_false, IntWalk.i64_in, beqT, beqF, bneT, bneF, nat_succ, ← Int.natCast_mul, ← Int.natCast_add, Int.toNat_natCast, Int.zero_mul, Int.zero_add, Int.add_zero, Nat.zero_add, Nat.add_zero, Nat.zero_mul, List.length_singleton, List.length_append, List.length_nil, List.length_cons, List.take_length, List.drop_zero, List.replicate_zero, List.take_nil, List.nil_append, Nat.reduceBEq, Nat.reduceMul, Nat.reduceLeDiff, eq_self, and_self, true_and, and_true, decide_true, decide_false, Bool.and_self, Bool.or_self, Bool.and_true, Bool.true_and, Bool.and_false, Bool.false_and, Bool.or_true, Bool.true_or, Bool.or_false, Bool.false_or, Bool.not_true, Bool.not_false, cond_true, cond_false]
  · cases h
theorem ok : EntOk Try.prog ⟨56, R⟩ :=
  ent_okA mixed (A := (orc [⟨42, iValidValues.R⟩, ⟨66, areMany.R⟩])) (orc_ok (by simp only [List.mem_cons, List.not_mem_nil, or_false, forall_eq_or_imp, forall_eq]; exact ⟨iValidValues.ok, areMany.ok⟩)) Try.func56 (by kernel_rfl) (by kernel_rfl) (n := 18) (ts := [4]) (hd := hd0) (dr := Dr.std) (cut := (some 0)) (by kernel_rfl) (by kernel_rfl) (by kernel_rfl) run
end vOwned

namespace iOwnWorths
def R : List AVal → Option (Bool × AVal × List Blk)
  | [.agg [.int .i64 p, .int .i64 t, .ro (.ints .i64 ws) m 1], .ro (.ints .i64 os) l 1] => some (decide (m = ws.length ∧ l = os.length ∧ (l : Int) = t) && (vp.sp p t ws && (os.all fun x => decide (0 ≤ x) && decide (x ≤ p - 1))), .tup [.own 0 0 p.toNat 0 1, .bool true], [⟨.typ (.ints .i64 (vp.own.sv t.toNat ws os p.toNat)), 0⟩])
  | _ => none
theorem go (p t : Int) (ws : List Int) (m : Nat) (os : List Int) (l : Nat) :
  regc [1] (runFn Try.prog (orc [⟨56, vOwned.R⟩, ⟨57, vOwn.R⟩]) hd0 Dr.std none 0 (bodyOf Try.f11) 13 [4, 5] [.agg [.int .i64 p, .int .i64 t, .ro (.ints .i64 ws) m 1], .ro (.ints .i64 os) l 1] [])
  = (match bif true && true && (true && true && (true && true && true)) then bif decide (m = ws.length ∧ l = os.length ∧ (↑l : Int) = t) && (vp.sp p t ws && os.all fun x => decide ((0 : Int) ≤ x) && decide (x ≤ p - (1 : Int))) && (true && (true && (true && true)) && (true && true) || true && true) then bif true && true && (true && true && (true && true && true)) then bif decide (m = ws.length ∧ l = os.length ∧ (↑l : Int) = t) && vp.sp p t ws && (true && (true && (true && true)) && (true && true) || true && (true && true)) then some (AVal.tup [AVal.own (1 : Nat) (0 : Nat) p.toNat (0 : Nat) (1 : Nat), AVal.bool true], [{ c := BC.cells [AVal.int IntKind.i64 p, AVal.int IntKind.i64 t, AVal.ro (Cont.ints IntKind.i64 ws) m (1 : Nat)], ver := (0 : Nat) }, { c := BC.typ (Cont.ints IntKind.i64 (vp.own.sv t.toNat ws os p.toNat)), ver := (0 : Nat) }]) else none else none else none else none with
| some (v, h) =>
  bif true && (ltN (1 : Nat) (hlen h) && true) then
    some
      (AVal.re [(1 : Nat)] h v,
        match nth h (1 : Nat) with
        | some b => { c := BC.re [(1 : Nat)] h b.c, ver := b.ver } :: reB [(1 : Nat)] h []
        | none => { c := BC.cells [], ver := (0 : Nat) } :: reB [(1 : Nat)] h [])
  else none
| none => none) := by kernel_rfl
theorem run : ∀ args v new, R args = some (true, v, new) → ∃ fuel, regc [1] (runFn Try.prog (orc [⟨56, vOwned.R⟩, ⟨57, vOwn.R⟩]) hd0 Dr.std none fuel (bodyOf Try.f11) 13 [4, 5] args []) = some (v, new) := by
  intro args v new h
  unfold R at h
  split at h
  · rename_i p t ws m os l
    simp only [Option.some.injEq, Prod.mk.injEq, Bool.and_eq_true, decide_eq_true_eq] at h
    obtain ⟨⟨⟨rfl, rfl, h3⟩, hs, ho⟩, rfl, rfl⟩ := h
    have hs2 := hs
    obtain ⟨p, t, rfl, rfl, hp, ht, hw, v⟩ := vp.valid hs2
    have h48 := vp.le_48 hp.2 ht.2
    refine ⟨0, ?_⟩
    rw [go]
    simp -implicitDefEqProofs (disch := omega) only [hs, ho, take_one, set_one, decide_eq_true, decide_eq_false, IntWalk.i64_in, beqT, beqF, bneT, bneF, nat_succ, ← Int.natCast_mul, ← Int.natCast_add, Int.toNat_natCast, Int.zero_mul, Int.zero_add, Int.add_zero, Nat.zero_add, Nat.add_zero, Nat.zero_mul, List.length_singleton, List.length_append, List.length_nil, List.length_cons, List.take_length, List.drop_zero, List.replicate_zero, List.take_nil, List.nil_append, Nat.reduceBEq, Nat.reduceMul, Nat.reduceLeDiff, eq_self, and_self, true_and, and_true, decide_true, decide_false, Bool.and_self, Bool.or_self, Bool.and_true, Bool.true_and, Bool.and_false, Bool.false_and, Bool.or_true, Bool.true_or, Bool.or_false, Bool.false_or, Bool.not_true, Bool.not_false, cond_true, cond_false]
    rfl
  · cases h
theorem ok : EntOk Try.prog ⟨11, R⟩ :=
  ent_okAG (ks := [1]) mixed (A := (orc [⟨56, vOwned.R⟩, ⟨57, vOwn.R⟩])) (orc_ok (by simp only [List.mem_cons, List.not_mem_nil, or_false, forall_eq_or_imp, forall_eq]; exact ⟨vOwned.ok, vOwn.ok⟩)) Try.func11 (by kernel_rfl) (by kernel_rfl) (n := 13) (ts := [4, 5]) (hd := hd0) (dr := Dr.std) (cut := none) (by kernel_rfl) (by kernel_rfl) (by kernel_rfl) run
end iOwnWorths

namespace iEnvyTable
def R : List AVal → Option (Bool × AVal × List Blk)
  | [.agg [.int .i64 p, .int .i64 t, .ro (.ints .i64 ws) m 1], .ro (.ints .i64 os) l 1] => some (decide (m = ws.length ∧ l = os.length ∧ (l : Int) = t) && (vp.sp p t ws && (os.all fun x => decide (0 ≤ x) && decide (x ≤ p - 1))), .tup [.own 0 0 (p.toNat * p.toNat) 0 1, .bool true], [⟨.typ (.ints .i64 (vp.tab.sv t.toNat ws os p.toNat (p.toNat * p.toNat))), 0⟩])
  | _ => none
def hd : Nat → Head := fun i => bif eqN i 0 then ⟨[1, 2, 6, 15, 16], some 2⟩ else ⟨[1, 2, 6, 7, 15, 16, 20, 21], some 2⟩
noncomputable def L1 (f n : Nat) (s : State) := loopAt Try.prog (orc [⟨56, vOwned.R⟩, ⟨95, vEnvy.R⟩]) hd Dr.std 0 f (bodyOf Try.f39) 0 [true, true, true, false, true] (retK Try.prog [4, 5] 0 none) n s
noncomputable def L2 (f n n2 : Nat) (s : State) := loopAt Try.prog (orc [⟨56, vOwned.R⟩, ⟨95, vEnvy.R⟩]) hd Dr.std 0 f (bodyAt (bodyOf Try.f39) [true, true, true, false, true]) (curAt (bodyOf Try.f39) 0 [true, true, true, false, true]) [true, true, false, true, true] (iterK (normE 0 (hd (curAt (bodyOf Try.f39) 0 [true, true, true, false, true]))) (L1 f n) (contAt Try.prog (orc [⟨56, vOwned.R⟩, ⟨95, vEnvy.R⟩]) hd Dr.std 0 f (bodyOf Try.f39) 0 [true, true, true, false, true] (retK Try.prog [4, 5] 0 none))) n2 s
theorem start (p t : Nat) (ws : List Int) (os : List Int) (f : Nat) :
  runFn Try.prog (orc [⟨56, vOwned.R⟩, ⟨95, vEnvy.R⟩]) hd Dr.std none f (bodyOf Try.f39) 35 [4, 5] [.agg [.int .i64 p, .int .i64 t, .ro (.ints .i64 ws) ws.length 1], .ro (.ints .i64 os) os.length 1] []
  = (bif true && true && (true && true && (true && true && true)) then bif decide (ws.length = ws.length ∧ os.length = os.length ∧ (↑os.length : Int) = (↑t : Int)) && (vp.sp (↑p : Int) (↑t : Int) ws && os.all fun x => decide ((0 : Int) ≤ x) && decide (x ≤ (↑p : Int) - (1 : Int))) && (true && (true && (true && true)) && (true && true) || true && true) then bif true && true then L1 f f (mkS (35 : Nat) [((1 : Nat), AVal.ro (Cont.ints IntKind.i64 os) os.length (1 : Nat)), ((2 : Nat), AVal.ptr (0 : Nat) (0 : Nat) (0 : Nat)), ((6 : Nat), AVal.own (1 : Nat) (0 : Nat) (0 : Nat) (0 : Nat) (1 : Nat)), ((15 : Nat), AVal.int IntKind.i64 (↑p : Int)), ((16 : Nat), AVal.int IntKind.i64 (0 : Int))] [{ c := BC.cells [AVal.int IntKind.i64 (↑p : Int), AVal.int IntKind.i64 (↑t : Int), AVal.ro (Cont.ints IntKind.i64 ws) ws.length (1 : Nat)], ver := (0 : Nat) }, { c := BC.typ (Cont.ints IntKind.i64 (List.replicate (0 : Nat) (0 : Int))), ver := (0 : Nat) }]) else none else none else none) := by kernel_rfl
theorem round1 (p t : Nat) (ws : List Int) (os zs : List Int) (q : Nat) (i f n : Nat) :
  L1 f (n + 1) (mkS 35 [(1, .ro (.ints .i64 os) os.length 1), (2, .ptr 0 0 0), (6, .own 1 0 q 0 1), (15, .int .i64 p), (16, .int .i64 (i : Int))] [⟨.cells [.int .i64 p, .int .i64 t, .ro (.ints .i64 ws) ws.length 1], 0⟩, ⟨.typ (.ints .i64 zs), 0⟩])
  = (bif decide ((↑i : Int) < (↑p : Int)) then bif true && true then L2 f n f (mkS (35 : Nat) [((1 : Nat), AVal.ro (Cont.ints IntKind.i64 os) os.length (1 : Nat)), ((2 : Nat), AVal.ptr (0 : Nat) (0 : Nat) (0 : Nat)), ((6 : Nat), AVal.own (1 : Nat) (0 : Nat) q (0 : Nat) (1 : Nat)), ((7 : Nat), AVal.int IntKind.i64 (↑i : Int)), ((15 : Nat), AVal.int IntKind.i64 (↑p : Int)), ((16 : Nat), AVal.int IntKind.i64 (↑i : Int)), ((20 : Nat), AVal.int IntKind.i64 (↑p : Int)), ((21 : Nat), AVal.int IntKind.i64 (0 : Int))] [{ c := BC.cells [AVal.int IntKind.i64 (↑p : Int), AVal.int IntKind.i64 (↑t : Int), AVal.ro (Cont.ints IntKind.i64 ws) ws.length (1 : Nat)], ver := (0 : Nat) }, { c := BC.typ (Cont.ints IntKind.i64 zs), ver := (0 : Nat) }]) else none else some (AVal.tup [AVal.own (1 : Nat) (0 : Nat) q (0 : Nat) (1 : Nat), AVal.bool true], [{ c := BC.cells [AVal.int IntKind.i64 (↑p : Int), AVal.int IntKind.i64 (↑t : Int), AVal.ro (Cont.ints IntKind.i64 ws) ws.length (1 : Nat)], ver := (0 : Nat) }, { c := BC.typ (Cont.ints IntKind.i64 zs), ver := (0 : Nat) }])) := by kernel_rfl
theorem round2 (p t : Nat) (ws : List Int) (os zs : List Int) (q : Nat) (i j f n n2 : Nat) :
  L2 f n (n2 + 1) (mkS 35 [(1, .ro (.ints .i64 os) os.length 1), (2, .ptr 0 0 0), (6, .own 1 0 q 0 1), (7, .int .i64 (i : Int)), (15, .int .i64 p), (16, .int .i64 (i : Int)), (20, .int .i64 p), (21, .int .i64 (j : Int))] [⟨.cells [.int .i64 p, .int .i64 t, .ro (.ints .i64 ws) ws.length 1], 0⟩, ⟨.typ (.ints .i64 zs), 0⟩])
  = (bif decide ((↑j : Int) < (↑p : Int)) then bif true && true && (true && true && (true && true && true)) then bif decide (ws.length = ws.length ∧ os.length = os.length ∧ (0 : Int) ≤ (↑i : Int) ∧ (↑i : Int) < (↑p : Int) ∧ (↑os.length : Int) = (↑t : Int)) && vp.sp (↑p : Int) (↑t : Int) ws && (true && (true && (true && true)) && (true && (true && (true && true))) || true && true) then bif (1 : Nat) == (1 : Nat) && (1 : Nat) == (1 : Nat) && (true && (true && true) && (true && true && (decide (q + (List.take (1 : Nat) (List.drop (0 : Nat) ((List.replicate (1 : Nat) (0 : Int)).set (0 : Nat) (vp.envy.sv (↑t : Int).toNat ws os (↑i : Int).toNat (↑j : Int))))).length ≤ (4611686018427387904 : Nat)) && decide ((q + (List.take (1 : Nat) (List.drop (0 : Nat) ((List.replicate (1 : Nat) (0 : Int)).set (0 : Nat) (vp.envy.sv (↑t : Int).toNat ws os (↑i : Int).toNat (↑j : Int))))).length) * (8 : Nat) ≤ (140737488355328 : Nat))))) then L2 f n n2 (mkS (35 : Nat) [((1 : Nat), AVal.ro (Cont.ints IntKind.i64 os) os.length (1 : Nat)), ((2 : Nat), AVal.ptr (0 : Nat) (0 : Nat) (0 : Nat)), ((6 : Nat), AVal.own (1 : Nat) (0 : Nat) (q + (List.take (1 : Nat) (List.drop (0 : Nat) ((List.replicate (1 : Nat) (0 : Int)).set (0 : Nat) (vp.envy.sv (↑t : Int).toNat ws os (↑i : Int).toNat (↑j : Int))))).length) (0 : Nat) (1 : Nat)), ((7 : Nat), AVal.int IntKind.i64 (↑i : Int)), ((15 : Nat), AVal.int IntKind.i64 (↑p : Int)), ((16 : Nat), AVal.int IntKind.i64 (↑i : Int)), ((20 : Nat), AVal.int IntKind.i64 (↑p : Int)), ((21 : Nat), AVal.int IntKind.i64 (IntKind.i64.wrap ((↑j : Int) + (1 : Int))))] [{ c := BC.cells [AVal.int IntKind.i64 (↑p : Int), AVal.int IntKind.i64 (↑t : Int), AVal.ro (Cont.ints IntKind.i64 ws) ws.length (1 : Nat)], ver := (0 : Nat) }, { c := BC.typ (Cont.ints IntKind.i64 (List.take q zs ++ List.take (1 : Nat) (List.drop (0 : Nat) ((List.replicate (1 : Nat) (0 : Int)).set (0 : Nat) (vp.envy.sv (↑t : Int).toNat ws os (↑i : Int).toNat (↑j : Int)))))), ver := (0 : Nat) }]) else none else none else none else L1 f n (mkS (35 : Nat) [((1 : Nat), AVal.ro (Cont.ints IntKind.i64 os) os.length (1 : Nat)), ((2 : Nat), AVal.ptr (0 : Nat) (0 : Nat) (0 : Nat)), ((6 : Nat), AVal.own (1 : Nat) (0 : Nat) q (0 : Nat) (1 : Nat)), ((15 : Nat), AVal.int IntKind.i64 (↑p : Int)), ((16 : Nat), AVal.int IntKind.i64 (IntKind.i64.wrap ((↑i : Int) + (1 : Int))))] [{ c := BC.cells [AVal.int IntKind.i64 (↑p : Int), AVal.int IntKind.i64 (↑t : Int), AVal.ro (Cont.ints IntKind.i64 ws) ws.length (1 : Nat)], ver := (0 : Nat) }, { c := BC.typ (Cont.ints IntKind.i64 zs), ver := (0 : Nat) }])) := by kernel_rfl
theorem inner (p t : Nat) (ws : List Int) (os : List Int) (f n i : Nat) (hs : vp.sp p t ws = true) (hp : 1 ≤ p ∧ p ≤ 6) (ht : 1 ≤ t ∧ t ≤ 8) (hw : ws.length = p * t) (v : ∀ x ∈ ws, 0 ≤ x ∧ x ≤ 1000) (hl : os.length = t) (hi : i < p) : ∀ (d j n2 : Nat), j + d = p → d < n2 →
    L2 f n n2 (mkS 35 [(1, .ro (.ints .i64 os) os.length 1), (2, .ptr 0 0 0), (6, .own 1 0 (i * p + j) 0 1), (7, .int .i64 (i : Int)), (15, .int .i64 p), (16, .int .i64 (i : Int)), (20, .int .i64 p), (21, .int .i64 (j : Int))] [⟨.cells [.int .i64 p, .int .i64 t, .ro (.ints .i64 ws) ws.length 1], 0⟩, ⟨.typ (.ints .i64 (vp.tab.sv t ws os p (i * p + j))), 0⟩]) = L1 f n (mkS 35 [(1, .ro (.ints .i64 os) os.length 1), (2, .ptr 0 0 0), (6, .own 1 0 ((i + 1) * p) 0 1), (15, .int .i64 p), (16, .int .i64 ((i + 1 : Nat) : Int))] [⟨.cells [.int .i64 p, .int .i64 t, .ro (.ints .i64 ws) ws.length 1], 0⟩, ⟨.typ (.ints .i64 (vp.tab.sv t ws os p ((i + 1) * p))), 0⟩]) := by
  intro d
  induction d with
  | zero =>
    intro j n2 hj hn
    obtain ⟨n2, rfl⟩ : ∃ k, n2 = k + 1 := ⟨n2 - 1, by omega⟩
    obtain rfl : j = p := by omega
    rw [round2, Nat.succ_mul]
    simp -implicitDefEqProofs (disch := omega) only [take_one, set_one, decide_eq_true, decide_eq_false, IntWalk.i64_in, beqT, beqF, bneT, bneF, nat_succ, ← Int.natCast_mul, ← Int.natCast_add, Int.toNat_natCast, Int.zero_mul, Int.zero_add, Int.add_zero, Nat.zero_add, Nat.add_zero, Nat.zero_mul, List.length_singleton, List.length_append, List.length_nil, List.length_cons, List.take_length, List.drop_zero, List.replicate_zero, List.take_nil, List.nil_append, Nat.reduceBEq, Nat.reduceMul, Nat.reduceLeDiff, eq_self, and_self, true_and, and_true, decide_true, decide_false, Bool.and_self, Bool.or_self, Bool.and_true, Bool.true_and, Bool.and_false, Bool.false_and, Bool.or_true, Bool.true_or, Bool.or_false, Bool.false_or, Bool.not_true, Bool.not_false, cond_true, cond_false]
  | succ d ih =>
    intro j n2 hj hn
    obtain ⟨n2, rfl⟩ : ∃ k, n2 = k + 1 := ⟨n2 - 1, by omega⟩
    have hjp : j < p := by omega
    have g := ih (j + 1) n2 (by omega) (by omega)
    have hx := ix_lt (R := p) (C := p) hi hjp
    have h36 : p * p ≤ 36 := Nat.mul_le_mul hp.2 hp.2
    have e := vp.tab_succ t ws os p (i * p + j)
    rw [div_ix hjp, mod_ix hjp] at e
    have lo := vp.tab_length t ws os p (i * p + j)
    have tz : (vp.tab.sv t ws os p (i * p + j)).take (i * p + j) = vp.tab.sv t ws os p (i * p + j) := List.take_of_length_le (by omega)
    rw [show i * p + (j + 1) = i * p + j + 1 from rfl] at g
    rw [round2 (j := j)]
    simp -implicitDefEqProofs (disch := omega) only [hs, tz, e, take_one, set_one, decide_eq_true, decide_eq_false, IntWalk.i64_in, beqT, beqF, bneT, bneF, nat_succ, ← Int.natCast_mul, ← Int.natCast_add, Int.toNat_natCast, Int.zero_mul, Int.zero_add, Int.add_zero, Nat.zero_add, Nat.add_zero, Nat.zero_mul, List.length_singleton, List.length_append, List.length_nil, List.length_cons, List.take_length, List.drop_zero, List.replicate_zero, List.take_nil, List.nil_append, Nat.reduceBEq, Nat.reduceMul, Nat.reduceLeDiff, eq_self, and_self, true_and, and_true, decide_true, decide_false, Bool.and_self, Bool.or_self, Bool.and_true, Bool.true_and, Bool.and_false, Bool.false_and, Bool.or_true, Bool.true_or, Bool.or_false, Bool.false_or, Bool.not_true, Bool.not_false, cond_true, cond_false]
    exact g
theorem loop1 (p t : Nat) (ws : List Int) (os : List Int) (f : Nat) (hf : 10 < f) (hs : vp.sp p t ws = true) (hp : 1 ≤ p ∧ p ≤ 6) (ht : 1 ≤ t ∧ t ≤ 8) (hw : ws.length = p * t) (v : ∀ x ∈ ws, 0 ≤ x ∧ x ≤ 1000) (hl : os.length = t) : ∀ (d i n : Nat), i + d = p → d < n →
    L1 f n (mkS 35 [(1, .ro (.ints .i64 os) os.length 1), (2, .ptr 0 0 0), (6, .own 1 0 (i * p) 0 1), (15, .int .i64 p), (16, .int .i64 (i : Int))] [⟨.cells [.int .i64 p, .int .i64 t, .ro (.ints .i64 ws) ws.length 1], 0⟩, ⟨.typ (.ints .i64 (vp.tab.sv t ws os p (i * p))), 0⟩]) = some (.tup [.own 1 0 (p * p) 0 1, .bool true], [⟨.cells [.int .i64 p, .int .i64 t, .ro (.ints .i64 ws) ws.length 1], 0⟩, ⟨.typ (.ints .i64 (vp.tab.sv t ws os p (p * p))), 0⟩]) := by
  intro d
  induction d with
  | zero =>
    intro i n hi hn
    obtain ⟨n, rfl⟩ : ∃ k, n = k + 1 := ⟨n - 1, by omega⟩
    obtain rfl : i = p := by omega
    rw [round1]
    simp -implicitDefEqProofs (disch := omega) only [take_one, set_one, decide_eq_true, decide_eq_false, IntWalk.i64_in, beqT, beqF, bneT, bneF, nat_succ, ← Int.natCast_mul, ← Int.natCast_add, Int.toNat_natCast, Int.zero_mul, Int.zero_add, Int.add_zero, Nat.zero_add, Nat.add_zero, Nat.zero_mul, List.length_singleton, List.length_append, List.length_nil, List.length_cons, List.take_length, List.drop_zero, List.replicate_zero, List.take_nil, List.nil_append, Nat.reduceBEq, Nat.reduceMul, Nat.reduceLeDiff, eq_self, and_self, true_and, and_true, decide_true, decide_false, Bool.and_self, Bool.or_self, Bool.and_true, Bool.true_and, Bool.and_false, Bool.false_and, Bool.or_true, Bool.true_or, Bool.or_false, Bool.false_or, Bool.not_true, Bool.not_false, cond_true, cond_false]
  | succ d ih =>
    intro i n hi hn
    obtain ⟨n, rfl⟩ : ∃ k, n = k + 1 := ⟨n - 1, by omega⟩
    have g := ih (i + 1) n (by omega) (by omega)
    have g2 := inner p t ws os f n i hs hp ht hw v hl (by omega) p 0 f (by omega) (by omega)
    rw [round1]
    simp -implicitDefEqProofs (disch := omega) only [take_one, set_one, decide_eq_true, decide_eq_false, IntWalk.i64_in, beqT, beqF, bneT, bneF, nat_succ, ← Int.natCast_mul, ← Int.natCast_add, Int.toNat_natCast, Int.zero_mul, Int.zero_add, Int.add_zero, Nat.zero_add, Nat.add_zero, Nat.zero_mul, List.length_singleton, List.length_append, List.length_nil, List.length_cons, List.take_length, List.drop_zero, List.replicate_zero, List.take_nil, List.nil_append, Nat.reduceBEq, Nat.reduceMul, Nat.reduceLeDiff, eq_self, and_self, true_and, and_true, decide_true, decide_false, Bool.and_self, Bool.or_self, Bool.and_true, Bool.true_and, Bool.and_false, Bool.false_and, Bool.or_true, Bool.true_or, Bool.or_false, Bool.false_or, Bool.not_true, Bool.not_false, cond_true, cond_false]
    exact g2.trans g
theorem run : ∀ args v new, R args = some (true, v, new) → ∃ fuel, regc [1] (runFn Try.prog (orc [⟨56, vOwned.R⟩, ⟨95, vEnvy.R⟩]) hd Dr.std none fuel (bodyOf Try.f39) 35 [4, 5] args []) = some (v, new) := by
  intro args v new h
  unfold R at h
  split at h
  · rename_i p t ws m os l
    simp only [Option.some.injEq, Prod.mk.injEq, Bool.and_eq_true, decide_eq_true_eq] at h
    obtain ⟨⟨⟨rfl, rfl, h3⟩, hs, ho⟩, rfl, rfl⟩ := h
    have hs2 := hs
    obtain ⟨p, t, rfl, rfl, hp, ht, hw, v⟩ := vp.valid hs2
    have h48 := vp.le_48 hp.2 ht.2
    obtain ⟨F, hF⟩ : ∃ F : Nat, F = 100 := ⟨100, rfl⟩
    refine ⟨F, ?_⟩
    have g := loop1 p t ws os F (by omega) hs hp ht hw v (by omega) p 0 F (by omega) (by omega)
    rw [Nat.zero_mul] at g
    rw [start]
    simp -implicitDefEqProofs (disch := omega) only [hs, ho, take_one, set_one, decide_eq_true, decide_eq_false, IntWalk.i64_in, beqT, beqF, bneT, bneF, nat_succ, ← Int.natCast_mul, ← Int.natCast_add, Int.toNat_natCast, Int.zero_mul, Int.zero_add, Int.add_zero, Nat.zero_add, Nat.add_zero, Nat.zero_mul, List.length_singleton, List.length_append, List.length_nil, List.length_cons, List.take_length, List.drop_zero, List.replicate_zero, List.take_nil, List.nil_append, Nat.reduceBEq, Nat.reduceMul, Nat.reduceLeDiff, eq_self, and_self, true_and, and_true, decide_true, decide_false, Bool.and_self, Bool.or_self, Bool.and_true, Bool.true_and, Bool.and_false, Bool.false_and, Bool.or_true, Bool.true_or, Bool.or_false, Bool.false_or, Bool.not_true, Bool.not_false, cond_true, cond_false]
    exact (congrArg (regc [1]) g).trans rfl
  · cases h
theorem ok : EntOk Try.prog ⟨39, R⟩ :=
  ent_okAG (ks := [1]) mixed (A := (orc [⟨56, vOwned.R⟩, ⟨95, vEnvy.R⟩])) (orc_ok (by simp only [List.mem_cons, List.not_mem_nil, or_false, forall_eq_or_imp, forall_eq]; exact ⟨vOwned.ok, vEnvy.ok⟩)) Try.func39 (by kernel_rfl) (by kernel_rfl) (n := 35) (ts := [4, 5]) (hd := hd) (dr := Dr.std) (cut := none) (by kernel_rfl) (by kernel_rfl) (by kernel_rfl) run
end iEnvyTable

namespace slMax
def R : List AVal → Option (Bool × AVal × List Blk)
  | [.ro (.ints .i64 xs) m 1] => some (decide (0 < m ∧ m ≤ xs.length ∧ m ≤ 1000000), .int .i64 (vp.hi.sv (xs.take m)), [])
  | _ => none
def hd : Nat → Head := fun _ => ⟨[0, 3, 4], none⟩
noncomputable def L (f n : Nat) (s : State) := loopAt Try.prog (orc []) hd Dr.std 0 f (bodyOf Try.f96) 0 [true, true, true, false, true] (retK Try.prog [2] 0 none) n s
theorem start (xs : List Int) (m : Nat) (f : Nat) :
  runFn Try.prog (orc []) hd Dr.std none f (bodyOf Try.f96) 25 [2] [.ro (.ints .i64 xs) m 1] []
  = (bif decide ((↑m : Int) < (1 : Int)) then none else bif decide ((0 : Int) < (↑m : Int)) then bif decide ((0 : Nat) < xs.length) then L f f (mkS (25 : Nat) [((0 : Nat), AVal.ro (Cont.ints IntKind.i64 xs) m (1 : Nat)), ((3 : Nat), AVal.int IntKind.i64 (gz xs (0 : Nat))), ((4 : Nat), AVal.int IntKind.i64 (1 : Int))] []) else none else none) := by kernel_rfl
theorem round (xs : List Int) (m : Nat) (a : Int) (i : Nat) (f n : Nat) :
  L f (n + 1) (mkS 25 [(0, .ro (.ints .i64 xs) m 1), (3, .int .i64 a), (4, .int .i64 (i : Int))] [])
  = (bif decide ((↑i : Int) < (↑m : Int)) then bif true && (decide ((0 : Int) ≤ (↑i : Int)) && decide ((↑i : Int) < (↑m : Int))) then bif decide ((↑i : Int).toNat < xs.length) then L f n (mkS (25 : Nat) [((0 : Nat), AVal.ro (Cont.ints IntKind.i64 xs) m (1 : Nat)), ((3 : Nat), AVal.int IntKind.i64 (if a < gz xs (↑i : Int).toNat then gz xs (↑i : Int).toNat else a)), ((4 : Nat), AVal.int IntKind.i64 (IntKind.i64.wrap ((↑i : Int) + (1 : Int))))] []) else none else none else some (AVal.int IntKind.i64 a, [])) := by kernel_rfl
theorem loop (xs : List Int) (m : Nat) (f : Nat) (hx : m ≤ xs.length) (hb : m ≤ 4611686018427387904) : ∀ (d i n : Nat) (a : Int), i + d = m → d < n →
    L f n (mkS 25 [(0, .ro (.ints .i64 xs) m 1), (3, .int .i64 a), (4, .int .i64 (i : Int))] []) = some (.int .i64 (vp.hi ((xs.take m).drop i) a), []) := by
  intro d
  induction d with
  | zero =>
    intro i n a hi hn 
    obtain ⟨n, rfl⟩ : ∃ k, n = k + 1 := ⟨n - 1, by omega⟩
    obtain rfl : i = m := by omega
    rw [round]
    have e : (xs.take i).drop i = [] := by simp
    rw [e]
    simp -implicitDefEqProofs (disch := omega) only [take_one, set_one, decide_eq_true, decide_eq_false, IntWalk.i64_in, beqT, beqF, bneT, bneF, nat_succ, ← Int.natCast_mul, ← Int.natCast_add, Int.toNat_natCast, Int.zero_mul, Int.zero_add, Int.add_zero, Nat.zero_add, Nat.add_zero, Nat.zero_mul, List.length_singleton, List.length_append, List.length_nil, List.length_cons, List.take_length, List.drop_zero, List.replicate_zero, List.take_nil, List.nil_append, Nat.reduceBEq, Nat.reduceMul, Nat.reduceLeDiff, eq_self, and_self, true_and, and_true, decide_true, decide_false, Bool.and_self, Bool.or_self, Bool.and_true, Bool.true_and, Bool.and_false, Bool.false_and, Bool.or_true, Bool.true_or, Bool.or_false, Bool.false_or, Bool.not_true, Bool.not_false, cond_true, cond_false]
    rfl
  | succ d ih =>
    intro i n a hi hn 
    obtain ⟨n, rfl⟩ : ∃ k, n = k + 1 := ⟨n - 1, by omega⟩
    have h1 : i < m := by omega
    have h4 : (0 : Int) ≤ (i : Int) := Int.natCast_nonneg _
    have h5 : (i : Int) < (m : Int) := by omega
    have h2 : i < xs.length := by omega
    rw [round]
    rw [drop_take_cons hx h1]
    have g := ih (i + 1) n (if a < gz xs i then gz xs i else a) (by omega) (by omega)
    simp only [vp.hi, ← gz_eq h2]
    simp -implicitDefEqProofs (disch := omega) only [take_one, set_one, decide_eq_true, decide_eq_false, IntWalk.i64_in, beqT, beqF, bneT, bneF, nat_succ, ← Int.natCast_mul, ← Int.natCast_add, Int.toNat_natCast, Int.zero_mul, Int.zero_add, Int.add_zero, Nat.zero_add, Nat.add_zero, Nat.zero_mul, List.length_singleton, List.length_append, List.length_nil, List.length_cons, List.take_length, List.drop_zero, List.replicate_zero, List.take_nil, List.nil_append, Nat.reduceBEq, Nat.reduceMul, Nat.reduceLeDiff, eq_self, and_self, true_and, and_true, decide_true, decide_false, Bool.and_self, Bool.or_self, Bool.and_true, Bool.true_and, Bool.and_false, Bool.false_and, Bool.or_true, Bool.true_or, Bool.or_false, Bool.false_or, Bool.not_true, Bool.not_false, cond_true, cond_false]
    exact g
theorem run : ∀ args v new, R args = some (true, v, new) → ∃ fuel, runFn Try.prog (orc []) hd Dr.std none fuel (bodyOf Try.f96) 25 [2] args [] = some (v, new) := by
  intro args v new h
  unfold R at h
  split at h
  · rename_i xs m
    simp only [Option.some.injEq, Prod.mk.injEq, decide_eq_true_eq] at h
    obtain ⟨⟨h0, h1, h2⟩, rfl, rfl⟩ := h
    refine ⟨m + 1, ?_⟩
    have g := loop xs m (m + 1) h1 (by omega) (m - 1) 1 (m + 1) (gz xs 0) (by omega) (by omega)
    have e : vp.hi.sv (xs.take m) = vp.hi ((xs.take m).drop 1) (gz xs 0) := by
      have := drop_take_cons h1 h0
      rw [List.drop_zero] at this
      rw [this]
      simp only [vp.hi.sv, List.drop_succ_cons, List.drop_zero]
      rw [gz_eq (by omega)]
    rw [start, e]
    simp -implicitDefEqProofs (disch := omega) only [take_one, set_one, decide_eq_true, decide_eq_false, IntWalk.i64_in, beqT, beqF, bneT, bneF, nat_succ, ← Int.natCast_mul, ← Int.natCast_add, Int.toNat_natCast, Int.zero_mul, Int.zero_add, Int.add_zero, Nat.zero_add, Nat.add_zero, Nat.zero_mul, List.length_singleton, List.length_append, List.length_nil, List.length_cons, List.take_length, List.drop_zero, List.replicate_zero, List.take_nil, List.nil_append, Nat.reduceBEq, Nat.reduceMul, Nat.reduceLeDiff, eq_self, and_self, true_and, and_true, decide_true, decide_false, Bool.and_self, Bool.or_self, Bool.and_true, Bool.true_and, Bool.and_false, Bool.false_and, Bool.or_true, Bool.true_or, Bool.or_false, Bool.false_or, Bool.not_true, Bool.not_false, cond_true, cond_false]
    exact g
  · cases h
theorem ok : EntOk Try.prog ⟨96, R⟩ :=
  ent_okA mixed (A := (orc [])) (orc_ok (by simp)) Try.func96 (by kernel_rfl) (by kernel_rfl) (n := 25) (ts := [2]) (hd := hd) (dr := Dr.std) (cut := none) (by kernel_rfl) (by kernel_rfl) (by kernel_rfl) run
end slMax

namespace iIsEnvyFree
def R : List AVal → Option (Bool × AVal × List Blk)
  | [.agg [.int .i64 p, .int .i64 t, .ro (.ints .i64 ws) m 1], .ro (.ints .i64 os) l 1] => some (decide (m = ws.length ∧ l = os.length ∧ (l : Int) = t) && (vp.sp p t ws && (os.all fun x => decide (0 ≤ x) && decide (x ≤ p - 1))), .tup [.bool (decide (vp.hi.sv (vp.tab.sv t.toNat ws os p.toNat (p.toNat * p.toNat)) ≤ 0)), .bool true], [])
  | _ => none
theorem go (p t : Int) (ws : List Int) (m : Nat) (os : List Int) (l : Nat) :
  runFn Try.prog (orc [⟨39, iEnvyTable.R⟩, ⟨96, slMax.R⟩]) hd0 Dr.std (some 0) 0 (bodyOf Try.f40) 21 [4, 5] [.agg [.int .i64 p, .int .i64 t, .ro (.ints .i64 ws) m 1], .ro (.ints .i64 os) l 1] []
  = (bif true && true && (true && true && (true && true && true)) then bif decide (m = ws.length ∧ l = os.length ∧ (↑l : Int) = t) && (vp.sp p t ws && os.all fun x => decide ((0 : Int) ≤ x) && decide (x ≤ p - (1 : Int))) && (true && (true && (true && true)) && (true && true) || true && true && (true && true)) then bif decide ((0 : Nat) < p.toNat * p.toNat ∧ p.toNat * p.toNat ≤ (vp.tab.sv t.toNat ws os p.toNat (p.toNat * p.toNat)).length ∧ p.toNat * p.toNat ≤ (1000000 : Nat)) && (false && true || true && true) then some (AVal.tup [AVal.bool (decide (vp.hi.sv (List.take (p.toNat * p.toNat) (vp.tab.sv t.toNat ws os p.toNat (p.toNat * p.toNat))) ≤ (0 : Int))), AVal.bool true], []) else none else none else none) := by kernel_rfl
theorem run : ∀ args v new, R args = some (true, v, new) → ∃ fuel, runFn Try.prog (orc [⟨39, iEnvyTable.R⟩, ⟨96, slMax.R⟩]) hd0 Dr.std (some 0) fuel (bodyOf Try.f40) 21 [4, 5] args [] = some (v, new) := by
  intro args v new h
  unfold R at h
  split at h
  · rename_i p t ws m os l
    simp only [Option.some.injEq, Prod.mk.injEq, Bool.and_eq_true, decide_eq_true_eq] at h
    obtain ⟨⟨⟨rfl, rfl, h3⟩, hs, ho⟩, rfl, rfl⟩ := h
    have hs2 := hs
    obtain ⟨p, t, rfl, rfl, hp, ht, hw, v⟩ := vp.valid hs2
    have h48 := vp.le_48 hp.2 ht.2
    have lt := vp.tab_length t ws os p (p * p)
    have h36 : p * p ≤ 36 := Nat.mul_le_mul hp.2 hp.2
    have h0 : 0 < p * p := Nat.mul_pos (by omega) (by omega)
    have tz : (vp.tab.sv t ws os p (p * p)).take (p * p) = vp.tab.sv t ws os p (p * p) := List.take_of_length_le (by omega)
    refine ⟨0, ?_⟩
    rw [go]
    simp -implicitDefEqProofs (disch := omega) only [hs, ho, tz, take_one, set_one, decide_eq_true, decide_eq_false, IntWalk.i64_in, beqT, beqF, bneT, bneF, nat_succ, ← Int.natCast_mul, ← Int.natCast_add, Int.toNat_natCast, Int.zero_mul, Int.zero_add, Int.add_zero, Nat.zero_add, Nat.add_zero, Nat.zero_mul, List.length_singleton, List.length_append, List.length_nil, List.length_cons, List.take_length, List.drop_zero, List.replicate_zero, List.take_nil, List.nil_append, Nat.reduceBEq, Nat.reduceMul, Nat.reduceLeDiff, eq_self, and_self, true_and, and_true, decide_true, decide_false, Bool.and_self, Bool.or_self, Bool.and_true, Bool.true_and, Bool.and_false, Bool.false_and, Bool.or_true, Bool.true_or, Bool.or_false, Bool.false_or, Bool.not_true, Bool.not_false, cond_true, cond_false]
  · cases h
theorem ok : EntOk Try.prog ⟨40, R⟩ :=
  ent_okA mixed (A := (orc [⟨39, iEnvyTable.R⟩, ⟨96, slMax.R⟩])) (orc_ok (by simp only [List.mem_cons, List.not_mem_nil, or_false, forall_eq_or_imp, forall_eq]; exact ⟨iEnvyTable.ok, slMax.ok⟩)) Try.func40 (by kernel_rfl) (by kernel_rfl) (n := 21) (ts := [4, 5]) (hd := hd0) (dr := Dr.std) (cut := (some 0)) (by kernel_rfl) (by kernel_rfl) (by kernel_rfl) run
end iIsEnvyFree

namespace iIsFreeUpToOne
def R : List AVal → Option (Bool × AVal × List Blk)
  | [.agg [.int .i64 p, .int .i64 t, .ro (.ints .i64 ws) m 1], .ro (.ints .i64 os) l 1] => some (decide (m = ws.length ∧ l = os.length ∧ (l : Int) = t) && (vp.sp p t ws && (os.all fun x => decide (0 ≤ x) && decide (x ≤ p - 1))), .tup [.bool (vp.ef.sp t.toNat ws os p.toNat), .bool true], [])
  | _ => none
def hd : Nat → Head := fun i => bif eqN i 0 then ⟨[1, 2, 4, 5, 16, 17], some 1⟩ else bif eqN i 2 then ⟨[1, 2, 4, 5, 6, 16, 17, 21, 22], some 1⟩ else ⟨[1, 2, 4, 5, 6, 7, 8, 16, 17, 21, 22, 25, 26, 27], some 1⟩
noncomputable def L1 (f n : Nat) (s : State) := loopAt Try.prog (orc [⟨56, vOwned.R⟩, ⟨89, vOf.R⟩, ⟨95, vEnvy.R⟩]) hd Dr.std 0 f (bodyOf Try.f38) 0 [true, true, false, true] (retK Try.prog [4, 5] 0 (some 0)) n s
noncomputable def L2 (f n n2 : Nat) (s : State) := loopAt Try.prog (orc [⟨56, vOwned.R⟩, ⟨89, vOf.R⟩, ⟨95, vEnvy.R⟩]) hd Dr.std 0 f (bodyAt (bodyOf Try.f38) [true, true, false, true]) (curAt (bodyOf Try.f38) 0 [true, true, false, true]) [true, true, false, true, true] (iterK (normE 0 (hd (curAt (bodyOf Try.f38) 0 [true, true, false, true]))) (L1 f n) (contAt Try.prog (orc [⟨56, vOwned.R⟩, ⟨89, vOf.R⟩, ⟨95, vEnvy.R⟩]) hd Dr.std 0 f (bodyOf Try.f38) 0 [true, true, false, true] (retK Try.prog [4, 5] 0 (some 0)))) n2 s
noncomputable def L3 (f n n2 n3 : Nat) (s : State) := loopAt Try.prog (orc [⟨56, vOwned.R⟩, ⟨89, vOf.R⟩, ⟨95, vEnvy.R⟩]) hd Dr.std 0 f (bodyAt (bodyAt (bodyOf Try.f38) [true, true, false, true]) [true, true, false, true, true]) (curAt (bodyAt (bodyOf Try.f38) [true, true, false, true]) (curAt (bodyOf Try.f38) 0 [true, true, false, true]) [true, true, false, true, true]) [true, true, false, true, true, false, true] (iterK (normE 0 (hd (curAt (bodyAt (bodyOf Try.f38) [true, true, false, true]) (curAt (bodyOf Try.f38) 0 [true, true, false, true]) [true, true, false, true, true]))) (L2 f n n2) (contAt Try.prog (orc [⟨56, vOwned.R⟩, ⟨89, vOf.R⟩, ⟨95, vEnvy.R⟩]) hd Dr.std 0 f (bodyAt (bodyOf Try.f38) [true, true, false, true]) (curAt (bodyOf Try.f38) 0 [true, true, false, true]) [true, true, false, true, true] (iterK (normE 0 (hd (curAt (bodyOf Try.f38) 0 [true, true, false, true]))) (L1 f n) (contAt Try.prog (orc [⟨56, vOwned.R⟩, ⟨89, vOf.R⟩, ⟨95, vEnvy.R⟩]) hd Dr.std 0 f (bodyOf Try.f38) 0 [true, true, false, true] (retK Try.prog [4, 5] 0 (some 0)))))) n3 s
theorem start (p t : Nat) (ws : List Int) (os : List Int) (f : Nat) :
  runFn Try.prog (orc [⟨56, vOwned.R⟩, ⟨89, vOf.R⟩, ⟨95, vEnvy.R⟩]) hd Dr.std (some 0) f (bodyOf Try.f38) 51 [4, 5] [.agg [.int .i64 p, .int .i64 t, .ro (.ints .i64 ws) ws.length 1], .ro (.ints .i64 os) os.length 1] []
  = (bif true && true && (true && true && (true && true && true)) then bif decide (ws.length = ws.length ∧ os.length = os.length ∧ (↑os.length : Int) = (↑t : Int)) && (vp.sp (↑p : Int) (↑t : Int) ws && os.all fun x => decide ((0 : Int) ≤ x) && decide (x ≤ (↑p : Int) - (1 : Int))) && (true && (true && (true && true)) && (true && true) || true && true) then bif true && true then L1 f f (mkS (51 : Nat) [((1 : Nat), AVal.ro (Cont.ints IntKind.i64 os) os.length (1 : Nat)), ((2 : Nat), AVal.ptr (0 : Nat) (0 : Nat) (0 : Nat)), ((4 : Nat), AVal.bool false), ((5 : Nat), AVal.bool false), ((16 : Nat), AVal.int IntKind.i64 (↑p : Int)), ((17 : Nat), AVal.int IntKind.i64 (0 : Int))] [{ c := BC.cells [AVal.int IntKind.i64 (↑p : Int), AVal.int IntKind.i64 (↑t : Int), AVal.ro (Cont.ints IntKind.i64 ws) ws.length (1 : Nat)], ver := (0 : Nat) }]) else none else none else none) := by kernel_rfl
theorem round1 (p t : Nat) (ws : List Int) (os : List Int) (i f n : Nat) :
  L1 f (n + 1) (mkS 51 [(1, .ro (.ints .i64 os) os.length 1), (2, .ptr 0 0 0), (4, .bool false), (5, .bool false), (16, .int .i64 p), (17, .int .i64 (i : Int))] [⟨.cells [.int .i64 p, .int .i64 t, .ro (.ints .i64 ws) ws.length 1], 0⟩])
  = (bif decide ((↑i : Int) < (↑p : Int)) then bif true && true then L2 f n f (mkS (51 : Nat) [((1 : Nat), AVal.ro (Cont.ints IntKind.i64 os) os.length (1 : Nat)), ((2 : Nat), AVal.ptr (0 : Nat) (0 : Nat) (0 : Nat)), ((4 : Nat), AVal.bool false), ((5 : Nat), AVal.bool false), ((6 : Nat), AVal.int IntKind.i64 (↑i : Int)), ((16 : Nat), AVal.int IntKind.i64 (↑p : Int)), ((17 : Nat), AVal.int IntKind.i64 (↑i : Int)), ((21 : Nat), AVal.int IntKind.i64 (↑p : Int)), ((22 : Nat), AVal.int IntKind.i64 (0 : Int))] [{ c := BC.cells [AVal.int IntKind.i64 (↑p : Int), AVal.int IntKind.i64 (↑t : Int), AVal.ro (Cont.ints IntKind.i64 ws) ws.length (1 : Nat)], ver := (0 : Nat) }]) else none else some (AVal.tup [AVal.bool true, AVal.bool true], [])) := by kernel_rfl
theorem round2 (p t : Nat) (ws : List Int) (os : List Int) (i j f n n2 : Nat) :
  L2 f n (n2 + 1) (mkS 51 [(1, .ro (.ints .i64 os) os.length 1), (2, .ptr 0 0 0), (4, .bool false), (5, .bool false), (6, .int .i64 (i : Int)), (16, .int .i64 p), (17, .int .i64 (i : Int)), (21, .int .i64 p), (22, .int .i64 (j : Int))] [⟨.cells [.int .i64 p, .int .i64 t, .ro (.ints .i64 ws) ws.length 1], 0⟩])
  = (bif decide ((↑j : Int) < (↑p : Int)) then L3 f n n2 f (mkS (51 : Nat) [((1 : Nat), AVal.ro (Cont.ints IntKind.i64 os) os.length (1 : Nat)), ((2 : Nat), AVal.ptr (0 : Nat) (0 : Nat) (0 : Nat)), ((4 : Nat), AVal.bool false), ((5 : Nat), AVal.bool false), ((6 : Nat), AVal.int IntKind.i64 (↑i : Int)), ((7 : Nat), AVal.int IntKind.i64 (↑j : Int)), ((8 : Nat), AVal.int IntKind.i64 (0 : Int)), ((16 : Nat), AVal.int IntKind.i64 (↑p : Int)), ((17 : Nat), AVal.int IntKind.i64 (↑i : Int)), ((21 : Nat), AVal.int IntKind.i64 (↑p : Int)), ((22 : Nat), AVal.int IntKind.i64 (↑j : Int)), ((25 : Nat), AVal.ro (Cont.ints IntKind.i64 os) os.length (1 : Nat)), ((26 : Nat), AVal.int IntKind.i64 (↑os.length : Int)), ((27 : Nat), AVal.int IntKind.i64 (0 : Int))] [{ c := BC.cells [AVal.int IntKind.i64 (↑p : Int), AVal.int IntKind.i64 (↑t : Int), AVal.ro (Cont.ints IntKind.i64 ws) ws.length (1 : Nat)], ver := (0 : Nat) }]) else L1 f n (mkS (51 : Nat) [((1 : Nat), AVal.ro (Cont.ints IntKind.i64 os) os.length (1 : Nat)), ((2 : Nat), AVal.ptr (0 : Nat) (0 : Nat) (0 : Nat)), ((4 : Nat), AVal.bool false), ((5 : Nat), AVal.bool false), ((16 : Nat), AVal.int IntKind.i64 (↑p : Int)), ((17 : Nat), AVal.int IntKind.i64 (IntKind.i64.wrap ((↑i : Int) + (1 : Int))))] [{ c := BC.cells [AVal.int IntKind.i64 (↑p : Int), AVal.int IntKind.i64 (↑t : Int), AVal.ro (Cont.ints IntKind.i64 ws) ws.length (1 : Nat)], ver := (0 : Nat) }])) := by kernel_rfl
theorem round3 (p t : Nat) (ws : List Int) (os : List Int) (a : Int) (i j k f n n2 n3 : Nat) :
  L3 f n n2 (n3 + 1) (mkS 51 [(1, .ro (.ints .i64 os) os.length 1), (2, .ptr 0 0 0), (4, .bool false), (5, .bool false), (6, .int .i64 (i : Int)), (7, .int .i64 (j : Int)), (8, .int .i64 a), (16, .int .i64 p), (17, .int .i64 (i : Int)), (21, .int .i64 p), (22, .int .i64 (j : Int)), (25, .ro (.ints .i64 os) os.length 1), (26, .int .i64 os.length), (27, .int .i64 (k : Int))] [⟨.cells [.int .i64 p, .int .i64 t, .ro (.ints .i64 ws) ws.length 1], 0⟩])
  = (bif decide ((↑k : Int) < (↑os.length : Int)) then bif true && (decide ((0 : Int) ≤ (↑k : Int)) && decide ((↑k : Int) < (↑os.length : Int))) then bif decide ((↑k : Int).toNat < os.length) then bif gz os (↑k : Int).toNat == (↑j : Int) then bif true && true && (true && true && (true && true && true)) then bif decide (ws.length = ws.length ∧ (0 : Int) ≤ (↑i : Int) ∧ (0 : Int) ≤ (↑k : Int) ∧ (↑i : Int) ≤ (100 : Int) ∧ (↑k : Int) ≤ (100 : Int) ∧ (0 : Int) ≤ (↑t : Int) ∧ (↑t : Int) ≤ (100 : Int) ∧ (↑i : Int) * (↑t : Int) + (↑k : Int) < (↑ws.length : Int)) && (true && (true && (true && true)) && (true && (true && true)) || true && true) then L3 f n n2 n3 (mkS (51 : Nat) [((1 : Nat), AVal.ro (Cont.ints IntKind.i64 os) os.length (1 : Nat)), ((2 : Nat), AVal.ptr (0 : Nat) (0 : Nat) (0 : Nat)), ((4 : Nat), AVal.bool false), ((5 : Nat), AVal.bool false), ((6 : Nat), AVal.int IntKind.i64 (↑i : Int)), ((7 : Nat), AVal.int IntKind.i64 (↑j : Int)), ((8 : Nat), AVal.int IntKind.i64 (if a < gz ws ((↑i : Int) * (↑t : Int) + (↑k : Int)).toNat then gz ws ((↑i : Int) * (↑t : Int) + (↑k : Int)).toNat else a)), ((16 : Nat), AVal.int IntKind.i64 (↑p : Int)), ((17 : Nat), AVal.int IntKind.i64 (↑i : Int)), ((21 : Nat), AVal.int IntKind.i64 (↑p : Int)), ((22 : Nat), AVal.int IntKind.i64 (↑j : Int)), ((25 : Nat), AVal.ro (Cont.ints IntKind.i64 os) os.length (1 : Nat)), ((26 : Nat), AVal.int IntKind.i64 (↑os.length : Int)), ((27 : Nat), AVal.int IntKind.i64 (IntKind.i64.wrap ((↑k : Int) + (1 : Int))))] [{ c := BC.cells [AVal.int IntKind.i64 (↑p : Int), AVal.int IntKind.i64 (↑t : Int), AVal.ro (Cont.ints IntKind.i64 ws) ws.length (1 : Nat)], ver := (0 : Nat) }]) else none else none else L3 f n n2 n3 (mkS (51 : Nat) [((1 : Nat), AVal.ro (Cont.ints IntKind.i64 os) os.length (1 : Nat)), ((2 : Nat), AVal.ptr (0 : Nat) (0 : Nat) (0 : Nat)), ((4 : Nat), AVal.bool false), ((5 : Nat), AVal.bool false), ((6 : Nat), AVal.int IntKind.i64 (↑i : Int)), ((7 : Nat), AVal.int IntKind.i64 (↑j : Int)), ((8 : Nat), AVal.int IntKind.i64 a), ((16 : Nat), AVal.int IntKind.i64 (↑p : Int)), ((17 : Nat), AVal.int IntKind.i64 (↑i : Int)), ((21 : Nat), AVal.int IntKind.i64 (↑p : Int)), ((22 : Nat), AVal.int IntKind.i64 (↑j : Int)), ((25 : Nat), AVal.ro (Cont.ints IntKind.i64 os) os.length (1 : Nat)), ((26 : Nat), AVal.int IntKind.i64 (↑os.length : Int)), ((27 : Nat), AVal.int IntKind.i64 (IntKind.i64.wrap ((↑k : Int) + (1 : Int))))] [{ c := BC.cells [AVal.int IntKind.i64 (↑p : Int), AVal.int IntKind.i64 (↑t : Int), AVal.ro (Cont.ints IntKind.i64 ws) ws.length (1 : Nat)], ver := (0 : Nat) }]) else none else none else bif true && true && (true && true && (true && true && true)) then bif decide (ws.length = ws.length ∧ os.length = os.length ∧ (0 : Int) ≤ (↑i : Int) ∧ (↑i : Int) < (↑p : Int) ∧ (↑os.length : Int) = (↑t : Int)) && vp.sp (↑p : Int) (↑t : Int) ws && (true && (true && (true && true)) && (true && (true && (true && true))) || true && true) then bif decide (a < vp.envy.sv (↑t : Int).toNat ws os (↑i : Int).toNat (↑j : Int)) then some (AVal.tup [AVal.bool false, AVal.bool true], []) else L2 f n n2 (mkS (51 : Nat) [((1 : Nat), AVal.ro (Cont.ints IntKind.i64 os) os.length (1 : Nat)), ((2 : Nat), AVal.ptr (0 : Nat) (0 : Nat) (0 : Nat)), ((4 : Nat), AVal.bool false), ((5 : Nat), AVal.bool false), ((6 : Nat), AVal.int IntKind.i64 (↑i : Int)), ((16 : Nat), AVal.int IntKind.i64 (↑p : Int)), ((17 : Nat), AVal.int IntKind.i64 (↑i : Int)), ((21 : Nat), AVal.int IntKind.i64 (↑p : Int)), ((22 : Nat), AVal.int IntKind.i64 (IntKind.i64.wrap ((↑j : Int) + (1 : Int))))] [{ c := BC.cells [AVal.int IntKind.i64 (↑p : Int), AVal.int IntKind.i64 (↑t : Int), AVal.ro (Cont.ints IntKind.i64 ws) ws.length (1 : Nat)], ver := (0 : Nat) }]) else none else none) := by kernel_rfl
theorem inner3 (p t : Nat) (ws : List Int) (os : List Int) (f n n2 i j : Nat) (hs : vp.sp p t ws = true) (hp : 1 ≤ p ∧ p ≤ 6) (ht : 1 ≤ t ∧ t ≤ 8) (hw : ws.length = p * t) (v : ∀ x ∈ ws, 0 ≤ x ∧ x ≤ 1000) (hl : os.length = t) (hi : i < p) (hj : j < p) : ∀ (d k n3 : Nat), k + d = os.length → d < n3 →
    L3 f n n2 n3 (mkS 51 [(1, .ro (.ints .i64 os) os.length 1), (2, .ptr 0 0 0), (4, .bool false), (5, .bool false), (6, .int .i64 (i : Int)), (7, .int .i64 (j : Int)), (8, .int .i64 (vp.mx t ws os i (j : Int) k)), (16, .int .i64 p), (17, .int .i64 (i : Int)), (21, .int .i64 p), (22, .int .i64 (j : Int)), (25, .ro (.ints .i64 os) os.length 1), (26, .int .i64 os.length), (27, .int .i64 (k : Int))] [⟨.cells [.int .i64 p, .int .i64 t, .ro (.ints .i64 ws) ws.length 1], 0⟩]) = bif vp.ef1 t ws os i j then L2 f n n2 (mkS 51 [(1, .ro (.ints .i64 os) os.length 1), (2, .ptr 0 0 0), (4, .bool false), (5, .bool false), (6, .int .i64 (i : Int)), (16, .int .i64 p), (17, .int .i64 (i : Int)), (21, .int .i64 p), (22, .int .i64 ((j + 1 : Nat) : Int))] [⟨.cells [.int .i64 p, .int .i64 t, .ro (.ints .i64 ws) ws.length 1], 0⟩]) else some (.tup [.bool false, .bool true], []) := by
  intro d
  induction d with
  | zero =>
    intro k n3 hk hn
    obtain ⟨n3, rfl⟩ : ∃ k, n3 = k + 1 := ⟨n3 - 1, by omega⟩
    obtain rfl : k = os.length := by omega
    rw [round3]
    simp -implicitDefEqProofs (disch := omega) only [hs, take_one, set_one, decide_eq_true, decide_eq_false, IntWalk.i64_in, beqT, beqF, bneT, bneF, nat_succ, ← Int.natCast_mul, ← Int.natCast_add, Int.toNat_natCast, Int.zero_mul, Int.zero_add, Int.add_zero, Nat.zero_add, Nat.add_zero, Nat.zero_mul, List.length_singleton, List.length_append, List.length_nil, List.length_cons, List.take_length, List.drop_zero, List.replicate_zero, List.take_nil, List.nil_append, Nat.reduceBEq, Nat.reduceMul, Nat.reduceLeDiff, eq_self, and_self, true_and, and_true, decide_true, decide_false, Bool.and_self, Bool.or_self, Bool.and_true, Bool.true_and, Bool.and_false, Bool.false_and, Bool.or_true, Bool.true_or, Bool.or_false, Bool.false_or, Bool.not_true, Bool.not_false, cond_true, cond_false]
    unfold vp.ef1
    cases decide (vp.mx t ws os i (j : Int) os.length < vp.envy.sv t ws os i (j : Int)) <;> rfl
  | succ d ih =>
    intro k n3 hk hn
    obtain ⟨n3, rfl⟩ : ∃ k, n3 = k + 1 := ⟨n3 - 1, by omega⟩
    have hkt : k < t := by omega
    have h48 := vp.le_48 hp.2 ht.2
    have hx := ix_lt (R := p) (C := t) hi hkt
    have ew : gz ws (i * t + k) = vp.w t ws i k := rfl
    have g := ih (k + 1) n3 (by omega) (by omega)
    simp only [vp.mx] at g
    rw [round3]
    cases hc : (gz os k == (j : Int))
    · rw [hc] at g
      simp only [cond_false] at g
      simp -implicitDefEqProofs (disch := omega) only [hc, ew, take_one, set_one, decide_eq_true, decide_eq_false, IntWalk.i64_in, bneT, bneF, nat_succ, ← Int.natCast_mul, ← Int.natCast_add, Int.toNat_natCast, Int.zero_mul, Int.zero_add, Int.add_zero, Nat.zero_add, Nat.add_zero, Nat.zero_mul, List.length_singleton, List.length_append, List.length_nil, List.length_cons, List.take_length, List.drop_zero, List.replicate_zero, List.take_nil, List.nil_append, Nat.reduceBEq, Nat.reduceMul, Nat.reduceLeDiff, eq_self, and_self, true_and, and_true, decide_true, decide_false, Bool.and_self, Bool.or_self, Bool.and_true, Bool.true_and, Bool.and_false, Bool.false_and, Bool.or_true, Bool.true_or, Bool.or_false, Bool.false_or, Bool.not_true, Bool.not_false, cond_true, cond_false]
      exact g
    · rw [hc] at g
      simp only [cond_true] at g
      simp -implicitDefEqProofs (disch := omega) only [hc, ew, take_one, set_one, decide_eq_true, decide_eq_false, IntWalk.i64_in, bneT, bneF, nat_succ, ← Int.natCast_mul, ← Int.natCast_add, Int.toNat_natCast, Int.zero_mul, Int.zero_add, Int.add_zero, Nat.zero_add, Nat.add_zero, Nat.zero_mul, List.length_singleton, List.length_append, List.length_nil, List.length_cons, List.take_length, List.drop_zero, List.replicate_zero, List.take_nil, List.nil_append, Nat.reduceBEq, Nat.reduceMul, Nat.reduceLeDiff, eq_self, and_self, true_and, and_true, decide_true, decide_false, Bool.and_self, Bool.or_self, Bool.and_true, Bool.true_and, Bool.and_false, Bool.false_and, Bool.or_true, Bool.true_or, Bool.or_false, Bool.false_or, Bool.not_true, Bool.not_false, cond_true, cond_false]
      exact g
theorem inner2 (p t : Nat) (ws : List Int) (os : List Int) (f n i : Nat) (hf : 10 < f) (hs : vp.sp p t ws = true) (hp : 1 ≤ p ∧ p ≤ 6) (ht : 1 ≤ t ∧ t ≤ 8) (hw : ws.length = p * t) (v : ∀ x ∈ ws, 0 ≤ x ∧ x ≤ 1000) (hl : os.length = t) (hi : i < p) : ∀ (d j n2 : Nat), j + d = p → d < n2 →
    L2 f n n2 (mkS 51 [(1, .ro (.ints .i64 os) os.length 1), (2, .ptr 0 0 0), (4, .bool false), (5, .bool false), (6, .int .i64 (i : Int)), (16, .int .i64 p), (17, .int .i64 (i : Int)), (21, .int .i64 p), (22, .int .i64 (j : Int))] [⟨.cells [.int .i64 p, .int .i64 t, .ro (.ints .i64 ws) ws.length 1], 0⟩]) = bif vp.efr t ws os i d j then L1 f n (mkS 51 [(1, .ro (.ints .i64 os) os.length 1), (2, .ptr 0 0 0), (4, .bool false), (5, .bool false), (16, .int .i64 p), (17, .int .i64 ((i + 1 : Nat) : Int))] [⟨.cells [.int .i64 p, .int .i64 t, .ro (.ints .i64 ws) ws.length 1], 0⟩]) else some (.tup [.bool false, .bool true], []) := by
  intro d
  induction d with
  | zero =>
    intro j n2 hj hn
    obtain ⟨n2, rfl⟩ : ∃ k, n2 = k + 1 := ⟨n2 - 1, by omega⟩
    obtain rfl : j = p := by omega
    rw [round2, vp.efr]
    simp -implicitDefEqProofs (disch := omega) only [take_one, set_one, decide_eq_true, decide_eq_false, IntWalk.i64_in, beqT, beqF, bneT, bneF, nat_succ, ← Int.natCast_mul, ← Int.natCast_add, Int.toNat_natCast, Int.zero_mul, Int.zero_add, Int.add_zero, Nat.zero_add, Nat.add_zero, Nat.zero_mul, List.length_singleton, List.length_append, List.length_nil, List.length_cons, List.take_length, List.drop_zero, List.replicate_zero, List.take_nil, List.nil_append, Nat.reduceBEq, Nat.reduceMul, Nat.reduceLeDiff, eq_self, and_self, true_and, and_true, decide_true, decide_false, Bool.and_self, Bool.or_self, Bool.and_true, Bool.true_and, Bool.and_false, Bool.false_and, Bool.or_true, Bool.true_or, Bool.or_false, Bool.false_or, Bool.not_true, Bool.not_false, cond_true, cond_false]
  | succ d ih =>
    intro j n2 hj hn
    obtain ⟨n2, rfl⟩ : ∃ k, n2 = k + 1 := ⟨n2 - 1, by omega⟩
    have g := ih (j + 1) n2 (by omega) (by omega)
    have g2 := inner3 p t ws os f n n2 i j hs hp ht hw v hl hi (by omega) os.length 0 f (by omega) (by omega)
    rw [round2, vp.efr]
    simp -implicitDefEqProofs (disch := omega) only [take_one, set_one, decide_eq_true, decide_eq_false, IntWalk.i64_in, beqT, beqF, bneT, bneF, nat_succ, ← Int.natCast_mul, ← Int.natCast_add, Int.toNat_natCast, Int.zero_mul, Int.zero_add, Int.add_zero, Nat.zero_add, Nat.add_zero, Nat.zero_mul, List.length_singleton, List.length_append, List.length_nil, List.length_cons, List.take_length, List.drop_zero, List.replicate_zero, List.take_nil, List.nil_append, Nat.reduceBEq, Nat.reduceMul, Nat.reduceLeDiff, eq_self, and_self, true_and, and_true, decide_true, decide_false, Bool.and_self, Bool.or_self, Bool.and_true, Bool.true_and, Bool.and_false, Bool.false_and, Bool.or_true, Bool.true_or, Bool.or_false, Bool.false_or, Bool.not_true, Bool.not_false, cond_true, cond_false]
    refine g2.trans ?_
    rw [g]
    cases vp.ef1 t ws os i j <;> rfl
theorem loop1 (p t : Nat) (ws : List Int) (os : List Int) (f : Nat) (hf : 10 < f) (hs : vp.sp p t ws = true) (hp : 1 ≤ p ∧ p ≤ 6) (ht : 1 ≤ t ∧ t ≤ 8) (hw : ws.length = p * t) (v : ∀ x ∈ ws, 0 ≤ x ∧ x ≤ 1000) (hl : os.length = t) : ∀ (d i n : Nat), i + d = p → d < n →
    L1 f n (mkS 51 [(1, .ro (.ints .i64 os) os.length 1), (2, .ptr 0 0 0), (4, .bool false), (5, .bool false), (16, .int .i64 p), (17, .int .i64 (i : Int))] [⟨.cells [.int .i64 p, .int .i64 t, .ro (.ints .i64 ws) ws.length 1], 0⟩]) = some (.tup [.bool (vp.efa t ws os p d i), .bool true], []) := by
  intro d
  induction d with
  | zero =>
    intro i n hi hn
    obtain ⟨n, rfl⟩ : ∃ k, n = k + 1 := ⟨n - 1, by omega⟩
    obtain rfl : i = p := by omega
    rw [round1, vp.efa]
    simp -implicitDefEqProofs (disch := omega) only [take_one, set_one, decide_eq_true, decide_eq_false, IntWalk.i64_in, beqT, beqF, bneT, bneF, nat_succ, ← Int.natCast_mul, ← Int.natCast_add, Int.toNat_natCast, Int.zero_mul, Int.zero_add, Int.add_zero, Nat.zero_add, Nat.add_zero, Nat.zero_mul, List.length_singleton, List.length_append, List.length_nil, List.length_cons, List.take_length, List.drop_zero, List.replicate_zero, List.take_nil, List.nil_append, Nat.reduceBEq, Nat.reduceMul, Nat.reduceLeDiff, eq_self, and_self, true_and, and_true, decide_true, decide_false, Bool.and_self, Bool.or_self, Bool.and_true, Bool.true_and, Bool.and_false, Bool.false_and, Bool.or_true, Bool.true_or, Bool.or_false, Bool.false_or, Bool.not_true, Bool.not_false, cond_true, cond_false]
  | succ d ih =>
    intro i n hi hn
    obtain ⟨n, rfl⟩ : ∃ k, n = k + 1 := ⟨n - 1, by omega⟩
    have g := ih (i + 1) n (by omega) (by omega)
    have g2 := inner2 p t ws os f n i hf hs hp ht hw v hl (by omega) p 0 f (by omega) (by omega)
    rw [round1, vp.efa]
    simp -implicitDefEqProofs (disch := omega) only [take_one, set_one, decide_eq_true, decide_eq_false, IntWalk.i64_in, beqT, beqF, bneT, bneF, nat_succ, ← Int.natCast_mul, ← Int.natCast_add, Int.toNat_natCast, Int.zero_mul, Int.zero_add, Int.add_zero, Nat.zero_add, Nat.add_zero, Nat.zero_mul, List.length_singleton, List.length_append, List.length_nil, List.length_cons, List.take_length, List.drop_zero, List.replicate_zero, List.take_nil, List.nil_append, Nat.reduceBEq, Nat.reduceMul, Nat.reduceLeDiff, eq_self, and_self, true_and, and_true, decide_true, decide_false, Bool.and_self, Bool.or_self, Bool.and_true, Bool.true_and, Bool.and_false, Bool.false_and, Bool.or_true, Bool.true_or, Bool.or_false, Bool.false_or, Bool.not_true, Bool.not_false, cond_true, cond_false]
    refine g2.trans ?_
    rw [g]
    cases vp.efr t ws os i p 0 <;> rfl
theorem run : ∀ args v new, R args = some (true, v, new) → ∃ fuel, runFn Try.prog (orc [⟨56, vOwned.R⟩, ⟨89, vOf.R⟩, ⟨95, vEnvy.R⟩]) hd Dr.std (some 0) fuel (bodyOf Try.f38) 51 [4, 5] args [] = some (v, new) := by
  intro args v new h
  unfold R at h
  split at h
  · rename_i p t ws m os l
    simp only [Option.some.injEq, Prod.mk.injEq, Bool.and_eq_true, decide_eq_true_eq] at h
    obtain ⟨⟨⟨rfl, rfl, h3⟩, hs, ho⟩, rfl, rfl⟩ := h
    have hs2 := hs
    obtain ⟨p, t, rfl, rfl, hp, ht, hw, v⟩ := vp.valid hs2
    have h48 := vp.le_48 hp.2 ht.2
    obtain ⟨F, hF⟩ : ∃ F : Nat, F = 100 := ⟨100, rfl⟩
    refine ⟨F, ?_⟩
    have g := loop1 p t ws os F (by omega) hs hp ht hw v (by omega) p 0 F (by omega) (by omega)
    rw [start]
    simp -implicitDefEqProofs (disch := omega) only [hs, ho, take_one, set_one, decide_eq_true, decide_eq_false, IntWalk.i64_in, beqT, beqF, bneT, bneF, nat_succ, ← Int.natCast_mul, ← Int.natCast_add, Int.toNat_natCast, Int.zero_mul, Int.zero_add, Int.add_zero, Nat.zero_add, Nat.add_zero, Nat.zero_mul, List.length_singleton, List.length_append, List.length_nil, List.length_cons, List.take_length, List.drop_zero, List.replicate_zero, List.take_nil, List.nil_append, Nat.reduceBEq, Nat.reduceMul, Nat.reduceLeDiff, eq_self, and_self, true_and, and_true, decide_true, decide_false, Bool.and_self, Bool.or_self, Bool.and_true, Bool.true_and, Bool.and_false, Bool.false_and, Bool.or_true, Bool.true_or, Bool.or_false, Bool.false_or, Bool.not_true, Bool.not_false, cond_true, cond_false]
    exact g
  · cases h
theorem ok : EntOk Try.prog ⟨38, R⟩ :=
  ent_okA mixed (A := (orc [⟨56, vOwned.R⟩, ⟨89, vOf.R⟩, ⟨95, vEnvy.R⟩])) (orc_ok (by simp only [List.mem_cons, List.not_mem_nil, or_false, forall_eq_or_imp, forall_eq]; exact ⟨vOwned.ok, vOf.ok, vEnvy.ok⟩)) Try.func38 (by kernel_rfl) (by kernel_rfl) (n := 51) (ts := [4, 5]) (hd := hd) (dr := Dr.std) (cut := (some 0)) (by kernel_rfl) (by kernel_rfl) (by kernel_rfl) run
end iIsFreeUpToOne

namespace vRow
def R : List AVal → Option (Bool × AVal × List Blk)
  | [.agg [.int .i64 p, .int .i64 t, .ro (.ints .i64 ws) m 1], .int .i64 i] => some (decide (m = ws.length ∧ 0 ≤ i ∧ i < p) && vp.sp p t ws, .ro (.ints .i64 ((ws.drop (i.toNat * t.toNat)).take t.toNat)) t.toNat 1, [])
  | _ => none
theorem go (p t : Int) (ws : List Int) (m : Nat) (i : Int) :
  runFn Try.prog (orc []) hd0 Dr.std (some 0) 0 (bodyOf Try.f97) 17 [4] [.agg [.int .i64 p, .int .i64 t, .ro (.ints .i64 ws) m 1], .int .i64 i] []
  = (bif true && true then bif true && true then bif true && true then bif true && (decide ((0 : Int) ≤ IntKind.i64.wrap (IntKind.i64.wrap (i + (1 : Int)) * t)) && decide (IntKind.i64.wrap (IntKind.i64.wrap (i + (1 : Int)) * t) ≤ (↑m : Int)) && (decide ((0 : Int) ≤ IntKind.i64.wrap (i * t)) && decide (IntKind.i64.wrap (i * t) ≤ (↑(IntKind.i64.wrap (IntKind.i64.wrap (i + (1 : Int)) * t)).toNat : Int)))) then some (AVal.ro (Cont.ints IntKind.i64 (List.take ((IntKind.i64.wrap (IntKind.i64.wrap (i + (1 : Int)) * t)).toNat - (IntKind.i64.wrap (i * t)).toNat) (List.drop (IntKind.i64.wrap (i * t)).toNat ws))) ((IntKind.i64.wrap (IntKind.i64.wrap (i + (1 : Int)) * t)).toNat - (IntKind.i64.wrap (i * t)).toNat) (1 : Nat), []) else none else none else none else none) := by kernel_rfl
theorem run : ∀ args v new, R args = some (true, v, new) → ∃ fuel, runFn Try.prog (orc []) hd0 Dr.std (some 0) fuel (bodyOf Try.f97) 17 [4] args [] = some (v, new) := by
  intro args v new h
  unfold R at h
  split at h
  · rename_i p t ws m i
    simp only [Option.some.injEq, Prod.mk.injEq, Bool.and_eq_true, decide_eq_true_eq] at h
    obtain ⟨⟨⟨rfl, h1, h2⟩, hs⟩, rfl, rfl⟩ := h
    have hs2 := hs
    obtain ⟨p, t, rfl, rfl, hp, ht, hw, v⟩ := vp.valid hs2
    have h48 := vp.le_48 hp.2 ht.2
    obtain ⟨i, rfl⟩ : ∃ q : Nat, i = q := ⟨i.toNat, by omega⟩
    have hm : (i + 1) * t = i * t + t := Nat.succ_mul i t
    have hle : (i + 1) * t ≤ p * t := Nat.mul_le_mul_right t (by omega)
    have e1 : (i + 1) * t - i * t = t := by omega
    refine ⟨0, ?_⟩
    rw [go]
    simp -implicitDefEqProofs (disch := omega) only [e1, take_one, set_one, decide_eq_true, decide_eq_false, IntWalk.i64_in, beqT, beqF, bneT, bneF, nat_succ, ← Int.natCast_mul, ← Int.natCast_add, Int.toNat_natCast, Int.zero_mul, Int.zero_add, Int.add_zero, Nat.zero_add, Nat.add_zero, Nat.zero_mul, List.length_singleton, List.length_append, List.length_nil, List.length_cons, List.take_length, List.drop_zero, List.replicate_zero, List.take_nil, List.nil_append, Nat.reduceBEq, Nat.reduceMul, Nat.reduceLeDiff, eq_self, and_self, true_and, and_true, decide_true, decide_false, Bool.and_self, Bool.or_self, Bool.and_true, Bool.true_and, Bool.and_false, Bool.false_and, Bool.or_true, Bool.true_or, Bool.or_false, Bool.false_or, Bool.not_true, Bool.not_false, cond_true, cond_false]
  · cases h
theorem ok : EntOk Try.prog ⟨97, R⟩ :=
  ent_okA mixed (A := (orc [])) (orc_ok (by simp)) Try.func97 (by kernel_rfl) (by kernel_rfl) (n := 17) (ts := [4]) (hd := hd0) (dr := Dr.std) (cut := (some 0)) (by kernel_rfl) (by kernel_rfl) (by kernel_rfl) run
end vRow

namespace iIsEvenShare
def R : List AVal → Option (Bool × AVal × List Blk)
  | [.agg [.int .i64 p, .int .i64 t, .ro (.ints .i64 ws) m 1], .ro (.ints .i64 os) l 1] => some (decide (m = ws.length ∧ l = os.length ∧ (l : Int) = t) && (vp.sp p t ws && (os.all fun x => decide (0 ≤ x) && decide (x ≤ p - 1))), .tup [.bool (vp.ev.sp t.toNat ws os p.toNat), .bool true], [])
  | _ => none
def hd : Nat → Head := fun _ => ⟨[2, 4, 5, 14, 15, 16], some 2⟩
noncomputable def L (f n : Nat) (s : State) := loopAt Try.prog (orc [⟨56, vOwned.R⟩, ⟨57, vOwn.R⟩, ⟨97, vRow.R⟩, ⟨59, sumOf.R⟩]) hd Dr.std 0 f (bodyOf Try.f41) 0 [true, true, false, true] (retK Try.prog [4, 5] 0 none) n s
theorem start (p t : Nat) (ws : List Int) (os : List Int) (f : Nat) :
  runFn Try.prog (orc [⟨56, vOwned.R⟩, ⟨57, vOwn.R⟩, ⟨97, vRow.R⟩, ⟨59, sumOf.R⟩]) hd Dr.std none f (bodyOf Try.f41) 31 [4, 5] [.agg [.int .i64 p, .int .i64 t, .ro (.ints .i64 ws) ws.length 1], .ro (.ints .i64 os) os.length 1] []
  = (bif true && true && (true && true && (true && true && true)) then bif decide (ws.length = ws.length ∧ os.length = os.length ∧ (↑os.length : Int) = (↑t : Int)) && (vp.sp (↑p : Int) (↑t : Int) ws && os.all fun x => decide ((0 : Int) ≤ x) && decide (x ≤ (↑p : Int) - (1 : Int))) && (true && (true && (true && true)) && (true && true) || true && true) then bif true && true && (true && true && (true && true && true)) then bif decide (ws.length = ws.length ∧ os.length = os.length ∧ (↑os.length : Int) = (↑t : Int)) && vp.sp (↑p : Int) (↑t : Int) ws && (true && (true && (true && true)) && (true && true) || true && (true && true)) then L f f (mkS (31 : Nat) [((2 : Nat), AVal.ptr (0 : Nat) (0 : Nat) (0 : Nat)), ((4 : Nat), AVal.bool false), ((5 : Nat), AVal.bool false), ((14 : Nat), AVal.own (1 : Nat) (0 : Nat) (↑p : Int).toNat (0 : Nat) (1 : Nat)), ((15 : Nat), AVal.int IntKind.i64 (↑(↑p : Int).toNat : Int)), ((16 : Nat), AVal.int IntKind.i64 (0 : Int))] [{ c := BC.cells [AVal.int IntKind.i64 (↑p : Int), AVal.int IntKind.i64 (↑t : Int), AVal.ro (Cont.ints IntKind.i64 ws) ws.length (1 : Nat)], ver := (0 : Nat) }, { c := BC.typ (Cont.ints IntKind.i64 (vp.own.sv (↑t : Int).toNat ws os (↑p : Int).toNat)), ver := (0 : Nat) }]) else none else none else none else none) := by kernel_rfl
theorem round (p t : Nat) (ws : List Int) (zs : List Int) (i f n : Nat) :
  L f (n + 1) (mkS 31 [(2, .ptr 0 0 0), (4, .bool false), (5, .bool false), (14, .own 1 0 p 0 1), (15, .int .i64 p), (16, .int .i64 (i : Int))] [⟨.cells [.int .i64 p, .int .i64 t, .ro (.ints .i64 ws) ws.length 1], 0⟩, ⟨.typ (.ints .i64 zs), 0⟩])
  = (bif decide ((↑i : Int) < (↑p : Int)) then bif true && (decide ((0 : Int) ≤ (↑i : Int)) && decide ((↑i : Int) < (↑p : Int))) then bif true && decide ((↑i : Int).toNat < zs.length) then bif true && true then bif true && true && (true && true && (true && true && true)) then bif decide (ws.length = ws.length ∧ (0 : Int) ≤ (↑i : Int) ∧ (↑i : Int) < (↑p : Int)) && vp.sp (↑p : Int) (↑t : Int) ws && (true && (true && (true && true)) && (true && true) || false && true) then bif decide ((↑t : Int).toNat ≤ (List.take (↑t : Int).toNat (List.drop ((↑i : Int).toNat * (↑t : Int).toNat) ws)).length ∧ (↑t : Int).toNat ≤ (4611686018427387904 : Nat)) && (true && true || true && true) then bif decide (IntKind.i64.wrap (gz zs (↑i : Int).toNat * (↑p : Int)) < sumOf.sp (List.take (↑t : Int).toNat (List.take (↑t : Int).toNat (List.drop ((↑i : Int).toNat * (↑t : Int).toNat) ws)))) then some (AVal.tup [AVal.bool false, AVal.bool true], [{ c := BC.cells [AVal.int IntKind.i64 (↑p : Int), AVal.int IntKind.i64 (↑t : Int), AVal.ro (Cont.ints IntKind.i64 ws) ws.length (1 : Nat)], ver := (0 : Nat) }, { c := BC.typ (Cont.ints IntKind.i64 zs), ver := (0 : Nat) }]) else L f n (mkS (31 : Nat) [((2 : Nat), AVal.ptr (0 : Nat) (0 : Nat) (0 : Nat)), ((4 : Nat), AVal.bool false), ((5 : Nat), AVal.bool false), ((14 : Nat), AVal.own (1 : Nat) (0 : Nat) p (0 : Nat) (1 : Nat)), ((15 : Nat), AVal.int IntKind.i64 (↑p : Int)), ((16 : Nat), AVal.int IntKind.i64 (IntKind.i64.wrap ((↑i : Int) + (1 : Int))))] [{ c := BC.cells [AVal.int IntKind.i64 (↑p : Int), AVal.int IntKind.i64 (↑t : Int), AVal.ro (Cont.ints IntKind.i64 ws) ws.length (1 : Nat)], ver := (0 : Nat) }, { c := BC.typ (Cont.ints IntKind.i64 zs), ver := (0 : Nat) }]) else none else none else none else none else none else none else some (AVal.tup [AVal.bool true, AVal.bool true], [{ c := BC.cells [AVal.int IntKind.i64 (↑p : Int), AVal.int IntKind.i64 (↑t : Int), AVal.ro (Cont.ints IntKind.i64 ws) ws.length (1 : Nat)], ver := (0 : Nat) }, { c := BC.typ (Cont.ints IntKind.i64 zs), ver := (0 : Nat) }])) := by kernel_rfl
theorem loop (p t : Nat) (ws : List Int) (os : List Int) (f : Nat) (hs : vp.sp p t ws = true) (hp : 1 ≤ p ∧ p ≤ 6) (ht : 1 ≤ t ∧ t ≤ 8) (hw : ws.length = p * t) (v : ∀ x ∈ ws, 0 ≤ x ∧ x ≤ 1000) (hl : os.length = t) : ∀ (d i n : Nat), i + d = p → d < n →
    regc [] (L f n (mkS 31 [(2, .ptr 0 0 0), (4, .bool false), (5, .bool false), (14, .own 1 0 p 0 1), (15, .int .i64 p), (16, .int .i64 (i : Int))] [⟨.cells [.int .i64 p, .int .i64 t, .ro (.ints .i64 ws) ws.length 1], 0⟩, ⟨.typ (.ints .i64 (vp.own.sv t ws os p)), 0⟩])) = some (.tup [.bool (vp.eva t ws os p d i), .bool true], []) := by
  intro d
  induction d with
  | zero =>
    intro i n hi hn
    obtain ⟨n, rfl⟩ : ∃ k, n = k + 1 := ⟨n - 1, by omega⟩
    obtain rfl : i = p := by omega
    rw [round, vp.eva]
    simp -implicitDefEqProofs (disch := omega) only [take_one, set_one, decide_eq_true, decide_eq_false, IntWalk.i64_in, beqT, beqF, bneT, bneF, nat_succ, ← Int.natCast_mul, ← Int.natCast_add, Int.toNat_natCast, Int.zero_mul, Int.zero_add, Int.add_zero, Nat.zero_add, Nat.add_zero, Nat.zero_mul, List.length_singleton, List.length_append, List.length_nil, List.length_cons, List.take_length, List.drop_zero, List.replicate_zero, List.take_nil, List.nil_append, Nat.reduceBEq, Nat.reduceMul, Nat.reduceLeDiff, eq_self, and_self, true_and, and_true, decide_true, decide_false, Bool.and_self, Bool.or_self, Bool.and_true, Bool.true_and, Bool.and_false, Bool.false_and, Bool.or_true, Bool.true_or, Bool.or_false, Bool.false_or, Bool.not_true, Bool.not_false, cond_true, cond_false]
    rfl
  | succ d ih =>
    intro i n hi hn
    obtain ⟨n, rfl⟩ : ∃ k, n = k + 1 := ⟨n - 1, by omega⟩
    have hip : i < p := by omega
    have g := ih (i + 1) n (by omega) (by omega)
    have h48 := vp.le_48 hp.2 ht.2
    have lo := vp.own_length t ws os p
    have eo := vp.own_get (t := t) (ws := ws) (os := os) hip
    have hle : (i + 1) * t ≤ p * t := Nat.mul_le_mul_right t hip
    have er := vp.sum_row v ht.2 (i := i) (by omega)
    have tz : ((ws.drop (i * t)).take t).take t = (ws.drop (i * t)).take t := by rw [List.take_take, Nat.min_self]
    have lz : ((ws.drop (i * t)).take t).length = t := by rw [Nat.succ_mul] at hle; rw [List.length_take, List.length_drop]; omega
    have b1 := vp.part_in v t (os := os) (by omega) i (i : Int)
    have b2 : 0 ≤ vp.part.sv t ws os i (i : Int) * (p : Int) := Int.mul_nonneg b1.1 (by omega)
    have b3 : vp.part.sv t ws os i (i : Int) * (p : Int) ≤ 8000 * 6 := Int.mul_le_mul b1.2 (by omega) (by omega) (by omega)
    rw [round, vp.eva]
    simp -implicitDefEqProofs (disch := omega) only [hs, eo, tz, lz, er, take_one, set_one, decide_eq_true, decide_eq_false, IntWalk.i64_in, beqT, beqF, bneT, bneF, nat_succ, ← Int.natCast_mul, ← Int.natCast_add, Int.toNat_natCast, Int.zero_mul, Int.zero_add, Int.add_zero, Nat.zero_add, Nat.add_zero, Nat.zero_mul, List.length_singleton, List.length_append, List.length_nil, List.length_cons, List.take_length, List.drop_zero, List.replicate_zero, List.take_nil, List.nil_append, Nat.reduceBEq, Nat.reduceMul, Nat.reduceLeDiff, eq_self, and_self, true_and, and_true, decide_true, decide_false, Bool.and_self, Bool.or_self, Bool.and_true, Bool.true_and, Bool.and_false, Bool.false_and, Bool.or_true, Bool.true_or, Bool.or_false, Bool.false_or, Bool.not_true, Bool.not_false, cond_true, cond_false]
    cases decide (vp.part.sv t ws os i (i : Int) * (p : Int) < vp.rs t ws i t)
    · exact g
    · rfl
theorem run : ∀ args v new, R args = some (true, v, new) → ∃ fuel, regc [] (runFn Try.prog (orc [⟨56, vOwned.R⟩, ⟨57, vOwn.R⟩, ⟨97, vRow.R⟩, ⟨59, sumOf.R⟩]) hd Dr.std none fuel (bodyOf Try.f41) 31 [4, 5] args []) = some (v, new) := by
  intro args v new h
  unfold R at h
  split at h
  · rename_i p t ws m os l
    simp only [Option.some.injEq, Prod.mk.injEq, Bool.and_eq_true, decide_eq_true_eq] at h
    obtain ⟨⟨⟨rfl, rfl, h3⟩, hs, ho⟩, rfl, rfl⟩ := h
    have hs2 := hs
    obtain ⟨p, t, rfl, rfl, hp, ht, hw, v⟩ := vp.valid hs2
    have h48 := vp.le_48 hp.2 ht.2
    obtain ⟨F, hF⟩ : ∃ F : Nat, F = 100 := ⟨100, rfl⟩
    refine ⟨F, ?_⟩
    have g := loop p t ws os F hs hp ht hw v (by omega) p 0 F (by omega) (by omega)
    rw [start]
    simp -implicitDefEqProofs (disch := omega) only [hs, ho, take_one, set_one, decide_eq_true, decide_eq_false, IntWalk.i64_in, beqT, beqF, bneT, bneF, nat_succ, ← Int.natCast_mul, ← Int.natCast_add, Int.toNat_natCast, Int.zero_mul, Int.zero_add, Int.add_zero, Nat.zero_add, Nat.add_zero, Nat.zero_mul, List.length_singleton, List.length_append, List.length_nil, List.length_cons, List.take_length, List.drop_zero, List.replicate_zero, List.take_nil, List.nil_append, Nat.reduceBEq, Nat.reduceMul, Nat.reduceLeDiff, eq_self, and_self, true_and, and_true, decide_true, decide_false, Bool.and_self, Bool.or_self, Bool.and_true, Bool.true_and, Bool.and_false, Bool.false_and, Bool.or_true, Bool.true_or, Bool.or_false, Bool.false_or, Bool.not_true, Bool.not_false, cond_true, cond_false]
    exact g
  · cases h
theorem ok : EntOk Try.prog ⟨41, R⟩ :=
  ent_okAG (ks := []) mixed (A := (orc [⟨56, vOwned.R⟩, ⟨57, vOwn.R⟩, ⟨97, vRow.R⟩, ⟨59, sumOf.R⟩])) (orc_ok (by simp only [List.mem_cons, List.not_mem_nil, or_false, forall_eq_or_imp, forall_eq]; exact ⟨vOwned.ok, vOwn.ok, vRow.ok, sumOf.ok⟩)) Try.func41 (by kernel_rfl) (by kernel_rfl) (n := 31) (ts := [4, 5]) (hd := hd) (dr := Dr.std) (cut := none) (by kernel_rfl) (by kernel_rfl) (by kernel_rfl) run
end iIsEvenShare

end Go.Proofs.Ytadcpdjcadnepaa.Ab
