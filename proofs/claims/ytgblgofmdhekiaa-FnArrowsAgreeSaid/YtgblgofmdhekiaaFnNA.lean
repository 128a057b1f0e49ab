/-
  Functions: what the laws draw from bytes.
-/
import Derived.Test.YtgblgofmdhekiaaFnE
namespace Go.Proofs.Ytgblgofmdhekiaa.Ab
open Go
set_option linter.unusedVariables false
set_option linter.unusedSimpArgs false
set_option maxRecDepth 100000

namespace r8
def at.sv (xs : List Int) (k n : Int) : Int := bif decide (n ≤ 1) || decide ((xs.length : Int) ≤ k) then 0 else (IntKind.i64.wrap (gz xs k.toNat)).tmod n
/-- The next byte, or what a simple sequence goes on with. -/
def b.sv (xs : List Int) (a : Nat) : Int := bif decide (a < xs.length) then gz xs a else 0
def seed.sv (xs : List Int) (a : Nat) (s : Int) : Int := IntKind.u64.wrap (IntKind.u64.wrap (IntKind.u64.wrap (s * 6364136223846793005) + IntKind.u64.wrap (IntKind.i64.wrap (b.sv xs a))) + 1442695040888963407)
def nx.sv (xs : List Int) (a : Nat) (s : Int) : Int := bif decide (a < xs.length) then IntKind.i64.wrap (gz xs a) else IntKind.i64.wrap (iand.sv .u64 (ishr.sv .u64 (seed.sv xs a s) 40) 255)
end r8

namespace r8
def go.sv (xs : List Int) (most : Int) : Nat → Nat → Int → List Int
  | 0, _, _ => []
  | d + 1, a, s => (nx.sv xs a s).tmod most :: go.sv xs most d (a + 1) (seed.sv xs a s)
def bel.sv (xs : List Int) (n : Nat) (most : Int) : List Int := go.sv xs most n 0 0
theorem go_length (xs : List Int) (most : Int) : ∀ (d a : Nat) (s : Int), (go.sv xs most d a s).length = d := by
  intro d
  induction d with
  | zero => intro a s; rfl
  | succ d ih => intro a s; simp only [go.sv, List.length_cons, ih]
/-- Bytes. -/
def bytes.sp (xs : List Int) : Bool := xs.all fun x => decide (0 ≤ x) && decide (x ≤ 255)
theorem byte {xs : List Int} (h : bytes.sp xs = true) (i : Nat) : 0 ≤ gz xs i ∧ gz xs i ≤ 255 := by
  by_cases hi : i < xs.length
  · rw [gz_eq hi]
    have := List.all_eq_true.1 h _ (List.getElem_mem hi)
    simpa using this
  · unfold gz
    rw [List.getD_eq_getElem?_getD, List.getElem?_eq_none (by omega)]
    exact ⟨by decide, by decide⟩
theorem nx_ok {xs : List Int} (h : bytes.sp xs = true) (a : Nat) (s : Int) : 0 ≤ nx.sv xs a s ∧ nx.sv xs a s ≤ 255 := by
  unfold nx.sv
  have hb := byte h a
  cases decide (a < xs.length)
  · rw [cond_false]
    have hk : 0 ≤ iand.sv .u64 (ishr.sv .u64 (seed.sv xs a s) 40) 255 ∧ iand.sv .u64 (ishr.sv .u64 (seed.sv xs a s) 40) 255 ≤ 255 := by
      generalize ishr.sv .u64 (seed.sv xs a s) 40 = v
      have e : iand.sv .u64 v 255 = IntKind.u64.wrap (((BitVec.ofInt 64 v &&& BitVec.ofInt 64 255 : BitVec 64).toNat : Nat) : Int) := rfl
      have e2 : BitVec.ofInt 64 255 = BitVec.ofNat 64 255 := by decide +kernel
      have e3 : (BitVec.ofInt 64 v &&& BitVec.ofInt 64 255 : BitVec 64).toNat ≤ 255 := by
        rw [e2, BitVec.toNat_and, BitVec.toNat_ofNat]
        exact Nat.and_le_right
      rw [e, IntWalk.u64_in _ (by omega)]
      omega
    rw [IntWalk.i64_in _ (by omega)]
    exact hk
  · rw [cond_true, IntWalk.i64_in _ (by omega)]
    exact hb
theorem tmod_in {a n : Int} (h : 0 ≤ a) (hn : 0 < n) : 0 ≤ a.tmod n ∧ a.tmod n < n := by
  rw [Int.tmod_eq_emod_of_nonneg h]
  exact ⟨Int.emod_nonneg _ (by omega), Int.emod_lt_of_pos _ hn⟩
theorem go_in {xs : List Int} {most : Int} (h : bytes.sp xs = true) (hm : 0 < most) : ∀ (d a : Nat) (s : Int), ∀ x ∈ go.sv xs most d a s, 0 ≤ x ∧ x < most := by
  intro d
  induction d with
  | zero => intro a s x hx; cases hx
  | succ d ih =>
    intro a s x hx
    simp only [go.sv, List.mem_cons] at hx
    rcases hx with rfl | hx
    · exact tmod_in (nx_ok h a s).1 hm
    · exact ih _ _ x hx
theorem at_in {xs : List Int} (h : bytes.sp xs = true) (k n : Int) (hn : 0 < n) : 0 ≤ at.sv xs k n ∧ at.sv xs k n < n := by
  unfold at.sv
  have hb := byte h k.toNat
  cases decide (n ≤ 1) || decide ((xs.length : Int) ≤ k)
  · rw [cond_false, IntWalk.i64_in _ (by omega)]
    exact tmod_in hb.1 hn
  · rw [cond_true]; omega
theorem seed_end {xs : List Int} {a : Nat} (h : ¬ a < xs.length) (s : Int) : seed.sv xs a s = IntKind.u64.wrap (IntKind.u64.wrap (IntKind.u64.wrap (s * 6364136223846793005) + 0) + 1442695040888963407) := by
  unfold seed.sv b.sv
  rw [decide_eq_false h, cond_false]
  rfl
theorem seed_in {xs : List Int} {a : Nat} (h : a < xs.length) (s : Int) : seed.sv xs a s = IntKind.u64.wrap (IntKind.u64.wrap (IntKind.u64.wrap (s * 6364136223846793005) + IntKind.u64.wrap (IntKind.i64.wrap (gz xs a))) + 1442695040888963407) := by
  unfold seed.sv b.sv
  rw [decide_eq_true h, cond_true]
end r8

namespace r8Long
def R : List AVal → Option (Bool × AVal × List Blk)
  | [.ro (.ints .u8 xs) m 1, .ro (.ints .u8 ys) k 1] => some (true, .bool (decide ((48 : Int) < (m : Int)) || decide ((48 : Int) < (k : Int))), [])
  | _ => none
theorem go (xs ys : List Int) (m k : Nat) :
  runFn Try.prog (orc []) hd0 Dr.std none 0 (bodyOf Try.f7) 13 [4] [.ro (.ints .u8 xs) m 1, .ro (.ints .u8 ys) k 1] []
  = (bif decide ((48 : Int) < (↑m : Int)) then some (AVal.bool true, []) else some (AVal.bool (decide ((48 : Int) < (↑k : Int))), [])) := by kernel_rfl
theorem run : ∀ args v new, R args = some (true, v, new) → ∃ fuel, runFn Try.prog (orc []) hd0 Dr.std none fuel (bodyOf Try.f7) 13 [4] args [] = some (v, new) := by
  intro args v new h
  unfold R at h
  split at h
  · rename_i xs m ys k
    simp only [Option.some.injEq, Prod.mk.injEq, decide_eq_true_eq] at h
    obtain ⟨_, rfl, rfl⟩ := h
    refine ⟨0, ?_⟩
    rw [go]
    cases decide ((48 : Int) < (m : Int)) <;> rfl
  · cases h
theorem ok : EntOk Try.prog ⟨7, R⟩ :=
  ent_okA mixed (A := (orc [])) (orc_ok (by simp)) Try.func7 (by kernel_rfl) (by kernel_rfl) (n := 13) (ts := [4]) (hd := hd0) (dr := Dr.std) (cut := none) (by kernel_rfl) (by kernel_rfl) (by kernel_rfl) run
end r8Long

namespace r8At
def R : List AVal → Option (Bool × AVal × List Blk)
  | [.ro (.ints .u8 xs) m 1, .int .i64 k, .int .i64 n] => some (decide (m = xs.length ∧ 0 ≤ k), .int .i64 (r8.at.sv xs k n), [])
  | _ => none
theorem go (xs : List Int) (k n : Int) :
  runFn Try.prog (orc []) hd0 Dr.std none 0 (bodyOf Try.f9) 22 [6] [.ro (.ints .u8 xs) xs.length 1, .int .i64 k, .int .i64 n] []
  = (bif decide (n ≤ (1 : Int)) then some (AVal.int IntKind.i64 (0 : Int), []) else bif decide ((↑xs.length : Int) ≤ k) then some (AVal.int IntKind.i64 (0 : Int), []) else bif true && (decide ((0 : Int) ≤ k) && decide (k < (↑xs.length : Int))) then bif decide (k.toNat < xs.length) then bif !n == (0 : Int) then some (AVal.int IntKind.i64 ((IntKind.i64.wrap (gz xs k.toNat)).tmod n), []) else none else none else none) := by kernel_rfl
theorem run : ∀ args v new, R args = some (true, v, new) → ∃ fuel, runFn Try.prog (orc []) hd0 Dr.std none fuel (bodyOf Try.f9) 22 [6] args [] = some (v, new) := by
  intro args v new h
  unfold R at h
  split at h
  · rename_i xs m k n
    simp only [Option.some.injEq, Prod.mk.injEq, decide_eq_true_eq] at h
    obtain ⟨h, rfl, rfl⟩ := h
    refine ⟨0, ?_⟩
    obtain ⟨rfl, h1⟩ := h
    rw [go]
    unfold r8.at.sv
    by_cases c1 : n ≤ 1
    · simp -implicitDefEqProofs only [c1, decide_true, decide_false, Bool.and_self, Bool.or_self, Bool.and_true, Bool.true_and, Bool.and_false, Bool.false_and, Bool.or_true, Bool.true_or, Bool.or_false, Bool.false_or, Bool.not_true, Bool.not_false, cond_true, cond_false]
    · by_cases c2 : (xs.length : Int) ≤ k
      · simp -implicitDefEqProofs only [c1, c2, decide_true, decide_false, Bool.and_self, Bool.or_self, Bool.and_true, Bool.true_and, Bool.and_false, Bool.false_and, Bool.or_true, Bool.true_or, Bool.or_false, Bool.false_or, Bool.not_true, Bool.not_false, cond_true, cond_false]
      · have c3 : k < (xs.length : Int) := by omega
        have c4 : k.toNat < xs.length := by omega
        have c5 : (n == 0) = false := by rw [beq_eq_false_iff_ne]; omega
        simp -implicitDefEqProofs only [c1, c2, c3, c4, c5, h1, decide_true, decide_false, Bool.and_self, Bool.or_self, Bool.and_true, Bool.true_and, Bool.and_false, Bool.false_and, Bool.or_true, Bool.true_or, Bool.or_false, Bool.false_or, Bool.not_true, Bool.not_false, cond_true, cond_false]
  · cases h
theorem ok : EntOk Try.prog ⟨9, R⟩ :=
  ent_okA mixed (A := (orc [])) (orc_ok (by simp)) Try.func9 (by kernel_rfl) (by kernel_rfl) (n := 22) (ts := [6]) (hd := hd0) (dr := Dr.std) (cut := none) (by kernel_rfl) (by kernel_rfl) (by kernel_rfl) run
end r8At

namespace l00From
def R : List AVal → Option (Bool × AVal × List Blk)
  | [.ro (.ints .u8 xs) m 1] => some (true, .ptr 0 0 0, [⟨.cells [.ro (.ints .u8 xs) m 1, .int .i64 0, .int .u64 0], 0⟩])
  | _ => none
theorem go (xs : List Int) (m : Nat) :
  runFn Try.prog (orc []) hd0 Dr.std none 0 (bodyOf Try.f35) 6 [2] [.ro (.ints .u8 xs) m 1] []
  = (some (AVal.ptr (0 : Nat) (0 : Nat) (0 : Nat), [{ c := BC.cells [AVal.ro (Cont.ints IntKind.u8 xs) m (1 : Nat), AVal.int IntKind.i64 (0 : Int), AVal.int IntKind.u64 (0 : Int)], ver := (0 : Nat) }])) := by kernel_rfl
theorem run : ∀ args v new, R args = some (true, v, new) → ∃ fuel, runFn Try.prog (orc []) hd0 Dr.std none fuel (bodyOf Try.f35) 6 [2] args [] = some (v, new) := by
  intro args v new h
  unfold R at h
  split at h
  · rename_i xs m
    simp only [Option.some.injEq, Prod.mk.injEq, decide_eq_true_eq] at h
    obtain ⟨_, rfl, rfl⟩ := h
    refine ⟨0, ?_⟩
    rw [go]
    try rfl
  · cases h
theorem ok : EntOk Try.prog ⟨35, R⟩ :=
  ent_okA mixed (A := (orc [])) (orc_ok (by simp)) Try.func35 (by kernel_rfl) (by kernel_rfl) (n := 6) (ts := [2]) (hd := hd0) (dr := Dr.std) (cut := none) (by kernel_rfl) (by kernel_rfl) (by kernel_rfl) run
end l00From

namespace srcNext
def R : List AVal → Heap → Option (Bool × AVal × Heap)
  | [.ptr 0 0 0], [⟨.cells [.ro (.ints .u8 xs) m 1, .int .i64 a, .int .u64 s], 0⟩] => some (decide (m = xs.length ∧ m ≤ 1000000 ∧ 0 ≤ a ∧ a ≤ 1000000), .int .i64 (r8.nx.sv xs a.toNat s), [⟨.cells [.ro (.ints .u8 xs) m 1, .int .i64 (a + 1), .int .u64 (r8.seed.sv xs a.toNat s)], 0⟩])
  | _, _ => none
theorem go (xs : List Int) (a : Nat) (s : Int) :
  runFn Try.prog (orc []) hd0 Dr.std none 0 (bodyOf Try.f75) 62 [2] [.ptr 0 0 0] [⟨.cells [.ro (.ints .u8 xs) xs.length 1, .int .i64 (a : Int), .int .u64 s], 0⟩]
  = (bif true && true then bif true && true then bif true && true then bif decide ((↑a : Int) < (↑xs.length : Int)) then bif true && true then bif true && true then bif true && (decide ((0 : Int) ≤ (↑a : Int)) && decide ((↑a : Int) < (↑xs.length : Int))) then bif decide ((↑a : Int).toNat < xs.length) then bif true && true then bif true && true then bif true && true then bif true && true then bif decide (IntKind.i64.wrap ((↑a : Int) + (1 : Int)) ≤ (↑xs.length : Int)) then some (AVal.int IntKind.i64 (IntKind.i64.wrap (gz xs (↑a : Int).toNat)), [{ c := BC.cells [AVal.ro (Cont.ints IntKind.u8 xs) xs.length (1 : Nat), AVal.int IntKind.i64 (IntKind.i64.wrap ((↑a : Int) + (1 : Int))), AVal.int IntKind.u64 (IntKind.u64.wrap (IntKind.u64.wrap (IntKind.u64.wrap (s * (6364136223846793005 : Int)) + IntKind.u64.wrap (IntKind.i64.wrap (gz xs (↑a : Int).toNat))) + (1442695040888963407 : Int)))], ver := (0 : Nat) }]) else bif true && true then some (AVal.int IntKind.i64 (IntKind.i64.wrap (iand.sv IntKind.u64 (ishr.sv IntKind.u64 (IntKind.u64.wrap (IntKind.u64.wrap (IntKind.u64.wrap (s * (6364136223846793005 : Int)) + IntKind.u64.wrap (IntKind.i64.wrap (gz xs (↑a : Int).toNat))) + (1442695040888963407 : Int))) (40 : Int)) (255 : Int))), [{ c := BC.cells [AVal.ro (Cont.ints IntKind.u8 xs) xs.length (1 : Nat), AVal.int IntKind.i64 (IntKind.i64.wrap ((↑a : Int) + (1 : Int))), AVal.int IntKind.u64 (IntKind.u64.wrap (IntKind.u64.wrap (IntKind.u64.wrap (s * (6364136223846793005 : Int)) + IntKind.u64.wrap (IntKind.i64.wrap (gz xs (↑a : Int).toNat))) + (1442695040888963407 : Int)))], ver := (0 : Nat) }]) else none else none else none else none else none else none else none else none else none else bif true && true then bif true && true then bif true && true then bif true && true then bif decide (IntKind.i64.wrap ((↑a : Int) + (1 : Int)) ≤ (↑xs.length : Int)) then some (AVal.int IntKind.i64 (0 : Int), [{ c := BC.cells [AVal.ro (Cont.ints IntKind.u8 xs) xs.length (1 : Nat), AVal.int IntKind.i64 (IntKind.i64.wrap ((↑a : Int) + (1 : Int))), AVal.int IntKind.u64 (IntKind.u64.wrap (IntKind.u64.wrap (IntKind.u64.wrap (s * (6364136223846793005 : Int)) + (0 : Int)) + (1442695040888963407 : Int)))], ver := (0 : Nat) }]) else bif true && true then some (AVal.int IntKind.i64 (IntKind.i64.wrap (iand.sv IntKind.u64 (ishr.sv IntKind.u64 (IntKind.u64.wrap (IntKind.u64.wrap (IntKind.u64.wrap (s * (6364136223846793005 : Int)) + (0 : Int)) + (1442695040888963407 : Int))) (40 : Int)) (255 : Int))), [{ c := BC.cells [AVal.ro (Cont.ints IntKind.u8 xs) xs.length (1 : Nat), AVal.int IntKind.i64 (IntKind.i64.wrap ((↑a : Int) + (1 : Int))), AVal.int IntKind.u64 (IntKind.u64.wrap (IntKind.u64.wrap (IntKind.u64.wrap (s * (6364136223846793005 : Int)) + (0 : Int)) + (1442695040888963407 : Int)))], ver := (0 : Nat) }]) else none else none else none else none else none else none else none else none) := by kernel_rfl
theorem run : ∀ args H v new, R args H = some (true, v, new) → ∃ fuel, runFn Try.prog (orc []) hd0 Dr.std none fuel (bodyOf Try.f75) 62 [2] args H = some (v, new) := by
  intro args H v new h
  unfold R at h
  split at h
  · rename_i xs m a s
    simp only [Option.some.injEq, Prod.mk.injEq, decide_eq_true_eq] at h
    obtain ⟨⟨rfl, h1, h2, h3⟩, rfl, rfl⟩ := h
    obtain ⟨a, rfl⟩ : ∃ q : Nat, a = q := ⟨a.toNat, by omega⟩
    refine ⟨0, ?_⟩
    have wa : IntKind.i64.wrap ((a : Int) + 1) = (a : Int) + 1 := IntWalk.i64_in _ (by omega)
    have g0 : (0 : Int) ≤ (a : Int) := Int.natCast_nonneg _
    rw [go, Int.toNat_natCast]
    unfold r8.nx.sv
    by_cases c : a < xs.length
    · have c2 : (a : Int) < (xs.length : Int) := by omega
      have c3 : (a : Int) + 1 ≤ (xs.length : Int) := by omega
      rw [r8.seed_in c]
      simp -implicitDefEqProofs only [c, c2, c3, wa, g0, Int.toNat_natCast, decide_true, decide_false, Bool.and_self, Bool.or_self, Bool.and_true, Bool.true_and, Bool.and_false, Bool.false_and, Bool.or_true, Bool.true_or, Bool.or_false, Bool.false_or, Bool.not_true, Bool.not_false, cond_true, cond_false]
    · have c2 : ¬ ((a : Int) < (xs.length : Int)) := by omega
      have c3 : ¬ ((a : Int) + 1 ≤ (xs.length : Int)) := by omega
      rw [r8.seed_end c]
      simp -implicitDefEqProofs only [c, c2, c3, wa, g0, Int.toNat_natCast, decide_true, decide_false, Bool.and_self, Bool.or_self, Bool.and_true, Bool.true_and, Bool.and_false, Bool.false_and, Bool.or_true, Bool.true_or, Bool.or_false, Bool.false_or, Bool.not_true, Bool.not_false, cond_true, cond_false]
  · cases h
theorem ok : EntWOk Try.prog ⟨75, R⟩ :=
  entw_ok mixed (A := (orc [])) (orc_ok (by simp)) Try.func75 (by kernel_rfl) (by kernel_rfl) (n := 62) (ts := [2]) (hd := hd0) (dr := Dr.std) (cut := none) (by kernel_rfl) (by kernel_rfl) (by kernel_rfl) run
end srcNext

namespace srcPick
def R : List AVal → Heap → Option (Bool × AVal × Heap)
  | [.ptr 0 0 0, .int .i64 k], [⟨.cells [.ro (.ints .u8 xs) m 1, .int .i64 a, .int .u64 s], 0⟩] => some (decide (m = xs.length ∧ m ≤ 1000000 ∧ 0 ≤ a ∧ a ≤ 1000000 ∧ 2 ≤ k ∧ k ≤ 200), .int .i64 ((r8.nx.sv xs a.toNat s).tmod k), [⟨.cells [.ro (.ints .u8 xs) m 1, .int .i64 (a + 1), .int .u64 (r8.seed.sv xs a.toNat s)], 0⟩])
  | _, _ => none
theorem go (xs : List Int) (a s k : Int) :
  runFn Try.prog (orcW [⟨75, srcNext.R⟩] []) hd0 Dr.std none 0 (bodyOf Try.f37) 20 [4] [.ptr 0 0 0, .int .i64 k] [⟨.cells [.ro (.ints .u8 xs) xs.length 1, .int .i64 a, .int .u64 s], 0⟩]
  = (bif true && true then bif decide (k ≤ (1 : Int)) then some (AVal.int IntKind.i64 (0 : Int), [{ c := BC.cells [AVal.ro (Cont.ints IntKind.u8 xs) xs.length (1 : Nat), AVal.int IntKind.i64 a, AVal.int IntKind.u64 s], ver := (0 : Nat) }]) else bif decide (xs.length = xs.length ∧ xs.length ≤ (1000000 : Nat) ∧ (0 : Int) ≤ a ∧ a ≤ (1000000 : Int)) && (true && (true && true)) then bif decide ((200 : Int) < k) then bif decide (xs.length = xs.length ∧ xs.length ≤ (1000000 : Nat) ∧ (0 : Int) ≤ a + (1 : Int) ∧ a + (1 : Int) ≤ (1000000 : Int)) && (true && (true && true)) then bif !k == (0 : Int) then some (AVal.int IntKind.i64 ((IntKind.i64.wrap (IntKind.i64.wrap (r8.nx.sv xs a.toNat s * (256 : Int)) + r8.nx.sv xs (a + (1 : Int)).toNat (r8.seed.sv xs a.toNat s))).tmod k), [{ c := BC.cells [AVal.ro (Cont.ints IntKind.u8 xs) xs.length (1 : Nat), AVal.int IntKind.i64 (a + (1 : Int) + (1 : Int)), AVal.int IntKind.u64 (r8.seed.sv xs (a + (1 : Int)).toNat (r8.seed.sv xs a.toNat s))], ver := (0 : Nat) }]) else none else none else bif !k == (0 : Int) then some (AVal.int IntKind.i64 ((r8.nx.sv xs a.toNat s).tmod k), [{ c := BC.cells [AVal.ro (Cont.ints IntKind.u8 xs) xs.length (1 : Nat), AVal.int IntKind.i64 (a + (1 : Int)), AVal.int IntKind.u64 (r8.seed.sv xs a.toNat s)], ver := (0 : Nat) }]) else none else none else none) := by kernel_rfl
theorem run : ∀ args H v new, R args H = some (true, v, new) → ∃ fuel, runFn Try.prog (orcW [⟨75, srcNext.R⟩] []) hd0 Dr.std none fuel (bodyOf Try.f37) 20 [4] args H = some (v, new) := by
  intro args H v new h
  unfold R at h
  split at h
  · rename_i k xs m a s
    simp only [Option.some.injEq, Prod.mk.injEq, decide_eq_true_eq] at h
    obtain ⟨⟨rfl, h1, h2, h3, h4, h5⟩, rfl, rfl⟩ := h
    refine ⟨0, ?_⟩
    have c1 : ¬ (k ≤ 1) := by omega
    have c2 : ¬ (200 < k) := by omega
    have c3 : (k == 0) = false := by rw [beq_eq_false_iff_ne]; omega
    rw [go]
    simp -implicitDefEqProofs only [h1, h2, h3, c1, c2, c3, and_self, eq_self, decide_true, decide_false, Bool.and_self, Bool.or_self, Bool.and_true, Bool.true_and, Bool.and_false, Bool.false_and, Bool.or_true, Bool.true_or, Bool.or_false, Bool.false_or, Bool.not_true, Bool.not_false, cond_true, cond_false]
  · cases h
theorem ok : EntWOk Try.prog ⟨37, R⟩ :=
  entw_ok mixed (A := (orcW [⟨75, srcNext.R⟩] [])) (orcW_ok (by simp only [List.mem_cons, List.not_mem_nil, or_false, forall_eq_or_imp, forall_eq]; exact srcNext.ok) (by simp)) Try.func37 (by kernel_rfl) (by kernel_rfl) (n := 20) (ts := [4]) (hd := hd0) (dr := Dr.std) (cut := none) (by kernel_rfl) (by kernel_rfl) (by kernel_rfl) run
end srcPick

namespace R8Below
def R : List AVal → Option (Bool × AVal × List Blk)
  | [.ro (.ints .u8 xs) m 1, .int .i64 k, .int .i64 w] => some (decide (m = xs.length ∧ m ≤ 1000000 ∧ 0 ≤ k ∧ k ≤ 1000 ∧ 2 ≤ w ∧ w ≤ 200), .own 0 0 (r8.bel.sv xs k.toNat w).length 0 1, [⟨.typ (.ints .i64 (r8.bel.sv xs k.toNat w)), 0⟩])
  | _ => none
def hd : Nat → Head := fun _ => ⟨[1, 2, 7, 8], some 2⟩
noncomputable def L (f n : Nat) (s : State) := loopAt Try.prog (orcW [⟨37, srcPick.R⟩] [⟨35, l00From.R⟩]) hd Dr.std 0 f (bodyOf Try.f27) 0 [true, true, true, false] (retK Try.prog [6] 0 none) n s
theorem start (xs : List Int) (k w : Int) (f : Nat) :
  runFn Try.prog (orcW [⟨37, srcPick.R⟩] [⟨35, l00From.R⟩]) hd Dr.std none f (bodyOf Try.f27) 23 [6] [.ro (.ints .u8 xs) xs.length 1, .int .i64 k, .int .i64 w] []
  = (bif true && (true && true || true && (false && true && true)) then L f f (mkS (23 : Nat) [((1 : Nat), AVal.int IntKind.i64 k), ((2 : Nat), AVal.int IntKind.i64 w), ((7 : Nat), AVal.ptr (0 : Nat) (0 : Nat) (0 : Nat)), ((8 : Nat), AVal.own (1 : Nat) (0 : Nat) (0 : Nat) (0 : Nat) (1 : Nat))] [{ c := BC.cells [AVal.ro (Cont.ints IntKind.u8 xs) xs.length (1 : Nat), AVal.int IntKind.i64 (0 : Int), AVal.int IntKind.u64 (0 : Int)], ver := (0 : Nat) }, { c := BC.typ (Cont.ints IntKind.i64 (List.replicate (0 : Nat) (0 : Int))), ver := (0 : Nat) }]) else none) := by kernel_rfl
theorem round (xs os : List Int) (k w a s : Int) (q f n : Nat) :
  L f (n + 1) (mkS 23 [(1, .int .i64 k), (2, .int .i64 w), (7, .ptr 0 0 0), (8, .own 1 0 q 0 1)] [⟨.cells [.ro (.ints .u8 xs) xs.length 1, .int .i64 a, .int .u64 s], 0⟩, ⟨.typ (.ints .i64 os), 0⟩])
  = (bif decide ((0 : Int) < k) then bif decide (xs.length = xs.length ∧ xs.length ≤ (1000000 : Nat) ∧ (0 : Int) ≤ a ∧ a ≤ (1000000 : Int) ∧ (2 : Int) ≤ w ∧ w ≤ (200 : Int)) && (true && (true && true)) then bif (1 : Nat) == (1 : Nat) && (1 : Nat) == (1 : Nat) && (true && (true && true) && (true && true && (decide (q + (List.take (1 : Nat) (List.drop (0 : Nat) ((List.replicate (1 : Nat) (0 : Int)).set (0 : Nat) ((r8.nx.sv xs a.toNat s).tmod w)))).length ≤ (4611686018427387904 : Nat)) && decide ((q + (List.take (1 : Nat) (List.drop (0 : Nat) ((List.replicate (1 : Nat) (0 : Int)).set (0 : Nat) ((r8.nx.sv xs a.toNat s).tmod w)))).length) * (8 : Nat) ≤ (140737488355328 : Nat))))) then L f n (mkS (23 : Nat) [((1 : Nat), AVal.int IntKind.i64 (IntKind.i64.wrap (k - (1 : Int)))), ((2 : Nat), AVal.int IntKind.i64 w), ((7 : Nat), AVal.ptr (0 : Nat) (0 : Nat) (0 : Nat)), ((8 : Nat), AVal.own (1 : Nat) (0 : Nat) (q + (List.take (1 : Nat) (List.drop (0 : Nat) ((List.replicate (1 : Nat) (0 : Int)).set (0 : Nat) ((r8.nx.sv xs a.toNat s).tmod w)))).length) (0 : Nat) (1 : Nat))] [{ c := BC.cells [AVal.ro (Cont.ints IntKind.u8 xs) xs.length (1 : Nat), AVal.int IntKind.i64 (a + (1 : Int)), AVal.int IntKind.u64 (r8.seed.sv xs a.toNat s)], ver := (0 : Nat) }, { c := BC.typ (Cont.ints IntKind.i64 (List.take q os ++ List.take (1 : Nat) (List.drop (0 : Nat) ((List.replicate (1 : Nat) (0 : Int)).set (0 : Nat) ((r8.nx.sv xs a.toNat s).tmod w))))), ver := (0 : Nat) }]) else none else none else some (AVal.own (1 : Nat) (0 : Nat) q (0 : Nat) (1 : Nat), [{ c := BC.cells [AVal.ro (Cont.ints IntKind.u8 xs) xs.length (1 : Nat), AVal.int IntKind.i64 a, AVal.int IntKind.u64 s], ver := (0 : Nat) }, { c := BC.typ (Cont.ints IntKind.i64 os), ver := (0 : Nat) }])) := by kernel_rfl
theorem loop (xs : List Int) (w : Int) (f : Nat) (hx : xs.length ≤ 1000000) (hw : 2 ≤ w) (hw2 : w ≤ 200) : ∀ (d n a : Nat) (s : Int) (os : List Int), d ≤ 1000 → os.length + d ≤ 1000 → a + d ≤ 1000 → d < n →
    ∃ C, L f n (mkS 23 [(1, .int .i64 ((d : Nat) : Int)), (2, .int .i64 w), (7, .ptr 0 0 0), (8, .own 1 0 os.length 0 1)] [⟨.cells [.ro (.ints .u8 xs) xs.length 1, .int .i64 ((a : Nat) : Int), .int .u64 s], 0⟩, ⟨.typ (.ints .i64 os), 0⟩]) = some (.own 1 0 (os.length + d) 0 1, [C, ⟨.typ (.ints .i64 (os ++ r8.go.sv xs w d a s)), 0⟩]) := by
  intro d
  induction d with
  | zero =>
    intro n a s os hd hl ha hn
    obtain ⟨n, rfl⟩ : ∃ k, n = k + 1 := ⟨n - 1, by omega⟩
    have c : ¬ ((0 : Int) < ((0 : Nat) : Int)) := by omega
    refine ⟨⟨.cells [.ro (.ints .u8 xs) xs.length 1, .int .i64 ((a : Nat) : Int), .int .u64 s], 0⟩, ?_⟩
    rw [round]
    simp -implicitDefEqProofs only [c, r8.go.sv, List.append_nil, Nat.add_zero, decide_true, decide_false, Bool.and_self, Bool.or_self, Bool.and_true, Bool.true_and, Bool.and_false, Bool.false_and, Bool.or_true, Bool.true_or, Bool.or_false, Bool.false_or, Bool.not_true, Bool.not_false, cond_true, cond_false]
  | succ d ih =>
    intro n a s os hd hl ha hn
    obtain ⟨n, rfl⟩ : ∃ k, n = k + 1 := ⟨n - 1, by omega⟩
    have c : (0 : Int) < ((d + 1 : Nat) : Int) := by omega
    have wd : IntKind.i64.wrap (((d + 1 : Nat) : Int) - 1) = (d : Int) := by rw [IntWalk.i64_in _ (by omega)]; omega
    have a0 : (0 : Int) ≤ (a : Int) := Int.natCast_nonneg _
    have a1 : (a : Int) ≤ 1000000 := by omega
    have k0 : os.length + 1 ≤ 4611686018427387904 := by omega
    have k1 : (os.length + 1) * 8 ≤ 140737488355328 := by omega
    have ht : os.take os.length = os := List.take_length
    have one : ∀ v : Int, (List.replicate 1 (0 : Int)).set 0 v = [v] := fun v => rfl
    obtain ⟨C, hC⟩ := ih n (a + 1) (r8.seed.sv xs a s) (os ++ [(r8.nx.sv xs a s).tmod w]) (by omega) (by rw [List.length_append, List.length_singleton]; omega) (by omega) (by omega)
    refine ⟨C, ?_⟩
    rw [round]
    simp -implicitDefEqProofs only [c, wd, a0, a1, hx, hw, hw2, k0, k1, ht, one, List.drop_zero, List.take_length, List.length_singleton, List.take_succ_cons, List.take_zero, Nat.reduceBEq, Int.toNat_natCast, and_self, eq_self, decide_true, decide_false, Bool.and_self, Bool.or_self, Bool.and_true, Bool.true_and, Bool.and_false, Bool.false_and, Bool.or_true, Bool.true_or, Bool.or_false, Bool.false_or, Bool.not_true, Bool.not_false, cond_true, cond_false]
    rw [List.length_append, List.length_singleton, List.append_assoc] at hC
    rw [show os.length + (d + 1) = os.length + 1 + d from by omega]
    exact hC
theorem run : ∀ args v new, R args = some (true, v, new) → ∃ fuel, regc [1] (runFn Try.prog (orcW [⟨37, srcPick.R⟩] [⟨35, l00From.R⟩]) hd Dr.std none fuel (bodyOf Try.f27) 23 [6] args []) = some (v, new) := by
  intro args v new h
  unfold R at h
  split at h
  · rename_i xs m k w
    simp only [Option.some.injEq, Prod.mk.injEq, decide_eq_true_eq] at h
    obtain ⟨⟨rfl, h1, h2, h3, h4, h5⟩, rfl, rfl⟩ := h
    obtain ⟨k, rfl⟩ : ∃ q : Nat, k = q := ⟨k.toNat, by omega⟩
    obtain ⟨F, hF⟩ : ∃ F : Nat, F = 2000 := ⟨2000, rfl⟩
    refine ⟨F, ?_⟩
    obtain ⟨C, hC⟩ := loop xs w F h1 h4 h5 k F 0 0 [] (by omega) (by simp; omega) (by omega) (by omega)
    have hl : (r8.bel.sv xs k w).length = k := r8.go_length _ _ _ _ _
    rw [start, Int.toNat_natCast, hl]
    simp only [List.length_nil, Nat.zero_add, List.nil_append] at hC
    exact (congrArg (regc [1]) hC).trans rfl
  · cases h
theorem ok : EntOk Try.prog ⟨27, R⟩ :=
  ent_okAG (ks := [1]) mixed (A := (orcW [⟨37, srcPick.R⟩] [⟨35, l00From.R⟩])) (orcW_ok (by simp only [List.mem_cons, List.not_mem_nil, or_false, forall_eq_or_imp, forall_eq]; exact srcPick.ok) (by simp only [List.mem_cons, List.not_mem_nil, or_false, forall_eq_or_imp, forall_eq]; exact l00From.ok)) Try.func27 (by kernel_rfl) (by kernel_rfl) (n := 23) (ts := [6]) (hd := hd) (dr := Dr.std) (cut := none) (by kernel_rfl) (by kernel_rfl) (by kernel_rfl) run
end R8Below


end Go.Proofs.Ytgblgofmdhekiaa.Ab
