/-
  Functions: what the laws draw from bytes.
-/
import Derived.Test.YtjhofofieiiplaaGreatDoorFnE
namespace Go.Proofs.YtjhofofieiiplaaGreatDoor.Ab
open Go
set_option linter.unusedVariables false
set_option linter.unusedSimpArgs false
set_option maxRecDepth 100000

namespace r8
def at.sv (xs : List Int) (k n : Int) : Int := bif decide (n ≤ 1) || decide ((xs.length : Int) ≤ k) then 0 else (IntKind.i64.wrap (gz xs k.toNat)).tmod n
/-- The next byte, or what a simple sequence goes on with. -/
def b.sv (xs : List Int) (a : Nat) : Int := bif decide (a < xs.length) then gz xs a else 0
def seed.sv (xs : List Int) (a : Nat) (s : Int) : Int := IntKind.u64.wrap (IntKind.u64.wrap (IntKind.u64.wrap (s * 6364136223846793005) + IntKind.u64.wrap (IntKind.i64.wrap (b.sv xs a))) + 1442695040888963407)
def nx.sv (xs : List Int) (a : Nat) (s : Int) : Int := bif decide (a < xs.length) then IntKind.i64.wrap (gz xs a) else IntKind.i64.wrap (iand.sv .u64 (ishr.sv .u64 (seed.sv xs a s) 40) 255)
end r8

namespace r8
def go.sv (xs : List Int) (most : Int) : Nat → Nat → Int → List Int
  | 0, _, _ => []
  | d + 1, a, s => (nx.sv xs a s).tmod most :: go.sv xs most d (a + 1) (seed.sv xs a s)
def bel.sv (xs : List Int) (n : Nat) (most : Int) : List Int := go.sv xs most n 0 0
theorem go_length (xs : List Int) (most : Int) : ∀ (d a : Nat) (s : Int), (go.sv xs most d a s).length = d := by
  intro d
  induction d with
  | zero => intro a s; rfl
  | succ d ih => intro a s; simp only [go.sv, List.length_cons, ih]
/-- Bytes. -/
def bytes.sp (xs : List Int) : Bool := xs.all fun x => decide (0 ≤ x) && decide (x ≤ 255)
theorem byte {xs : List Int} (h : bytes.sp xs = true) (i : Nat) : 0 ≤ gz xs i ∧ gz xs i ≤ 255 := by
  by_cases hi : i < xs.length
  · rw [gz_eq hi]
    have := List.all_eq_true.1 h _ (List.getElem_mem hi)
    simpa using this
  · unfold gz
    rw [List.getD_eq_getElem?_getD, List.getElem?_eq_none (by omega)]
    exact ⟨by decide, by decide⟩
theorem nx_ok {xs : List Int} (h : bytes.sp xs = true) (a : Nat) (s : Int) : 0 ≤ nx.sv xs a s ∧ nx.sv xs a s ≤ 255 := by
  unfold nx.sv
  have hb := byte h a
  cases decide (a < xs.length)
  · rw [cond_false]
    have hk : 0 ≤ iand.sv .u64 (ishr.sv .u64 (seed.sv xs a s) 40) 255 ∧ iand.sv .u64 (ishr.sv .u64 (seed.sv xs a s) 40) 255 ≤ 255 := by
      generalize ishr.sv .u64 (seed.sv xs a s) 40 = v
      have e : iand.sv .u64 v 255 = IntKind.u64.wrap (((BitVec.ofInt 64 v &&& BitVec.ofInt 64 255 : BitVec 64).toNat : Nat) : Int) := rfl
      have e2 : BitVec.ofInt 64 255 = BitVec.ofNat 64 255 := by decide +kernel
      have e3 : (BitVec.ofInt 64 v &&& BitVec.ofInt 64 255 : BitVec 64).toNat ≤ 255 := by
        rw [e2, BitVec.toNat_and, BitVec.toNat_ofNat]
        exact Nat.and_le_right
      rw [e, IntWalk.u64_in _ (by omega)]
      omega
    rw [IntWalk.i64_in _ (by omega)]
    exact hk
  · rw [cond_true, IntWalk.i64_in _ (by omega)]
    exact hb
theorem tmod_in {a n : Int} (h : 0 ≤ a) (hn : 0 < n) : 0 ≤ a.tmod n ∧ a.tmod n < n := by
  rw [Int.tmod_eq_emod_of_nonneg h]
  exact ⟨Int.emod_nonneg _ (by omega), Int.emod_lt_of_pos _ hn⟩
theorem go_in {xs : List Int} {most : Int} (h : bytes.sp xs = true) (hm : 0 < most) : ∀ (d a : Nat) (s : Int), ∀ x ∈ go.sv xs most d a s, 0 ≤ x ∧ x < most := by
  intro d
  induction d with
  | zero => intro a s x hx; cases hx
  | succ d ih =>
    intro a s x hx
    simp only [go.sv, List.mem_cons] at hx
    rcases hx with rfl | hx
    · exact tmod_in (nx_ok h a s).1 hm
    · exact ih _ _ x hx
theorem at_in {xs : List Int} (h : bytes.sp xs = true) (k n : Int) (hn : 0 < n) : 0 ≤ at.sv xs k n ∧ at.sv xs k n < n := by
  unfold at.sv
  have hb := byte h k.toNat
  cases decide (n ≤ 1) || decide ((xs.length : Int) ≤ k)
  · rw [cond_false, IntWalk.i64_in _ (by omega)]
    exact tmod_in hb.1 hn
  · rw [cond_true]; omega
theorem seed_end {xs : List Int} {a : Nat} (h : ¬ a < xs.length) (s : Int) : seed.sv xs a s = IntKind.u64.wrap (IntKind.u64.wrap (IntKind.u64.wrap (s * 6364136223846793005) + 0) + 1442695040888963407) := by
  unfold seed.sv b.sv
  rw [decide_eq_false h, cond_false]
  rfl
theorem seed_in {xs : List Int} {a : Nat} (h : a < xs.length) (s : Int) : seed.sv xs a s = IntKind.u64.wrap (IntKind.u64.wrap (IntKind.u64.wrap (s * 6364136223846793005) + IntKind.u64.wrap (IntKind.i64.wrap (gz xs a))) + 1442695040888963407) := by
  unfold seed.sv b.sv
  rw [decide_eq_true h, cond_true]
end r8



namespace l00From
def R : List AVal → Option (Bool × AVal × List Blk)
  | [.ro (.ints .u8 xs) m 1] => some (true, .ptr 0 0 0, [⟨.cells [.ro (.ints .u8 xs) m 1, .int .i64 0, .int .u64 0], 0⟩])
  | _ => none
theorem go (xs : List Int) (m : Nat) :
  runFn Tryz.prog (orc []) hd0 Dr.std none 0 (bodyOf Tryz.f38) 6 [2] [.ro (.ints .u8 xs) m 1] []
  = (some (AVal.ptr (0 : Nat) (0 : Nat) (0 : Nat), [{ c := BC.cells [AVal.ro (Cont.ints IntKind.u8 xs) m (1 : Nat), AVal.int IntKind.i64 (0 : Int), AVal.int IntKind.u64 (0 : Int)], ver := (0 : Nat) }])) := by kernel_rfl
theorem run : ∀ args v new, R args = some (true, v, new) → ∃ fuel, runFn Tryz.prog (orc []) hd0 Dr.std none fuel (bodyOf Tryz.f38) 6 [2] args [] = some (v, new) := by
  intro args v new h
  unfold R at h
  split at h
  · rename_i xs m
    simp only [Option.some.injEq, Prod.mk.injEq, decide_eq_true_eq] at h
    obtain ⟨_, rfl, rfl⟩ := h
    refine ⟨0, ?_⟩
    rw [go]
    try rfl
  · cases h
theorem ok : EntOk Tryz.prog ⟨38, R⟩ :=
  ent_okA mixed (A := (orc [])) (orc_ok (by simp)) Tryz.func38 (by kernel_rfl) (by kernel_rfl) (n := 6) (ts := [2]) (hd := hd0) (dr := Dr.std) (cut := none) (by kernel_rfl) (by kernel_rfl) (by kernel_rfl) run
end l00From

namespace srcNext
def R : List AVal → Heap → Option (Bool × AVal × Heap)
  | [.ptr 0 0 0], [⟨.cells [.ro (.ints .u8 xs) m 1, .int .i64 a, .int .u64 s], 0⟩] => some (decide (m = xs.length ∧ m ≤ 1000000 ∧ 0 ≤ a ∧ a ≤ 1000000), .int .i64 (r8.nx.sv xs a.toNat s), [⟨.cells [.ro (.ints .u8 xs) m 1, .int .i64 (a + 1), .int .u64 (r8.seed.sv xs a.toNat s)], 0⟩])
  | _, _ => none
theorem go (xs : List Int) (a : Nat) (s : Int) :
  runFn Tryz.prog (orc []) hd0 Dr.std none 0 (bodyOf Tryz.f68) 62 [2] [.ptr 0 0 0] [⟨.cells [.ro (.ints .u8 xs) xs.length 1, .int .i64 (a : Int), .int .u64 s], 0⟩]
  = (bif true && true then bif true && true then bif true && true then bif decide ((↑a : Int) < (↑xs.length : Int)) then bif true && true then bif true && true then bif true && (decide ((0 : Int) ≤ (↑a : Int)) && decide ((↑a : Int) < (↑xs.length : Int))) then bif decide ((↑a : Int).toNat < xs.length) then bif true && true then bif true && true then bif true && true then bif true && true then bif decide (IntKind.i64.wrap ((↑a : Int) + (1 : Int)) ≤ (↑xs.length : Int)) then some (AVal.int IntKind.i64 (IntKind.i64.wrap (gz xs (↑a : Int).toNat)), [{ c := BC.cells [AVal.ro (Cont.ints IntKind.u8 xs) xs.length (1 : Nat), AVal.int IntKind.i64 (IntKind.i64.wrap ((↑a : Int) + (1 : Int))), AVal.int IntKind.u64 (IntKind.u64.wrap (IntKind.u64.wrap (IntKind.u64.wrap (s * (6364136223846793005 : Int)) + IntKind.u64.wrap (IntKind.i64.wrap (gz xs (↑a : Int).toNat))) + (1442695040888963407 : Int)))], ver := (0 : Nat) }]) else bif true && true then some (AVal.int IntKind.i64 (IntKind.i64.wrap (iand.sv IntKind.u64 (ishr.sv IntKind.u64 (IntKind.u64.wrap (IntKind.u64.wrap (IntKind.u64.wrap (s * (6364136223846793005 : Int)) + IntKind.u64.wrap (IntKind.i64.wrap (gz xs (↑a : Int).toNat))) + (1442695040888963407 : Int))) (40 : Int)) (255 : Int))), [{ c := BC.cells [AVal.ro (Cont.ints IntKind.u8 xs) xs.length (1 : Nat), AVal.int IntKind.i64 (IntKind.i64.wrap ((↑a : Int) + (1 : Int))), AVal.int IntKind.u64 (IntKind.u64.wrap (IntKind.u64.wrap (IntKind.u64.wrap (s * (6364136223846793005 : Int)) + IntKind.u64.wrap (IntKind.i64.wrap (gz xs (↑a : Int).toNat))) + (1442695040888963407 : Int)))], ver := (0 : Nat) }]) else none else none else none else none else none else none else none else none else none else bif true && true then bif true && true then bif true && true then bif true && true then bif decide (IntKind.i64.wrap ((↑a : Int) + (1 : Int)) ≤ (↑xs.length : Int)) then some (AVal.int IntKind.i64 (0 : Int), [{ c := BC.cells [AVal.ro (Cont.ints IntKind.u8 xs) xs.length (1 : Nat), AVal.int IntKind.i64 (IntKind.i64.wrap ((↑a : Int) + (1 : Int))), AVal.int IntKind.u64 (IntKind.u64.wrap (IntKind.u64.wrap (IntKind.u64.wrap (s * (6364136223846793005 : Int)) + (0 : Int)) + (1442695040888963407 : Int)))], ver := (0 : Nat) }]) else bif true && true then some (AVal.int IntKind.i64 (IntKind.i64.wrap (iand.sv IntKind.u64 (ishr.sv IntKind.u64 (IntKind.u64.wrap (IntKind.u64.wrap (IntKind.u64.wrap (s * (6364136223846793005 : Int)) + (0 : Int)) + (1442695040888963407 : Int))) (40 : Int)) (255 : Int))), [{ c := BC.cells [AVal.ro (Cont.ints IntKind.u8 xs) xs.length (1 : Nat), AVal.int IntKind.i64 (IntKind.i64.wrap ((↑a : Int) + (1 : Int))), AVal.int IntKind.u64 (IntKind.u64.wrap (IntKind.u64.wrap (IntKind.u64.wrap (s * (6364136223846793005 : Int)) + (0 : Int)) + (1442695040888963407 : Int)))], ver := (0 : Nat) }]) else none else none else none else none else none else none else none else none) := by kernel_rfl
theorem run : ∀ args H v new, R args H = some (true, v, new) → ∃ fuel, runFn Tryz.prog (orc []) hd0 Dr.std none fuel (bodyOf Tryz.f68) 62 [2] args H = some (v, new) := by
  intro args H v new h
  unfold R at h
  split at h
  · rename_i xs m a s
    simp only [Option.some.injEq, Prod.mk.injEq, decide_eq_true_eq] at h
    obtain ⟨⟨rfl, h1, h2, h3⟩, rfl, rfl⟩ := h
    obtain ⟨a, rfl⟩ : ∃ q : Nat, a = q := ⟨a.toNat, by omega⟩
    refine ⟨0, ?_⟩
    have wa : IntKind.i64.wrap ((a : Int) + 1) = (a : Int) + 1 := IntWalk.i64_in _ (by omega)
    have g0 : (0 : Int) ≤ (a : Int) := Int.natCast_nonneg _
    rw [go, Int.toNat_natCast]
    unfold r8.nx.sv
    by_cases c : a < xs.length
    · have c2 : (a : Int) < (xs.length : Int) := by omega
      have c3 : (a : Int) + 1 ≤ (xs.length : Int) := by omega
      rw [r8.seed_in c]
      simp -implicitDefEqProofs only [c, c2, c3, wa, g0, Int.toNat_natCast, decide_true, decide_false, Bool.and_self, Bool.or_self, Bool.and_true, Bool.true_and, Bool.and_false, Bool.false_and, Bool.or_true, Bool.true_or, Bool.or_false, Bool.false_or, Bool.not_true, Bool.not_false, cond_true, cond_false]
    · have c2 : ¬ ((a : Int) < (xs.length : Int)) := by omega
      have c3 : ¬ ((a : Int) + 1 ≤ (xs.length : Int)) := by omega
      rw [r8.seed_end c]
      simp -implicitDefEqProofs only [c, c2, c3, wa, g0, Int.toNat_natCast, decide_true, decide_false, Bool.and_self, Bool.or_self, Bool.and_true, Bool.true_and, Bool.and_false, Bool.false_and, Bool.or_true, Bool.true_or, Bool.or_false, Bool.false_or, Bool.not_true, Bool.not_false, cond_true, cond_false]
  · cases h
theorem ok : EntWOk Tryz.prog ⟨68, R⟩ :=
  entw_ok mixed (A := (orc [])) (orc_ok (by simp)) Tryz.func68 (by kernel_rfl) (by kernel_rfl) (n := 62) (ts := [2]) (hd := hd0) (dr := Dr.std) (cut := none) (by kernel_rfl) (by kernel_rfl) (by kernel_rfl) run
end srcNext

namespace srcPick
def R : List AVal → Heap → Option (Bool × AVal × Heap)
  | [.ptr 0 0 0, .int .i64 k], [⟨.cells [.ro (.ints .u8 xs) m 1, .int .i64 a, .int .u64 s], 0⟩] => some (decide (m = xs.length ∧ m ≤ 1000000 ∧ 0 ≤ a ∧ a ≤ 1000000 ∧ 2 ≤ k ∧ k ≤ 200), .int .i64 ((r8.nx.sv xs a.toNat s).tmod k), [⟨.cells [.ro (.ints .u8 xs) m 1, .int .i64 (a + 1), .int .u64 (r8.seed.sv xs a.toNat s)], 0⟩])
  | _, _ => none
theorem go (xs : List Int) (a s k : Int) :
  runFn Tryz.prog (orcW [⟨68, srcNext.R⟩] []) hd0 Dr.std none 0 (bodyOf Tryz.f39) 20 [4] [.ptr 0 0 0, .int .i64 k] [⟨.cells [.ro (.ints .u8 xs) xs.length 1, .int .i64 a, .int .u64 s], 0⟩]
  = (bif true && true then bif decide (k ≤ (1 : Int)) then some (AVal.int IntKind.i64 (0 : Int), [{ c := BC.cells [AVal.ro (Cont.ints IntKind.u8 xs) xs.length (1 : Nat), AVal.int IntKind.i64 a, AVal.int IntKind.u64 s], ver := (0 : Nat) }]) else bif decide (xs.length = xs.length ∧ xs.length ≤ (1000000 : Nat) ∧ (0 : Int) ≤ a ∧ a ≤ (1000000 : Int)) && (true && (true && true)) then bif decide ((200 : Int) < k) then bif decide (xs.length = xs.length ∧ xs.length ≤ (1000000 : Nat) ∧ (0 : Int) ≤ a + (1 : Int) ∧ a + (1 : Int) ≤ (1000000 : Int)) && (true && (true && true)) then bif !k == (0 : Int) then some (AVal.int IntKind.i64 ((IntKind.i64.wrap (IntKind.i64.wrap (r8.nx.sv xs a.toNat s * (256 : Int)) + r8.nx.sv xs (a + (1 : Int)).toNat (r8.seed.sv xs a.toNat s))).tmod k), [{ c := BC.cells [AVal.ro (Cont.ints IntKind.u8 xs) xs.length (1 : Nat), AVal.int IntKind.i64 (a + (1 : Int) + (1 : Int)), AVal.int IntKind.u64 (r8.seed.sv xs (a + (1 : Int)).toNat (r8.seed.sv xs a.toNat s))], ver := (0 : Nat) }]) else none else none else bif !k == (0 : Int) then some (AVal.int IntKind.i64 ((r8.nx.sv xs a.toNat s).tmod k), [{ c := BC.cells [AVal.ro (Cont.ints IntKind.u8 xs) xs.length (1 : Nat), AVal.int IntKind.i64 (a + (1 : Int)), AVal.int IntKind.u64 (r8.seed.sv xs a.toNat s)], ver := (0 : Nat) }]) else none else none else none) := by kernel_rfl
theorem run : ∀ args H v new, R args H = some (true, v, new) → ∃ fuel, runFn Tryz.prog (orcW [⟨68, srcNext.R⟩] []) hd0 Dr.std none fuel (bodyOf Tryz.f39) 20 [4] args H = some (v, new) := by
  intro args H v new h
  unfold R at h
  split at h
  · rename_i k xs m a s
    simp only [Option.some.injEq, Prod.mk.injEq, decide_eq_true_eq] at h
    obtain ⟨⟨rfl, h1, h2, h3, h4, h5⟩, rfl, rfl⟩ := h
    refine ⟨0, ?_⟩
    have c1 : ¬ (k ≤ 1) := by omega
    have c2 : ¬ (200 < k) := by omega
    have c3 : (k == 0) = false := by rw [beq_eq_false_iff_ne]; omega
    rw [go]
    simp -implicitDefEqProofs only [h1, h2, h3, c1, c2, c3, and_self, eq_self, decide_true, decide_false, Bool.and_self, Bool.or_self, Bool.and_true, Bool.true_and, Bool.and_false, Bool.false_and, Bool.or_true, Bool.true_or, Bool.or_false, Bool.false_or, Bool.not_true, Bool.not_false, cond_true, cond_false]
  · cases h
theorem ok : EntWOk Tryz.prog ⟨39, R⟩ :=
  entw_ok mixed (A := (orcW [⟨68, srcNext.R⟩] [])) (orcW_ok (by simp only [List.mem_cons, List.not_mem_nil, or_false, forall_eq_or_imp, forall_eq]; exact srcNext.ok) (by simp)) Tryz.func39 (by kernel_rfl) (by kernel_rfl) (n := 20) (ts := [4]) (hd := hd0) (dr := Dr.std) (cut := none) (by kernel_rfl) (by kernel_rfl) (by kernel_rfl) run
end srcPick



end Go.Proofs.YtjhofofieiiplaaGreatDoor.Ab
