/-
  Functions: potentials of crowds.
-/
import Derived.Test.YtgeglpommdckgaaFnR
import Derived.Test.YtgeglpommdckgaaFnD
namespace Go.Proofs.Ytgeglpommdckgaa.Ab
open Go
set_option linter.unusedVariables false
set_option linter.unusedSimpArgs false
set_option maxRecDepth 100000

namespace pot
/-- What a road costs each of so many. -/
def cost.sv (u : Int) (cs : List Int) (j k : Int) : Int := gz cs (j * u + k - 1).toNat
/-- The sum, from 'k' users on, of 'n' more. -/
def ps (u : Int) (cs : List Int) (j : Int) : Nat → Int → Int → Int
  | 0, _, acc => acc
  | n + 1, k, acc => ps u cs j n (k + 1) (IntKind.i64.wrap (acc + cost.sv u cs j k))
def pl (u : Int) (cs : List Int) : List Int → Nat → Int → Int
  | [], _, acc => acc
  | y :: t, j, acc => pl u cs t (j + 1) (ps u cs j y.toNat 1 acc)
def sv (u r : Int) (ws cs xs : List Int) : Int := bif load.sp u r ws cs xs then pl u cs (load.sv r ws xs) 0 0 else 0
theorem bit_le (w j : Int) : 0 ≤ load.bit.sv w j ∧ load.bit.sv w j ≤ 1 := by
  unfold load.bit.sv iand.sv
  have h : ((BitVec.ofInt IntKind.i64.bits (ishr.sv .i64 w j) &&& BitVec.ofInt IntKind.i64.bits 1).toNat) ≤ 1 := by
    rw [BitVec.toNat_and]
    have : (BitVec.ofInt IntKind.i64.bits 1).toNat = 1 := by decide
    rw [this, Nat.and_one_is_mod]
    omega
  generalize (BitVec.ofInt IntKind.i64.bits (ishr.sv .i64 w j) &&& BitVec.ofInt IntKind.i64.bits 1).toNat = n at h
  rw [IntWalk.i64_in _ (by omega)]
  omega
theorem add_le (w : Int) (b : Int) (hb : b ≤ 1000000) : ∀ (ys : List Int) (j : Nat), (∀ y ∈ ys, 0 ≤ y ∧ y ≤ b) → ∀ y ∈ load.add w ys j, 0 ≤ y ∧ y ≤ b + 1 := by
  intro ys
  induction ys with
  | nil => intro j _ y hy; simp [load.add] at hy
  | cons x t ih =>
    intro j h y hy
    have hx := h x List.mem_cons_self
    have hbit := bit_le w j
    simp only [load.add, List.mem_cons] at hy
    rcases hy with rfl | hy
    · rw [IntWalk.i64_in _ (by omega)]; omega
    · exact ih (j + 1) (fun z hz => h z (List.mem_cons_of_mem _ hz)) y hy
theorem all_le (ws : List Int) : ∀ (xs ys : List Int) (b : Int), b + (xs.length : Int) ≤ 1000000 → (∀ y ∈ ys, 0 ≤ y ∧ y ≤ b) → ∀ y ∈ load.all ws xs ys, 0 ≤ y ∧ y ≤ b + (xs.length : Int) := by
  intro xs
  induction xs with
  | nil => intro ys b _ h y hy; simp only [load.all, List.foldl_nil] at hy; have := h y hy; simp; omega
  | cons x t ih =>
    intro ys b hb h y hy
    simp only [List.length_cons] at hb ⊢
    have := ih (load.add (gz ws x.toNat) ys 0) (b + 1) (by omega) (add_le _ b (by omega) ys 0 h) y (by simpa [load.all] using hy)
    omega
theorem loads_le {u r : Int} {ws cs xs : List Int} (h : load.sp u r ws cs xs = true) : ∀ y ∈ load.sv r ws xs, 0 ≤ y ∧ y ≤ u := by
  obtain ⟨v1, v2, v3, v4, v5, v6, v7⟩ := load.valid h
  intro y hy
  have := all_le ws xs (List.replicate r.toNat 0) 0 (by omega) (fun y hy => by have := List.eq_of_mem_replicate hy; omega) y hy
  omega
theorem ix {u r j k : Int} {mc : Nat} (hu : 1 ≤ u ∧ u ≤ 8) (hr : 1 ≤ r ∧ r ≤ 8) (hm : (mc : Int) = u * r) (hj : 0 ≤ j ∧ j < r) (hk : 1 ≤ k ∧ k ≤ u) : 0 ≤ j * u ∧ j * u ≤ 64 ∧ j * u + k - 1 < (mc : Int) := by
  have h1 : 0 ≤ j * u := Int.mul_nonneg hj.1 (by omega)
  have h2 : j * u ≤ 8 * 8 := Int.mul_le_mul (by omega) hu.2 (by omega) (by omega)
  have h3 : (j + 1) * u ≤ r * u := Int.mul_le_mul_of_nonneg_right (by omega) (by omega)
  rw [Int.add_mul, Int.one_mul, Int.mul_comm r u] at h3
  omega
end pot

namespace l06Cost
def R : List AVal → Option (Bool × AVal × List Blk)
  | [.rom [.int .i64 u, .int .i64 r, .ro (.ints .i64 ws) mw 1, .ro (.ints .i64 cs) mc 1] 0, .int .i64 j, .int .i64 k] => some (decide (mc ≤ cs.length ∧ 0 ≤ j * u ∧ j * u ≤ 64 ∧ 1 ≤ k ∧ k ≤ 64 ∧ j * u + k - 1 < (mc : Int)), .int .i64 (pot.cost.sv u cs j k), [])
  | _ => none
theorem go (u r : Int) (ws cs : List Int) (mw mc : Nat) (j k : Int) :
  runFn Try.prog (orc []) hd0 Dr.std none 0 (bodyOf Try.f40) 24 [6] [.rom [.int .i64 u, .int .i64 r, .ro (.ints .i64 ws) mw 1, .ro (.ints .i64 cs) mc 1] 0, .int .i64 j, .int .i64 k] []
  = (bif k == (0 : Int) then some (AVal.int IntKind.i64 (0 : Int), []) else bif true && (decide ((0 : Int) ≤ IntKind.i64.wrap (IntKind.i64.wrap (IntKind.i64.wrap (j * u) + k) - (1 : Int))) && decide (IntKind.i64.wrap (IntKind.i64.wrap (IntKind.i64.wrap (j * u) + k) - (1 : Int)) < (↑mc : Int))) then bif decide ((IntKind.i64.wrap (IntKind.i64.wrap (IntKind.i64.wrap (j * u) + k) - (1 : Int))).toNat < cs.length) then some (AVal.int IntKind.i64 (gz cs (IntKind.i64.wrap (IntKind.i64.wrap (IntKind.i64.wrap (j * u) + k) - (1 : Int))).toNat), []) else none else none) := by kernel_rfl
theorem run : ∀ args v new, R args = some (true, v, new) → ∃ fuel, runFn Try.prog (orc []) hd0 Dr.std none fuel (bodyOf Try.f40) 24 [6] args [] = some (v, new) := by
  intro args v new h
  unfold R at h
  split at h
  · rename_i u r ws mw cs mc j k
    simp only [Option.some.injEq, Prod.mk.injEq, decide_eq_true_eq] at h
    obtain ⟨⟨h1, h2, h3, h4, h5, h6⟩, rfl, rfl⟩ := h
    refine ⟨0, ?_⟩
    rw [go]
    have w1 : IntKind.i64.wrap (j * u) = j * u := IntWalk.i64_in _ (by omega)
    have w2 : IntKind.i64.wrap (j * u + k) = j * u + k := IntWalk.i64_in _ (by omega)
    have w3 : IntKind.i64.wrap (j * u + k - 1) = j * u + k - 1 := IntWalk.i64_in _ (by omega)
    have k0 : (k == 0) = false := by simp; omega
    obtain ⟨q, hq⟩ : ∃ q : Nat, j * u + k - 1 = q := ⟨(j * u + k - 1).toNat, by omega⟩
    have c1 : (0 : Int) ≤ (q : Int) := Int.natCast_nonneg _
    have c2 : (q : Int) < (mc : Int) := by omega
    have c3 : q < cs.length := by omega
    have w4 : IntKind.i64.wrap (q : Int) = (q : Int) := IntWalk.i64_in _ (by omega)
    simp only [w1, w2, w3, w4, k0, hq, c1, c2, c3, Int.toNat_natCast, decide_true, Bool.and_self, Bool.or_self, Bool.and_true, Bool.true_and, cond_true, cond_false, pot.cost.sv]
  · cases h
theorem ok : EntOk Try.prog ⟨40, R⟩ :=
  ent_okA mixed (A := (orc [])) (orc_ok (by simp)) Try.func40 (by kernel_rfl) (by kernel_rfl) (n := 24) (ts := [6]) (hd := hd0) (dr := Dr.std) (cut := none) (by kernel_rfl) (by kernel_rfl) (by kernel_rfl) run
end l06Cost

namespace iCost
def R : List AVal → Option (Bool × AVal × List Blk)
  | [.agg [.int .i64 u, .int .i64 r, .ro (.ints .i64 ws) mw 1, .ro (.ints .i64 cs) mc 1], .int .i64 j, .int .i64 k] => some (decide (mc ≤ cs.length ∧ 0 ≤ j * u ∧ j * u ≤ 64 ∧ 1 ≤ k ∧ k ≤ 64 ∧ j * u + k - 1 < (mc : Int)), .int .i64 (pot.cost.sv u cs j k), [])
  | _ => none
theorem go (u r : Int) (ws cs : List Int) (mw mc : Nat) (j k : Int) :
  runFn Try.prog (orc []) hd0 Dr.std (some 0) 0 (bodyOf Try.f44) 18 [6] [.agg [.int .i64 u, .int .i64 r, .ro (.ints .i64 ws) mw 1, .ro (.ints .i64 cs) mc 1], .int .i64 j, .int .i64 k] []
  = (bif true && true then bif true && true then bif true && (decide ((0 : Int) ≤ IntKind.i64.wrap (IntKind.i64.wrap (IntKind.i64.wrap (j * u) + k) - (1 : Int))) && decide (IntKind.i64.wrap (IntKind.i64.wrap (IntKind.i64.wrap (j * u) + k) - (1 : Int)) < (↑mc : Int))) then bif decide ((IntKind.i64.wrap (IntKind.i64.wrap (IntKind.i64.wrap (j * u) + k) - (1 : Int))).toNat < cs.length) then some (AVal.int IntKind.i64 (gz cs (IntKind.i64.wrap (IntKind.i64.wrap (IntKind.i64.wrap (j * u) + k) - (1 : Int))).toNat), []) else none else none else none else none) := by kernel_rfl
theorem run : ∀ args v new, R args = some (true, v, new) → ∃ fuel, runFn Try.prog (orc []) hd0 Dr.std (some 0) fuel (bodyOf Try.f44) 18 [6] args [] = some (v, new) := by
  intro args v new h
  unfold R at h
  split at h
  · rename_i u r ws mw cs mc j k
    simp only [Option.some.injEq, Prod.mk.injEq, decide_eq_true_eq] at h
    obtain ⟨⟨h1, h2, h3, h4, h5, h6⟩, rfl, rfl⟩ := h
    refine ⟨0, ?_⟩
    rw [go]
    have w1 : IntKind.i64.wrap (j * u) = j * u := IntWalk.i64_in _ (by omega)
    have w2 : IntKind.i64.wrap (j * u + k) = j * u + k := IntWalk.i64_in _ (by omega)
    have w3 : IntKind.i64.wrap (j * u + k - 1) = j * u + k - 1 := IntWalk.i64_in _ (by omega)
    have k0 : (k == 0) = false := by simp; omega
    obtain ⟨q, hq⟩ : ∃ q : Nat, j * u + k - 1 = q := ⟨(j * u + k - 1).toNat, by omega⟩
    have c1 : (0 : Int) ≤ (q : Int) := Int.natCast_nonneg _
    have c2 : (q : Int) < (mc : Int) := by omega
    have c3 : q < cs.length := by omega
    have w4 : IntKind.i64.wrap (q : Int) = (q : Int) := IntWalk.i64_in _ (by omega)
    simp only [w1, w2, w3, w4, k0, hq, c1, c2, c3, Int.toNat_natCast, decide_true, Bool.and_self, Bool.or_self, Bool.and_true, Bool.true_and, cond_true, cond_false, pot.cost.sv]
  · cases h
theorem ok : EntOk Try.prog ⟨44, R⟩ :=
  ent_okA mixed (A := (orc [])) (orc_ok (by simp)) Try.func44 (by kernel_rfl) (by kernel_rfl) (n := 18) (ts := [6]) (hd := hd0) (dr := Dr.std) (cut := (some 0)) (by kernel_rfl) (by kernel_rfl) (by kernel_rfl) run
end iCost




end Go.Proofs.Ytgeglpommdckgaa.Ab
