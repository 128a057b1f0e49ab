/-
  Functions: potentials of crowds.
-/
import Derived.Test.YtcndnfkkofacbaaFnR
import Derived.Test.YtcndnfkkofacbaaFnD
namespace Go.Proofs.Ytcndnfkkofacbaa.Ab
open Go
set_option linter.unusedVariables false
set_option linter.unusedSimpArgs false
set_option maxRecDepth 100000

namespace pot
/-- What a road costs each of so many. -/
def cost.sv (u : Int) (cs : List Int) (j k : Int) : Int := gz cs (j * u + k - 1).toNat
/-- The sum, from 'k' users on, of 'n' more. -/
def ps (u : Int) (cs : List Int) (j : Int) : Nat → Int → Int → Int
  | 0, _, acc => acc
  | n + 1, k, acc => ps u cs j n (k + 1) (IntKind.i64.wrap (acc + cost.sv u cs j k))
def pl (u : Int) (cs : List Int) : List Int → Nat → Int → Int
  | [], _, acc => acc
  | y :: t, j, acc => pl u cs t (j + 1) (ps u cs j y.toNat 1 acc)
def sv (u r : Int) (ws cs xs : List Int) : Int := bif load.sp u r ws cs xs then pl u cs (load.sv r ws xs) 0 0 else 0
theorem bit_le (w j : Int) : 0 ≤ load.bit.sv w j ∧ load.bit.sv w j ≤ 1 := by
  unfold load.bit.sv iand.sv
  have h : ((BitVec.ofInt IntKind.i64.bits (ishr.sv .i64 w j) &&& BitVec.ofInt IntKind.i64.bits 1).toNat) ≤ 1 := by
    rw [BitVec.toNat_and]
    have : (BitVec.ofInt IntKind.i64.bits 1).toNat = 1 := by decide
    rw [this, Nat.and_one_is_mod]
    omega
  generalize (BitVec.ofInt IntKind.i64.bits (ishr.sv .i64 w j) &&& BitVec.ofInt IntKind.i64.bits 1).toNat = n at h
  rw [IntWalk.i64_in _ (by omega)]
  omega
theorem add_le (w : Int) (b : Int) (hb : b ≤ 1000000) : ∀ (ys : List Int) (j : Nat), (∀ y ∈ ys, 0 ≤ y ∧ y ≤ b) → ∀ y ∈ load.add w ys j, 0 ≤ y ∧ y ≤ b + 1 := by
  intro ys
  induction ys with
  | nil => intro j _ y hy; simp [load.add] at hy
  | cons x t ih =>
    intro j h y hy
    have hx := h x List.mem_cons_self
    have hbit := bit_le w j
    simp only [load.add, List.mem_cons] at hy
    rcases hy with rfl | hy
    · rw [IntWalk.i64_in _ (by omega)]; omega
    · exact ih (j + 1) (fun z hz => h z (List.mem_cons_of_mem _ hz)) y hy
theorem all_le (ws : List Int) : ∀ (xs ys : List Int) (b : Int), b + (xs.length : Int) ≤ 1000000 → (∀ y ∈ ys, 0 ≤ y ∧ y ≤ b) → ∀ y ∈ load.all ws xs ys, 0 ≤ y ∧ y ≤ b + (xs.length : Int) := by
  intro xs
  induction xs with
  | nil => intro ys b _ h y hy; simp only [load.all, List.foldl_nil] at hy; have := h y hy; simp; omega
  | cons x t ih =>
    intro ys b hb h y hy
    simp only [List.length_cons] at hb ⊢
    have := ih (load.add (gz ws x.toNat) ys 0) (b + 1) (by omega) (add_le _ b (by omega) ys 0 h) y (by simpa [load.all] using hy)
    omega
theorem loads_le {u r : Int} {ws cs xs : List Int} (h : load.sp u r ws cs xs = true) : ∀ y ∈ load.sv r ws xs, 0 ≤ y ∧ y ≤ u := by
  obtain ⟨v1, v2, v3, v4, v5, v6, v7⟩ := load.valid h
  intro y hy
  have := all_le ws xs (List.replicate r.toNat 0) 0 (by omega) (fun y hy => by have := List.eq_of_mem_replicate hy; omega) y hy
  omega
theorem ix {u r j k : Int} {mc : Nat} (hu : 1 ≤ u ∧ u ≤ 8) (hr : 1 ≤ r ∧ r ≤ 8) (hm : (mc : Int) = u * r) (hj : 0 ≤ j ∧ j < r) (hk : 1 ≤ k ∧ k ≤ u) : 0 ≤ j * u ∧ j * u ≤ 64 ∧ j * u + k - 1 < (mc : Int) := by
  have h1 : 0 ≤ j * u := Int.mul_nonneg hj.1 (by omega)
  have h2 : j * u ≤ 8 * 8 := Int.mul_le_mul (by omega) hu.2 (by omega) (by omega)
  have h3 : (j + 1) * u ≤ r * u := Int.mul_le_mul_of_nonneg_right (by omega) (by omega)
  rw [Int.add_mul, Int.one_mul, Int.mul_comm r u] at h3
  omega
end pot

namespace l06Cost
def R : List AVal → Option (Bool × AVal × List Blk)
  | [.rom [.int .i64 u, .int .i64 r, .ro (.ints .i64 ws) mw 1, .ro (.ints .i64 cs) mc 1] 0, .int .i64 j, .int .i64 k] => some (decide (mc ≤ cs.length ∧ 0 ≤ j * u ∧ j * u ≤ 64 ∧ 1 ≤ k ∧ k ≤ 64 ∧ j * u + k - 1 < (mc : Int)), .int .i64 (pot.cost.sv u cs j k), [])
  | _ => none
theorem go (u r : Int) (ws cs : List Int) (mw mc : Nat) (j k : Int) :
  runFn Try.prog (orc []) hd0 Dr.std none 0 (bodyOf Try.f87) 24 [6] [.rom [.int .i64 u, .int .i64 r, .ro (.ints .i64 ws) mw 1, .ro (.ints .i64 cs) mc 1] 0, .int .i64 j, .int .i64 k] []
  = (bif k == (0 : Int) then some (AVal.int IntKind.i64 (0 : Int), []) else bif true && (decide ((0 : Int) ≤ IntKind.i64.wrap (IntKind.i64.wrap (IntKind.i64.wrap (j * u) + k) - (1 : Int))) && decide (IntKind.i64.wrap (IntKind.i64.wrap (IntKind.i64.wrap (j * u) + k) - (1 : Int)) < (↑mc : Int))) then bif decide ((IntKind.i64.wrap (IntKind.i64.wrap (IntKind.i64.wrap (j * u) + k) - (1 : Int))).toNat < cs.length) then some (AVal.int IntKind.i64 (gz cs (IntKind.i64.wrap (IntKind.i64.wrap (IntKind.i64.wrap (j * u) + k) - (1 : Int))).toNat), []) else none else none) := by kernel_rfl
theorem run : ∀ args v new, R args = some (true, v, new) → ∃ fuel, runFn Try.prog (orc []) hd0 Dr.std none fuel (bodyOf Try.f87) 24 [6] args [] = some (v, new) := by
  intro args v new h
  unfold R at h
  split at h
  · rename_i u r ws mw cs mc j k
    simp only [Option.some.injEq, Prod.mk.injEq, decide_eq_true_eq] at h
    obtain ⟨⟨h1, h2, h3, h4, h5, h6⟩, rfl, rfl⟩ := h
    refine ⟨0, ?_⟩
    rw [go]
    have w1 : IntKind.i64.wrap (j * u) = j * u := IntWalk.i64_in _ (by omega)
    have w2 : IntKind.i64.wrap (j * u + k) = j * u + k := IntWalk.i64_in _ (by omega)
    have w3 : IntKind.i64.wrap (j * u + k - 1) = j * u + k - 1 := IntWalk.i64_in _ (by omega)
    have k0 : (k == 0) = false := by simp; omega
    obtain ⟨q, hq⟩ : ∃ q : Nat, j * u + k - 1 = q := ⟨(j * u + k - 1).toNat, by omega⟩
    have c1 : (0 : Int) ≤ (q : Int) := Int.natCast_nonneg _
    have c2 : (q : Int) < (mc : Int) := by omega
    have c3 : q < cs.length := by omega
    have w4 : IntKind.i64.wrap (q : Int) = (q : Int) := IntWalk.i64_in _ (by omega)
    simp only [w1, w2, w3, w4, k0, hq, c1, c2, c3, Int.toNat_natCast, decide_true, Bool.and_self, Bool.or_self, Bool.and_true, Bool.true_and, cond_true, cond_false, pot.cost.sv]
  · cases h
theorem ok : EntOk Try.prog ⟨87, R⟩ :=
  ent_okA mixed (A := (orc [])) (orc_ok (by simp)) Try.func87 (by kernel_rfl) (by kernel_rfl) (n := 24) (ts := [6]) (hd := hd0) (dr := Dr.std) (cut := none) (by kernel_rfl) (by kernel_rfl) (by kernel_rfl) run
end l06Cost

namespace iCost
def R : List AVal → Option (Bool × AVal × List Blk)
  | [.agg [.int .i64 u, .int .i64 r, .ro (.ints .i64 ws) mw 1, .ro (.ints .i64 cs) mc 1], .int .i64 j, .int .i64 k] => some (decide (mc ≤ cs.length ∧ 0 ≤ j * u ∧ j * u ≤ 64 ∧ 1 ≤ k ∧ k ≤ 64 ∧ j * u + k - 1 < (mc : Int)), .int .i64 (pot.cost.sv u cs j k), [])
  | _ => none
theorem go (u r : Int) (ws cs : List Int) (mw mc : Nat) (j k : Int) :
  runFn Try.prog (orc []) hd0 Dr.std (some 0) 0 (bodyOf Try.f90) 18 [6] [.agg [.int .i64 u, .int .i64 r, .ro (.ints .i64 ws) mw 1, .ro (.ints .i64 cs) mc 1], .int .i64 j, .int .i64 k] []
  = (bif true && true then bif true && true then bif true && (decide ((0 : Int) ≤ IntKind.i64.wrap (IntKind.i64.wrap (IntKind.i64.wrap (j * u) + k) - (1 : Int))) && decide (IntKind.i64.wrap (IntKind.i64.wrap (IntKind.i64.wrap (j * u) + k) - (1 : Int)) < (↑mc : Int))) then bif decide ((IntKind.i64.wrap (IntKind.i64.wrap (IntKind.i64.wrap (j * u) + k) - (1 : Int))).toNat < cs.length) then some (AVal.int IntKind.i64 (gz cs (IntKind.i64.wrap (IntKind.i64.wrap (IntKind.i64.wrap (j * u) + k) - (1 : Int))).toNat), []) else none else none else none else none) := by kernel_rfl
theorem run : ∀ args v new, R args = some (true, v, new) → ∃ fuel, runFn Try.prog (orc []) hd0 Dr.std (some 0) fuel (bodyOf Try.f90) 18 [6] args [] = some (v, new) := by
  intro args v new h
  unfold R at h
  split at h
  · rename_i u r ws mw cs mc j k
    simp only [Option.some.injEq, Prod.mk.injEq, decide_eq_true_eq] at h
    obtain ⟨⟨h1, h2, h3, h4, h5, h6⟩, rfl, rfl⟩ := h
    refine ⟨0, ?_⟩
    rw [go]
    have w1 : IntKind.i64.wrap (j * u) = j * u := IntWalk.i64_in _ (by omega)
    have w2 : IntKind.i64.wrap (j * u + k) = j * u + k := IntWalk.i64_in _ (by omega)
    have w3 : IntKind.i64.wrap (j * u + k - 1) = j * u + k - 1 := IntWalk.i64_in _ (by omega)
    have k0 : (k == 0) = false := by simp; omega
    obtain ⟨q, hq⟩ : ∃ q : Nat, j * u + k - 1 = q := ⟨(j * u + k - 1).toNat, by omega⟩
    have c1 : (0 : Int) ≤ (q : Int) := Int.natCast_nonneg _
    have c2 : (q : Int) < (mc : Int) := by omega
    have c3 : q < cs.length := by omega
    have w4 : IntKind.i64.wrap (q : Int) = (q : Int) := IntWalk.i64_in _ (by omega)
    simp only [w1, w2, w3, w4, k0, hq, c1, c2, c3, Int.toNat_natCast, decide_true, Bool.and_self, Bool.or_self, Bool.and_true, Bool.true_and, cond_true, cond_false, pot.cost.sv]
  · cases h
theorem ok : EntOk Try.prog ⟨90, R⟩ :=
  ent_okA mixed (A := (orc [])) (orc_ok (by simp)) Try.func90 (by kernel_rfl) (by kernel_rfl) (n := 18) (ts := [6]) (hd := hd0) (dr := Dr.std) (cut := (some 0)) (by kernel_rfl) (by kernel_rfl) (by kernel_rfl) run
end iCost

namespace sCrowdPotential
def R : List AVal → Option (Bool × AVal × List Blk)
  | [.agg [.int .i64 u, .int .i64 r, .ro (.ints .i64 ws) mw 1, .ro (.ints .i64 cs) mc 1], .ro (.ints .i64 xs) l 1] => some (decide (mw ≤ ws.length ∧ mw ≤ 4611686018427387904 ∧ mc ≤ cs.length ∧ mc ≤ 4611686018427387904 ∧ l ≤ xs.length ∧ l ≤ 4611686018427387904), .tup [.int .i64 (pot.sv u r (ws.take mw) (cs.take mc) (xs.take l)), .bool (load.sp u r (ws.take mw) (cs.take mc) (xs.take l))], [])
  | _ => none
def hd : Nat → Head := fun i => bif eqN i 2 then ⟨[2, 6, 7, 8, 9], some 2⟩ else ⟨[2, 6, 7, 8], some 2⟩
noncomputable def L1 (f n : Nat) (s : State) := loopAt Try.prog (orc [⟨85, l06Can.R⟩, ⟨86, l06Loads.R⟩, ⟨87, l06Cost.R⟩]) hd Dr.std 0 f (bodyOf Try.f30) 0 [true, true, true, true, false, true] (retK Try.prog [4, 5] 0 (some 0)) n s
noncomputable def L2 (f n n2 : Nat) (s : State) := loopAt Try.prog (orc [⟨85, l06Can.R⟩, ⟨86, l06Loads.R⟩, ⟨87, l06Cost.R⟩]) hd Dr.std 0 f (bodyAt (bodyOf Try.f30) [true, true, true, true, false, true]) (curAt (bodyOf Try.f30) 0 [true, true, true, true, false, true]) [true, false, true] (iterK (norm 0 (hd (curAt (bodyOf Try.f30) 0 [true, true, true, true, false, true]))) (L1 f n) (contAt Try.prog (orc [⟨85, l06Can.R⟩, ⟨86, l06Loads.R⟩, ⟨87, l06Cost.R⟩]) hd Dr.std 0 f (bodyOf Try.f30) 0 [true, true, true, true, false, true] (retK Try.prog [4, 5] 0 (some 0)))) n2 s
theorem start (u r : Int) (ws cs : List Int) (mw mc : Nat) (xs : List Int) (l : Nat) (f : Nat) :
  runFn Try.prog (orc [⟨85, l06Can.R⟩, ⟨86, l06Loads.R⟩, ⟨87, l06Cost.R⟩]) hd Dr.std (some 0) f (bodyOf Try.f30) 35 [4, 5] [.agg [.int .i64 u, .int .i64 r, .ro (.ints .i64 ws) mw 1, .ro (.ints .i64 cs) mc 1], .ro (.ints .i64 xs) l 1] []
  = (bif decide (mw ≤ ws.length ∧ mw ≤ (4611686018427387904 : Nat) ∧ mc ≤ cs.length ∧ mc ≤ (4611686018427387904 : Nat) ∧ l ≤ xs.length ∧ l ≤ (4611686018427387904 : Nat)) && (false && (true && true) || true && true) then bif !load.sp u r (List.take mw ws) (List.take mc cs) (List.take l xs) then some (AVal.tup [AVal.int IntKind.i64 (0 : Int), AVal.bool false], []) else bif decide (mw ≤ ws.length ∧ mw ≤ (4611686018427387904 : Nat) ∧ mc ≤ cs.length ∧ mc ≤ (4611686018427387904 : Nat) ∧ l ≤ xs.length ∧ l ≤ (4611686018427387904 : Nat)) && load.sp u r (List.take mw ws) (List.take mc cs) (List.take l xs) && (false && (true && true) || true && (true && true)) then L1 f f (mkS (35 : Nat) [((2 : Nat), AVal.ptr (0 : Nat) (0 : Nat) (0 : Nat)), ((6 : Nat), AVal.own (1 : Nat) (0 : Nat) (load.sv r (List.take mw ws) (List.take l xs)).length (0 : Nat) (1 : Nat)), ((7 : Nat), AVal.int IntKind.i64 (0 : Int)), ((8 : Nat), AVal.int IntKind.i64 (0 : Int))] [{ c := BC.cells [AVal.int IntKind.i64 u, AVal.int IntKind.i64 r, AVal.ro (Cont.ints IntKind.i64 ws) mw (1 : Nat), AVal.ro (Cont.ints IntKind.i64 cs) mc (1 : Nat)], ver := (0 : Nat) }, { c := BC.typ (Cont.ints IntKind.i64 (load.sv r (List.take mw ws) (List.take l xs))), ver := (0 : Nat) }]) else none else none) := by kernel_rfl
theorem round1 (u r : Int) (ws cs : List Int) (mw mc : Nat) (ls : List Int) (i : Nat) (a : Int) (f n : Nat) :
  L1 f (n + 1) (mkS 35 [(2, .ptr 0 0 0), (6, .own 1 0 ls.length 0 1), (7, .int .i64 a), (8, .int .i64 i)] [⟨.cells [.int .i64 u, .int .i64 r, .ro (.ints .i64 ws) mw 1, .ro (.ints .i64 cs) mc 1], 0⟩, ⟨.typ (.ints .i64 ls), 0⟩])
  = (bif true && true then bif decide ((↑i : Int) < r) then L2 f n f (mkS (35 : Nat) [((2 : Nat), AVal.ptr (0 : Nat) (0 : Nat) (0 : Nat)), ((6 : Nat), AVal.own (1 : Nat) (0 : Nat) ls.length (0 : Nat) (1 : Nat)), ((7 : Nat), AVal.int IntKind.i64 a), ((8 : Nat), AVal.int IntKind.i64 (↑i : Int)), ((9 : Nat), AVal.int IntKind.i64 (1 : Int))] [{ c := BC.cells [AVal.int IntKind.i64 u, AVal.int IntKind.i64 r, AVal.ro (Cont.ints IntKind.i64 ws) mw (1 : Nat), AVal.ro (Cont.ints IntKind.i64 cs) mc (1 : Nat)], ver := (0 : Nat) }, { c := BC.typ (Cont.ints IntKind.i64 ls), ver := (0 : Nat) }]) else some (AVal.tup [AVal.int IntKind.i64 a, AVal.bool true], []) else none) := by kernel_rfl
theorem round2 (u r : Int) (ws cs : List Int) (mw mc : Nat) (ls : List Int) (i : Nat) (a k : Int) (f n n2 : Nat) :
  L2 f n (n2 + 1) (mkS 35 [(2, .ptr 0 0 0), (6, .own 1 0 ls.length 0 1), (7, .int .i64 a), (8, .int .i64 i), (9, .int .i64 k)] [⟨.cells [.int .i64 u, .int .i64 r, .ro (.ints .i64 ws) mw 1, .ro (.ints .i64 cs) mc 1], 0⟩, ⟨.typ (.ints .i64 ls), 0⟩])
  = (bif true && (decide ((0 : Int) ≤ (↑i : Int)) && decide ((↑i : Int) < (↑ls.length : Int))) then bif true && decide ((↑i : Int).toNat < ls.length) then bif decide (k ≤ gz ls (↑i : Int).toNat) then bif decide (mc ≤ cs.length ∧ (0 : Int) ≤ (↑i : Int) * u ∧ (↑i : Int) * u ≤ (64 : Int) ∧ (1 : Int) ≤ k ∧ k ≤ (64 : Int) ∧ (↑i : Int) * u + k - (1 : Int) < (↑mc : Int)) && (false && (true && (true && true)) || true && true) then L2 f n n2 (mkS (35 : Nat) [((2 : Nat), AVal.ptr (0 : Nat) (0 : Nat) (0 : Nat)), ((6 : Nat), AVal.own (1 : Nat) (0 : Nat) ls.length (0 : Nat) (1 : Nat)), ((7 : Nat), AVal.int IntKind.i64 (IntKind.i64.wrap (a + pot.cost.sv u cs (↑i : Int) k))), ((8 : Nat), AVal.int IntKind.i64 (↑i : Int)), ((9 : Nat), AVal.int IntKind.i64 (IntKind.i64.wrap (k + (1 : Int))))] [{ c := BC.cells [AVal.int IntKind.i64 u, AVal.int IntKind.i64 r, AVal.ro (Cont.ints IntKind.i64 ws) mw (1 : Nat), AVal.ro (Cont.ints IntKind.i64 cs) mc (1 : Nat)], ver := (0 : Nat) }, { c := BC.typ (Cont.ints IntKind.i64 ls), ver := (0 : Nat) }]) else none else L1 f n (mkS (35 : Nat) [((2 : Nat), AVal.ptr (0 : Nat) (0 : Nat) (0 : Nat)), ((6 : Nat), AVal.own (1 : Nat) (0 : Nat) ls.length (0 : Nat) (1 : Nat)), ((7 : Nat), AVal.int IntKind.i64 a), ((8 : Nat), AVal.int IntKind.i64 (IntKind.i64.wrap ((↑i : Int) + (1 : Int))))] [{ c := BC.cells [AVal.int IntKind.i64 u, AVal.int IntKind.i64 r, AVal.ro (Cont.ints IntKind.i64 ws) mw (1 : Nat), AVal.ro (Cont.ints IntKind.i64 cs) mc (1 : Nat)], ver := (0 : Nat) }, { c := BC.typ (Cont.ints IntKind.i64 ls), ver := (0 : Nat) }]) else none else none) := by kernel_rfl
theorem inner (u r : Int) (ws cs : List Int) (mw mc : Nat) (ls : List Int) (f n i : Nat) (hu : 1 ≤ u ∧ u ≤ 8) (hr : 1 ≤ r ∧ r ≤ 8) (hm : (mc : Int) = u * r) (hc : mc ≤ cs.length) (hl : (ls.length : Int) = r) (hv : ∀ y ∈ ls, 0 ≤ y ∧ y ≤ u) (h1 : i < ls.length) : ∀ (d n2 : Nat) (k a : Int), k + (d : Int) = ls[i] + 1 → 1 ≤ k → d < n2 →
    L2 f n n2 (mkS 35 [(2, .ptr 0 0 0), (6, .own 1 0 ls.length 0 1), (7, .int .i64 a), (8, .int .i64 i), (9, .int .i64 k)] [⟨.cells [.int .i64 u, .int .i64 r, .ro (.ints .i64 ws) mw 1, .ro (.ints .i64 cs) mc 1], 0⟩, ⟨.typ (.ints .i64 ls), 0⟩]) = L1 f n (mkS 35 [(2, .ptr 0 0 0), (6, .own 1 0 ls.length 0 1), (7, .int .i64 (pot.ps u (cs.take mc) i d k a)), (8, .int .i64 ((i + 1 : Nat) : Int))] [⟨.cells [.int .i64 u, .int .i64 r, .ro (.ints .i64 ws) mw 1, .ro (.ints .i64 cs) mc 1], 0⟩, ⟨.typ (.ints .i64 ls), 0⟩]) := by
  have h4 : (0 : Int) ≤ (i : Int) := Int.natCast_nonneg _
  have h5 : (i : Int) < (ls.length : Int) := by omega
  have h6 : (i : Int) < r := by omega
  have hy := hv ls[i] (List.getElem_mem h1)
  intro d
  induction d with
  | zero =>
    intro n2 k a hk h0 hn
    obtain ⟨n2, rfl⟩ : ∃ k, n2 = k + 1 := ⟨n2 - 1, by omega⟩
    rw [round2]
    have c : ¬ (k ≤ ls[i]) := by omega
    simp only [Int.toNat_natCast, gz_eq h1, c, h4, h5, h1, decide_true, decide_false, Bool.and_self, Bool.or_self, Bool.and_true, Bool.true_and, cond_true, cond_false, pot.ps, wrap_nat i (by omega)]
  | succ d ih =>
    intro n2 k a hk h0 hn
    obtain ⟨n2, rfl⟩ : ∃ k, n2 = k + 1 := ⟨n2 - 1, by omega⟩
    rw [round2]
    have c : k ≤ ls[i] := by omega
    obtain ⟨x1, x2, x3⟩ := pot.ix (j := (i : Int)) (k := k) hu hr hm ⟨h4, h6⟩ ⟨by omega, by omega⟩
    have w1 : IntKind.i64.wrap (k + 1) = k + 1 := IntWalk.i64_in _ (by omega)
    have k1 : 1 ≤ k := by omega
    have k2 : k ≤ 64 := by omega
    have cst : pot.cost.sv u (cs.take mc) i (k) = pot.cost.sv u cs i (k) := by
      unfold pot.cost.sv
      rw [gz_take (by omega) hc]
    have hr2 := ih n2 (k + 1) (IntKind.i64.wrap (a + pot.cost.sv u cs i (k))) (by omega) (by omega) (by omega)
    simp only [Int.toNat_natCast, gz_eq h1, c, h4, h5, h1, w1, hc, x1, x2, x3, k1, k2, and_self, decide_true, decide_false, Bool.and_self, Bool.or_self, Bool.and_true, Bool.true_and, Bool.or_true, cond_true, cond_false, pot.ps, cst]
    exact hr2
theorem outer (u r : Int) (ws cs : List Int) (mw mc : Nat) (ls : List Int) (f : Nat) (hu : 1 ≤ u ∧ u ≤ 8) (hr : 1 ≤ r ∧ r ≤ 8) (hm : (mc : Int) = u * r) (hc : mc ≤ cs.length) (hl : (ls.length : Int) = r) (hv : ∀ y ∈ ls, 0 ≤ y ∧ y ≤ u) (hf : 9 < f) : ∀ (d i n : Nat) (a : Int), i + d = ls.length → d < n →
    L1 f n (mkS 35 [(2, .ptr 0 0 0), (6, .own 1 0 ls.length 0 1), (7, .int .i64 a), (8, .int .i64 i)] [⟨.cells [.int .i64 u, .int .i64 r, .ro (.ints .i64 ws) mw 1, .ro (.ints .i64 cs) mc 1], 0⟩, ⟨.typ (.ints .i64 ls), 0⟩]) = some (.tup [.int .i64 (pot.pl u (cs.take mc) (ls.drop i) i a), .bool true], []) := by
  intro d
  induction d with
  | zero =>
    intro i n a hi hn
    obtain ⟨n, rfl⟩ : ∃ k, n = k + 1 := ⟨n - 1, by omega⟩
    obtain rfl : i = ls.length := by omega
    rw [round1]
    have e : ls.drop ls.length = [] := by simp
    have c : ¬ ((ls.length : Int) < r) := by omega
    simp only [e, c, pot.pl, Int.lt_irrefl, decide_false, cond_false, Bool.and_self, cond_true]
  | succ d ih =>
    intro i n a hi hn
    obtain ⟨n, rfl⟩ : ∃ k, n = k + 1 := ⟨n - 1, by omega⟩
    have h1 : i < ls.length := by omega
    have h4 : (0 : Int) ≤ (i : Int) := Int.natCast_nonneg _
    have h5 : (i : Int) < (ls.length : Int) := by omega
    have h6 : (i : Int) < r := by omega
    rw [round1, List.drop_eq_getElem_cons h1]
    have hy := hv ls[i] (List.getElem_mem h1)
    have hin := inner u r ws cs mw mc ls f n i hu hr hm hc hl hv h1 ls[i].toNat f 1 a (by omega) (by omega) (by omega)
    have hih := ih (i + 1) n (pot.ps u (cs.take mc) i ls[i].toNat 1 a) (by omega) (by omega)
    simp only [pot.pl]
    simp only [Int.toNat_natCast, gz_eq h1, h4, h5, h6, h1, decide_true, Bool.and_self, Bool.or_self, Bool.and_true, Bool.true_and, cond_true]
    exact hin.trans hih
theorem run : ∀ args v new, R args = some (true, v, new) → ∃ fuel, runFn Try.prog (orc [⟨85, l06Can.R⟩, ⟨86, l06Loads.R⟩, ⟨87, l06Cost.R⟩]) hd Dr.std (some 0) fuel (bodyOf Try.f30) 35 [4, 5] args [] = some (v, new) := by
  intro args v new h
  unfold R at h
  split at h
  · rename_i u r ws mw cs mc xs l
    simp only [Option.some.injEq, Prod.mk.injEq, decide_eq_true_eq] at h
    obtain ⟨⟨h1, h2, h3, h4, h5, h6⟩, rfl, rfl⟩ := h
    have e2 : (cs.take mc).length = mc := by simp; omega
    obtain ⟨F, hF⟩ : ∃ F : Nat, F = 100 := ⟨100, rfl⟩
    refine ⟨F, ?_⟩
    rw [start]
    unfold pot.sv
    simp only [h1, h2, h3, h4, h5, h6, and_self, decide_true, Bool.and_self, Bool.or_self, Bool.and_true, Bool.true_and, Bool.or_true, cond_true]
    cases hv : load.sp u r (ws.take mw) (cs.take mc) (xs.take l)
    · rfl
    obtain ⟨v1, v2, v3, v4, v5, v6, v7⟩ := load.valid hv
    rw [e2] at v4
    have hle := pot.loads_le hv
    have hlen : (load.sv r (ws.take mw) (xs.take l)).length = r.toNat := load.sv_length _ _ _
    have ho := outer u r ws cs mw mc (load.sv r (ws.take mw) (xs.take l)) F v1 v2 v4 h3 (by omega) hle (by omega) (load.sv r (ws.take mw) (xs.take l)).length 0 F 0 (by omega) (by omega)
    rw [List.drop_zero] at ho
    simp only [Bool.not_true, cond_false, cond_true]
    exact ho
  · cases h
theorem ok : EntOk Try.prog ⟨30, R⟩ :=
  ent_okA mixed (A := (orc [⟨85, l06Can.R⟩, ⟨86, l06Loads.R⟩, ⟨87, l06Cost.R⟩])) (orc_ok (by simp only [List.mem_cons, List.not_mem_nil, or_false, forall_eq_or_imp, forall_eq]; exact ⟨l06Can.ok, l06Loads.ok, l06Cost.ok⟩)) Try.func30 (by kernel_rfl) (by kernel_rfl) (n := 35) (ts := [4, 5]) (hd := hd) (dr := Dr.std) (cut := (some 0)) (by kernel_rfl) (by kernel_rfl) (by kernel_rfl) run
end sCrowdPotential

namespace iCrowdPotential
def R : List AVal → Option (Bool × AVal × List Blk)
  | [.agg [.int .i64 u, .int .i64 r, .ro (.ints .i64 ws) mw 1, .ro (.ints .i64 cs) mc 1], .ro (.ints .i64 xs) l 1] => some (decide (mw ≤ ws.length ∧ mw ≤ 4611686018427387904 ∧ mc ≤ cs.length ∧ mc ≤ 4611686018427387904 ∧ l ≤ xs.length ∧ l ≤ 4611686018427387904), .tup [.int .i64 (pot.sv u r (ws.take mw) (cs.take mc) (xs.take l)), .bool (load.sp u r (ws.take mw) (cs.take mc) (xs.take l))], [])
  | _ => none
def hd : Nat → Head := fun i => bif eqN i 2 then ⟨[2, 6, 7, 16, 17, 18, 23, 24], some 2⟩ else ⟨[2, 6, 16, 17, 18], some 2⟩
noncomputable def L1 (f n : Nat) (s : State) := loopAt Try.prog (orc [⟨88, chosen.R⟩, ⟨89, iLoads.R⟩, ⟨90, iCost.R⟩]) hd Dr.std 0 f (bodyOf Try.f32) 0 [true, true, true, false, true] (retK Try.prog [4, 5] 0 (some 0)) n s
noncomputable def L2 (f n n2 : Nat) (s : State) := loopAt Try.prog (orc [⟨88, chosen.R⟩, ⟨89, iLoads.R⟩, ⟨90, iCost.R⟩]) hd Dr.std 0 f (bodyAt (bodyOf Try.f32) [true, true, true, false, true]) (curAt (bodyOf Try.f32) 0 [true, true, true, false, true]) [true, true, false, true, true] (iterK (norm 0 (hd (curAt (bodyOf Try.f32) 0 [true, true, true, false, true]))) (L1 f n) (contAt Try.prog (orc [⟨88, chosen.R⟩, ⟨89, iLoads.R⟩, ⟨90, iCost.R⟩]) hd Dr.std 0 f (bodyOf Try.f32) 0 [true, true, true, false, true] (retK Try.prog [4, 5] 0 (some 0)))) n2 s
theorem start (u r : Int) (ws cs : List Int) (mw mc : Nat) (xs : List Int) (l : Nat) (f : Nat) :
  runFn Try.prog (orc [⟨88, chosen.R⟩, ⟨89, iLoads.R⟩, ⟨90, iCost.R⟩]) hd Dr.std (some 0) f (bodyOf Try.f32) 37 [4, 5] [.agg [.int .i64 u, .int .i64 r, .ro (.ints .i64 ws) mw 1, .ro (.ints .i64 cs) mc 1], .ro (.ints .i64 xs) l 1] []
  = (bif true && true && (true && true && (true && true && (true && true && true))) then bif decide (mw ≤ ws.length ∧ mw ≤ (4611686018427387904 : Nat) ∧ mc ≤ cs.length ∧ mc ≤ (4611686018427387904 : Nat) ∧ l ≤ xs.length ∧ l ≤ (4611686018427387904 : Nat)) && (true && (true && (true && (true && true))) && (true && true) || true && true) then bif !load.sp u r (List.take mw ws) (List.take mc cs) (List.take l xs) then some (AVal.tup [AVal.int IntKind.i64 (0 : Int), AVal.bool false], []) else bif true && true && (true && true && (true && true && (true && true && true))) then bif decide (mw ≤ ws.length ∧ mw ≤ (4611686018427387904 : Nat) ∧ mc ≤ cs.length ∧ mc ≤ (4611686018427387904 : Nat) ∧ l ≤ xs.length ∧ l ≤ (4611686018427387904 : Nat)) && load.sp u r (List.take mw ws) (List.take mc cs) (List.take l xs) && (true && (true && (true && (true && true))) && (true && true) || true && (true && true)) then L1 f f (mkS (37 : Nat) [((2 : Nat), AVal.ptr (0 : Nat) (0 : Nat) (0 : Nat)), ((6 : Nat), AVal.int IntKind.i64 (0 : Int)), ((16 : Nat), AVal.own (1 : Nat) (0 : Nat) (load.sv r (List.take mw ws) (List.take l xs)).length (0 : Nat) (1 : Nat)), ((17 : Nat), AVal.int IntKind.i64 (↑(load.sv r (List.take mw ws) (List.take l xs)).length : Int)), ((18 : Nat), AVal.int IntKind.i64 (0 : Int))] [{ c := BC.cells [AVal.int IntKind.i64 u, AVal.int IntKind.i64 r, AVal.ro (Cont.ints IntKind.i64 ws) mw (1 : Nat), AVal.ro (Cont.ints IntKind.i64 cs) mc (1 : Nat)], ver := (0 : Nat) }, { c := BC.typ (Cont.ints IntKind.i64 (load.sv r (List.take mw ws) (List.take l xs))), ver := (0 : Nat) }]) else none else none else none else none) := by kernel_rfl
theorem round1 (u r : Int) (ws cs : List Int) (mw mc : Nat) (ls : List Int) (i : Nat) (a : Int) (f n : Nat) :
  L1 f (n + 1) (mkS 37 [(2, .ptr 0 0 0), (6, .int .i64 a), (16, .own 1 0 ls.length 0 1), (17, .int .i64 ls.length), (18, .int .i64 i)] [⟨.cells [.int .i64 u, .int .i64 r, .ro (.ints .i64 ws) mw 1, .ro (.ints .i64 cs) mc 1], 0⟩, ⟨.typ (.ints .i64 ls), 0⟩])
  = (bif decide ((↑i : Int) < (↑ls.length : Int)) then bif true && (decide ((0 : Int) ≤ (↑i : Int)) && decide ((↑i : Int) < (↑ls.length : Int))) then bif true && decide ((↑i : Int).toNat < ls.length) then L2 f n f (mkS (37 : Nat) [((2 : Nat), AVal.ptr (0 : Nat) (0 : Nat) (0 : Nat)), ((6 : Nat), AVal.int IntKind.i64 a), ((7 : Nat), AVal.int IntKind.i64 (↑i : Int)), ((16 : Nat), AVal.own (1 : Nat) (0 : Nat) ls.length (0 : Nat) (1 : Nat)), ((17 : Nat), AVal.int IntKind.i64 (↑ls.length : Int)), ((18 : Nat), AVal.int IntKind.i64 (↑i : Int)), ((23 : Nat), AVal.int IntKind.i64 (gz ls (↑i : Int).toNat)), ((24 : Nat), AVal.int IntKind.i64 (0 : Int))] [{ c := BC.cells [AVal.int IntKind.i64 u, AVal.int IntKind.i64 r, AVal.ro (Cont.ints IntKind.i64 ws) mw (1 : Nat), AVal.ro (Cont.ints IntKind.i64 cs) mc (1 : Nat)], ver := (0 : Nat) }, { c := BC.typ (Cont.ints IntKind.i64 ls), ver := (0 : Nat) }]) else none else none else some (AVal.tup [AVal.int IntKind.i64 a, AVal.bool true], [])) := by kernel_rfl
theorem round2 (u r : Int) (ws cs : List Int) (mw mc : Nat) (ls : List Int) (i : Nat) (a k y : Int) (f n n2 : Nat) :
  L2 f n (n2 + 1) (mkS 37 [(2, .ptr 0 0 0), (6, .int .i64 a), (7, .int .i64 i), (16, .own 1 0 ls.length 0 1), (17, .int .i64 ls.length), (18, .int .i64 i), (23, .int .i64 y), (24, .int .i64 k)] [⟨.cells [.int .i64 u, .int .i64 r, .ro (.ints .i64 ws) mw 1, .ro (.ints .i64 cs) mc 1], 0⟩, ⟨.typ (.ints .i64 ls), 0⟩])
  = (bif decide (k < y) then bif true && true && (true && true && (true && true && (true && true && true))) then bif decide (mc ≤ cs.length ∧ (0 : Int) ≤ (↑i : Int) * u ∧ (↑i : Int) * u ≤ (64 : Int) ∧ (1 : Int) ≤ IntKind.i64.wrap (k + (1 : Int)) ∧ IntKind.i64.wrap (k + (1 : Int)) ≤ (64 : Int) ∧ (↑i : Int) * u + IntKind.i64.wrap (k + (1 : Int)) - (1 : Int) < (↑mc : Int)) && (true && (true && (true && (true && true))) && (true && (true && true)) || true && true) then L2 f n n2 (mkS (37 : Nat) [((2 : Nat), AVal.ptr (0 : Nat) (0 : Nat) (0 : Nat)), ((6 : Nat), AVal.int IntKind.i64 (IntKind.i64.wrap (a + pot.cost.sv u cs (↑i : Int) (IntKind.i64.wrap (k + (1 : Int)))))), ((7 : Nat), AVal.int IntKind.i64 (↑i : Int)), ((16 : Nat), AVal.own (1 : Nat) (0 : Nat) ls.length (0 : Nat) (1 : Nat)), ((17 : Nat), AVal.int IntKind.i64 (↑ls.length : Int)), ((18 : Nat), AVal.int IntKind.i64 (↑i : Int)), ((23 : Nat), AVal.int IntKind.i64 y), ((24 : Nat), AVal.int IntKind.i64 (IntKind.i64.wrap (k + (1 : Int))))] [{ c := BC.cells [AVal.int IntKind.i64 u, AVal.int IntKind.i64 r, AVal.ro (Cont.ints IntKind.i64 ws) mw (1 : Nat), AVal.ro (Cont.ints IntKind.i64 cs) mc (1 : Nat)], ver := (0 : Nat) }, { c := BC.typ (Cont.ints IntKind.i64 ls), ver := (0 : Nat) }]) else none else none else L1 f n (mkS (37 : Nat) [((2 : Nat), AVal.ptr (0 : Nat) (0 : Nat) (0 : Nat)), ((6 : Nat), AVal.int IntKind.i64 a), ((16 : Nat), AVal.own (1 : Nat) (0 : Nat) ls.length (0 : Nat) (1 : Nat)), ((17 : Nat), AVal.int IntKind.i64 (↑ls.length : Int)), ((18 : Nat), AVal.int IntKind.i64 (IntKind.i64.wrap ((↑i : Int) + (1 : Int))))] [{ c := BC.cells [AVal.int IntKind.i64 u, AVal.int IntKind.i64 r, AVal.ro (Cont.ints IntKind.i64 ws) mw (1 : Nat), AVal.ro (Cont.ints IntKind.i64 cs) mc (1 : Nat)], ver := (0 : Nat) }, { c := BC.typ (Cont.ints IntKind.i64 ls), ver := (0 : Nat) }])) := by kernel_rfl
theorem inner (u r : Int) (ws cs : List Int) (mw mc : Nat) (ls : List Int) (f n i : Nat) (hu : 1 ≤ u ∧ u ≤ 8) (hr : 1 ≤ r ∧ r ≤ 8) (hm : (mc : Int) = u * r) (hc : mc ≤ cs.length) (hl : (ls.length : Int) = r) (hv : ∀ y ∈ ls, 0 ≤ y ∧ y ≤ u) (h1 : i < ls.length) : ∀ (d n2 : Nat) (k a : Int), k + (d : Int) = ls[i] → 0 ≤ k → d < n2 →
    L2 f n n2 (mkS 37 [(2, .ptr 0 0 0), (6, .int .i64 a), (7, .int .i64 i), (16, .own 1 0 ls.length 0 1), (17, .int .i64 ls.length), (18, .int .i64 i), (23, .int .i64 ls[i]), (24, .int .i64 k)] [⟨.cells [.int .i64 u, .int .i64 r, .ro (.ints .i64 ws) mw 1, .ro (.ints .i64 cs) mc 1], 0⟩, ⟨.typ (.ints .i64 ls), 0⟩]) = L1 f n (mkS 37 [(2, .ptr 0 0 0), (6, .int .i64 (pot.ps u (cs.take mc) i d (k + 1) a)), (16, .own 1 0 ls.length 0 1), (17, .int .i64 ls.length), (18, .int .i64 ((i + 1 : Nat) : Int))] [⟨.cells [.int .i64 u, .int .i64 r, .ro (.ints .i64 ws) mw 1, .ro (.ints .i64 cs) mc 1], 0⟩, ⟨.typ (.ints .i64 ls), 0⟩]) := by
  have h4 : (0 : Int) ≤ (i : Int) := Int.natCast_nonneg _
  have h5 : (i : Int) < (ls.length : Int) := by omega
  have h6 : (i : Int) < r := by omega
  have hy := hv ls[i] (List.getElem_mem h1)
  intro d
  induction d with
  | zero =>
    intro n2 k a hk h0 hn
    obtain ⟨n2, rfl⟩ : ∃ k, n2 = k + 1 := ⟨n2 - 1, by omega⟩
    rw [round2]
    have c : ¬ (k < ls[i]) := by omega
    simp only [Int.toNat_natCast, gz_eq h1, c, h4, h5, h1, decide_true, decide_false, Bool.and_self, Bool.or_self, Bool.and_true, Bool.true_and, cond_true, cond_false, pot.ps, wrap_nat i (by omega)]
  | succ d ih =>
    intro n2 k a hk h0 hn
    obtain ⟨n2, rfl⟩ : ∃ k, n2 = k + 1 := ⟨n2 - 1, by omega⟩
    rw [round2]
    have c : k < ls[i] := by omega
    obtain ⟨x1, x2, x3⟩ := pot.ix (j := (i : Int)) (k := k + 1) hu hr hm ⟨h4, h6⟩ ⟨by omega, by omega⟩
    have w1 : IntKind.i64.wrap (k + 1) = k + 1 := IntWalk.i64_in _ (by omega)
    have k1 : 1 ≤ k + 1 := by omega
    have k2 : k + 1 ≤ 64 := by omega
    have cst : pot.cost.sv u (cs.take mc) i (k + 1) = pot.cost.sv u cs i (k + 1) := by
      unfold pot.cost.sv
      rw [gz_take (by omega) hc]
    have hr2 := ih n2 (k + 1) (IntKind.i64.wrap (a + pot.cost.sv u cs i (k + 1))) (by omega) (by omega) (by omega)
    simp only [Int.toNat_natCast, gz_eq h1, c, h4, h5, h1, w1, hc, x1, x2, x3, k1, k2, and_self, decide_true, decide_false, Bool.and_self, Bool.or_self, Bool.and_true, Bool.true_and, Bool.or_true, cond_true, cond_false, pot.ps, cst]
    exact hr2
theorem outer (u r : Int) (ws cs : List Int) (mw mc : Nat) (ls : List Int) (f : Nat) (hu : 1 ≤ u ∧ u ≤ 8) (hr : 1 ≤ r ∧ r ≤ 8) (hm : (mc : Int) = u * r) (hc : mc ≤ cs.length) (hl : (ls.length : Int) = r) (hv : ∀ y ∈ ls, 0 ≤ y ∧ y ≤ u) (hf : 9 < f) : ∀ (d i n : Nat) (a : Int), i + d = ls.length → d < n →
    L1 f n (mkS 37 [(2, .ptr 0 0 0), (6, .int .i64 a), (16, .own 1 0 ls.length 0 1), (17, .int .i64 ls.length), (18, .int .i64 i)] [⟨.cells [.int .i64 u, .int .i64 r, .ro (.ints .i64 ws) mw 1, .ro (.ints .i64 cs) mc 1], 0⟩, ⟨.typ (.ints .i64 ls), 0⟩]) = some (.tup [.int .i64 (pot.pl u (cs.take mc) (ls.drop i) i a), .bool true], []) := by
  intro d
  induction d with
  | zero =>
    intro i n a hi hn
    obtain ⟨n, rfl⟩ : ∃ k, n = k + 1 := ⟨n - 1, by omega⟩
    obtain rfl : i = ls.length := by omega
    rw [round1]
    have e : ls.drop ls.length = [] := by simp
    have c : ¬ ((ls.length : Int) < r) := by omega
    simp only [e, c, pot.pl, Int.lt_irrefl, decide_false, cond_false, Bool.and_self, cond_true]
  | succ d ih =>
    intro i n a hi hn
    obtain ⟨n, rfl⟩ : ∃ k, n = k + 1 := ⟨n - 1, by omega⟩
    have h1 : i < ls.length := by omega
    have h4 : (0 : Int) ≤ (i : Int) := Int.natCast_nonneg _
    have h5 : (i : Int) < (ls.length : Int) := by omega
    have h6 : (i : Int) < r := by omega
    rw [round1, List.drop_eq_getElem_cons h1]
    have hy := hv ls[i] (List.getElem_mem h1)
    have hin := inner u r ws cs mw mc ls f n i hu hr hm hc hl hv h1 ls[i].toNat f 0 a (by omega) (by omega) (by omega)
    have hih := ih (i + 1) n (pot.ps u (cs.take mc) i ls[i].toNat 1 a) (by omega) (by omega)
    simp only [pot.pl]
    simp only [Int.toNat_natCast, gz_eq h1, h4, h5, h6, h1, decide_true, Bool.and_self, Bool.or_self, Bool.and_true, Bool.true_and, cond_true]
    exact hin.trans hih
theorem run : ∀ args v new, R args = some (true, v, new) → ∃ fuel, runFn Try.prog (orc [⟨88, chosen.R⟩, ⟨89, iLoads.R⟩, ⟨90, iCost.R⟩]) hd Dr.std (some 0) fuel (bodyOf Try.f32) 37 [4, 5] args [] = some (v, new) := by
  intro args v new h
  unfold R at h
  split at h
  · rename_i u r ws mw cs mc xs l
    simp only [Option.some.injEq, Prod.mk.injEq, decide_eq_true_eq] at h
    obtain ⟨⟨h1, h2, h3, h4, h5, h6⟩, rfl, rfl⟩ := h
    have e2 : (cs.take mc).length = mc := by simp; omega
    obtain ⟨F, hF⟩ : ∃ F : Nat, F = 100 := ⟨100, rfl⟩
    refine ⟨F, ?_⟩
    rw [start]
    unfold pot.sv
    simp only [h1, h2, h3, h4, h5, h6, and_self, decide_true, Bool.and_self, Bool.or_self, Bool.and_true, Bool.true_and, Bool.or_true, cond_true]
    cases hv : load.sp u r (ws.take mw) (cs.take mc) (xs.take l)
    · rfl
    obtain ⟨v1, v2, v3, v4, v5, v6, v7⟩ := load.valid hv
    rw [e2] at v4
    have hle := pot.loads_le hv
    have hlen : (load.sv r (ws.take mw) (xs.take l)).length = r.toNat := load.sv_length _ _ _
    have ho := outer u r ws cs mw mc (load.sv r (ws.take mw) (xs.take l)) F v1 v2 v4 h3 (by omega) hle (by omega) (load.sv r (ws.take mw) (xs.take l)).length 0 F 0 (by omega) (by omega)
    rw [List.drop_zero] at ho
    simp only [Bool.not_true, cond_false, cond_true]
    exact ho
  · cases h
theorem ok : EntOk Try.prog ⟨32, R⟩ :=
  ent_okA mixed (A := (orc [⟨88, chosen.R⟩, ⟨89, iLoads.R⟩, ⟨90, iCost.R⟩])) (orc_ok (by simp only [List.mem_cons, List.not_mem_nil, or_false, forall_eq_or_imp, forall_eq]; exact ⟨chosen.ok, iLoads.ok, iCost.ok⟩)) Try.func32 (by kernel_rfl) (by kernel_rfl) (n := 37) (ts := [4, 5]) (hd := hd) (dr := Dr.std) (cut := (some 0)) (by kernel_rfl) (by kernel_rfl) (by kernel_rfl) run
end iCrowdPotential

namespace FnExactCrowdPotential
def R : List AVal → Option (Bool × AVal × List Blk)
  | [.agg [.int .i64 u, .int .i64 r, .ro (.ints .i64 ws) mw 1, .ro (.ints .i64 cs) mc 1], .ro (.ints .i64 xs) l 1] => some (decide (mw ≤ ws.length ∧ mc ≤ cs.length ∧ mw ≤ 9223372036854775807 ∧ mc ≤ 9223372036854775807 ∧ l ≤ xs.length), .bool true, [])
  | _ => none
theorem go (u r : Int) (ws cs : List Int) (mw mc : Nat) (xs : List Int) (l : Nat) :
  runFn Try.prog (orc [⟨29, szCrowd.R⟩, ⟨31, toCrowd.R⟩, ⟨33, eqCrowd.R⟩, ⟨22, toInt64S.R⟩, ⟨30, sCrowdPotential.R⟩, ⟨32, iCrowdPotential.R⟩, ⟨24, eqInt64N.R⟩]) hd0 Dr.std (some 0) 0 (bodyOf Try.f5) 56 [4] [.agg [.int .i64 u, .int .i64 r, .ro (.ints .i64 ws) mw 1, .ro (.ints .i64 cs) mc 1], .ro (.ints .i64 xs) l 1] []
  = (bif decide ((1048576 : Int) < (↑l : Int)) then some (AVal.bool true, []) else bif true && true && (true && true && (true && true && (true && true && true))) then bif decide (mw ≤ (9223372036854775807 : Nat) ∧ mc ≤ (9223372036854775807 : Nat) ∧ (0 : Int) ≤ (1048576 : Int) ∧ (1048576 : Int) ≤ (9223372036854775807 : Int)) && (true && (true && (true && (true && true))) && true || true && true) then bif decide ((bif decide ((1048576 : Int) - (↑mw : Int) < (0 : Int)) then (-1 : Int) else bif decide ((1048576 : Int) - (↑mw : Int) - (↑mc : Int) < (0 : Int)) then (-1 : Int) else (1048576 : Int) - (↑mw : Int) - (↑mc : Int)) < (0 : Int)) then some (AVal.bool true, []) else bif true && true && (true && true && (true && true && (true && true && true))) then bif decide (mw ≤ ws.length ∧ mw ≤ (1048576 : Nat) ∧ mc ≤ cs.length ∧ mc ≤ (1048576 : Nat)) && (true && (true && (true && (true && true))) && true || true && (true && (true && (true && true))) && (true && (true && true))) then bif decide (l ≤ xs.length ∧ l ≤ (1048576 : Nat)) && (true && true || true && (true && true)) then bif decide (mw ≤ (List.take mw ws).length ∧ mw ≤ (4611686018427387904 : Nat) ∧ mc ≤ (List.take mc cs).length ∧ mc ≤ (4611686018427387904 : Nat) ∧ l ≤ (List.take l xs).length ∧ l ≤ (4611686018427387904 : Nat)) && (true && (true && (false && (false && true))) && (false && true) || true && (true && true) && true) then bif true && true && (true && true && (true && true && (true && true && true))) then bif decide (mw ≤ ws.length ∧ mw ≤ (1048576 : Nat) ∧ mc ≤ cs.length ∧ mc ≤ (1048576 : Nat)) && (true && (true && (true && (true && true))) && true || true && (true && (true && (true && true))) && (true && (true && true))) then bif true && (true && (true && (true && (true && (true && true))))) then bif decide (l ≤ xs.length ∧ l ≤ (1048576 : Nat)) && (true && true || true && (true && true)) then bif true && true && (true && true && (true && true && (true && true && true))) then bif decide (mw ≤ (List.take mw ws).length ∧ mw ≤ (4611686018427387904 : Nat) ∧ mc ≤ (List.take mc cs).length ∧ mc ≤ (4611686018427387904 : Nat) ∧ l ≤ (List.take l xs).length ∧ l ≤ (4611686018427387904 : Nat)) && (true && (true && (false && (false && true))) && (false && true) || true && (true && true) && true) then bif pot.sv u r (List.take mw (List.take mw ws)) (List.take mc (List.take mc cs)) (List.take l (List.take l xs)) != pot.sv u r (List.take mw (List.take mw ws)) (List.take mc (List.take mc cs)) (List.take l (List.take l xs)) then some (AVal.bool false, []) else bif !load.sp u r (List.take mw (List.take mw ws)) (List.take mc (List.take mc cs)) (List.take l (List.take l xs)) == load.sp u r (List.take mw (List.take mw ws)) (List.take mc (List.take mc cs)) (List.take l (List.take l xs)) then some (AVal.bool false, []) else bif true && true && (true && true && (true && true && (true && true && true))) then bif true && true && (true && true && (true && true && (true && true && true))) then bif decide (mw ≤ ws.length ∧ mw ≤ (1048576 : Nat) ∧ mc ≤ cs.length ∧ mc ≤ (1048576 : Nat)) && (true && (true && (true && (true && true))) && true || true && (true && (true && (true && true))) && (true && (true && true))) then bif decide (mw ≤ (List.take mw ws).length ∧ mw ≤ (List.take mw ws).length ∧ mw ≤ (4611686018427387904 : Nat) ∧ mc ≤ (List.take mc cs).length ∧ mc ≤ (List.take mc cs).length ∧ mc ≤ (4611686018427387904 : Nat)) && (true && (true && (false && (false && true))) && (true && (true && (false && (false && true))) && true) || true && true) then bif !(decide (u = u) && (decide (r = r) && (decide (List.take mw (List.take mw ws) = List.take mw (List.take mw ws)) && decide (List.take mc (List.take mc cs) = List.take mc (List.take mc cs))))) then some (AVal.bool false, []) else bif decide (l ≤ xs.length ∧ l ≤ (1048576 : Nat)) && (true && true || true && (true && true)) then bif decide (l ≤ (List.take l xs).length ∧ l ≤ (List.take l xs).length ∧ l ≤ (4611686018427387904 : Nat)) && (false && (false && true) || true && true) then bif !decide (List.take l (List.take l xs) = List.take l (List.take l xs)) then some (AVal.bool false, []) else some (AVal.bool true, []) else none else none else none else none else none else none else none else none else none else none else none else none else none else none else none else none else none else none) := by kernel_rfl
theorem run : ∀ args v new, R args = some (true, v, new) → ∃ fuel, runFn Try.prog (orc [⟨29, szCrowd.R⟩, ⟨31, toCrowd.R⟩, ⟨33, eqCrowd.R⟩, ⟨22, toInt64S.R⟩, ⟨30, sCrowdPotential.R⟩, ⟨32, iCrowdPotential.R⟩, ⟨24, eqInt64N.R⟩]) hd0 Dr.std (some 0) fuel (bodyOf Try.f5) 56 [4] args [] = some (v, new) := by
  intro args v new h
  unfold R at h
  split at h
  · rename_i u r ws mw cs mc xs l
    simp only [Option.some.injEq, Prod.mk.injEq, Bool.or_eq_true, Bool.and_eq_true, decide_eq_true_eq, Bool.not_eq_true'] at h
    obtain ⟨⟨h1, h2, h3, h4, h5⟩, rfl, rfl⟩ := h
    refine ⟨0, ?_⟩
    rw [go]
    have z1 : (0 : Int) ≤ 1048576 := by decide
    have z2 : (1048576 : Int) ≤ 9223372036854775807 := by decide
    have z3 : (-1 : Int) < 0 := by decide
    by_cases b0 : (1048576 : Int) < (l : Int)
    · simp only [b0, List.take_take, Nat.min_self, Nat.le_refl, List.take_length, marks_length, take_marks, one_neg, i0_1, i1_b, true_and, and_true, and_self, decide_true, decide_false, Bool.and_self, Bool.or_self, Bool.and_true, Bool.true_and, Bool.and_false, Bool.false_and, Bool.or_true, Bool.true_or, Bool.or_false, Bool.false_or, Bool.not_true, Bool.not_false, cond_true, cond_false, bne_self_eq_false, beq_self_eq_true]
    by_cases a1 : (1048576 : Int) - (mw : Int) < 0
    · simp only [a1, b0, h3, h4, z1, z2, z3, List.take_take, Nat.min_self, Nat.le_refl, List.take_length, marks_length, take_marks, one_neg, i0_1, i1_b, true_and, and_true, and_self, decide_true, decide_false, Bool.and_self, Bool.or_self, Bool.and_true, Bool.true_and, Bool.and_false, Bool.false_and, Bool.or_true, Bool.true_or, Bool.or_false, Bool.false_or, Bool.not_true, Bool.not_false, cond_true, cond_false, bne_self_eq_false, beq_self_eq_true]
    by_cases a2 : (1048576 : Int) - (mw : Int) - (mc : Int) < 0
    · simp only [a1, a2, b0, h3, h4, z1, z2, z3, List.take_take, Nat.min_self, Nat.le_refl, List.take_length, marks_length, take_marks, one_neg, i0_1, i1_b, true_and, and_true, and_self, decide_true, decide_false, Bool.and_self, Bool.or_self, Bool.and_true, Bool.true_and, Bool.and_false, Bool.false_and, Bool.or_true, Bool.true_or, Bool.or_false, Bool.false_or, Bool.not_true, Bool.not_false, cond_true, cond_false, bne_self_eq_false, beq_self_eq_true]
    have b1 : mw ≤ 1048576 := by omega
    have b2 : mc ≤ 1048576 := by omega
    have b5 : mw ≤ 4611686018427387904 := by omega
    have b6 : mc ≤ 4611686018427387904 := by omega
    have e1 : (ws.take mw).length = mw := by simp; omega
    have e2 : (cs.take mc).length = mc := by simp; omega
    have b7 : l ≤ 1048576 := by omega
    have b8 : l ≤ 4611686018427387904 := by omega
    have e3 : (xs.take l).length = l := by simp; omega
    simp only [b0, h3, h4, z1, z2, z3, a1, a2, b1, b2, b5, b6, e1, e2, h1, h2, b7, b8, e3, h5, List.take_take, Nat.min_self, Nat.le_refl, List.take_length, marks_length, take_marks, one_neg, i0_1, i1_b, true_and, and_true, and_self, decide_true, decide_false, Bool.and_self, Bool.or_self, Bool.and_true, Bool.true_and, Bool.and_false, Bool.false_and, Bool.or_true, Bool.true_or, Bool.or_false, Bool.false_or, Bool.not_true, Bool.not_false, cond_true, cond_false, bne_self_eq_false, beq_self_eq_true]
  · cases h
theorem ok : EntOk Try.prog ⟨5, R⟩ :=
  ent_okA mixed (A := (orc [⟨29, szCrowd.R⟩, ⟨31, toCrowd.R⟩, ⟨33, eqCrowd.R⟩, ⟨22, toInt64S.R⟩, ⟨30, sCrowdPotential.R⟩, ⟨32, iCrowdPotential.R⟩, ⟨24, eqInt64N.R⟩])) (orc_ok (by simp only [List.mem_cons, List.not_mem_nil, or_false, forall_eq_or_imp, forall_eq]; exact ⟨szCrowd.ok, toCrowd.ok, eqCrowd.ok, toInt64S.ok, sCrowdPotential.ok, iCrowdPotential.ok, eqInt64N.ok⟩)) Try.func5 (by kernel_rfl) (by kernel_rfl) (n := 56) (ts := [4]) (hd := hd0) (dr := Dr.std) (cut := (some 0)) (by kernel_rfl) (by kernel_rfl) (by kernel_rfl) run
end FnExactCrowdPotential

end Go.Proofs.Ytcndnfkkofacbaa.Ab
