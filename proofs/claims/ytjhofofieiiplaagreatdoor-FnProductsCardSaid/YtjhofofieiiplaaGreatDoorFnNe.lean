/-
  Functions: numbers with base 16 are read.
-/
import Derived.Test.YtjhofofieiiplaaGreatDoorFnNc
namespace Go.Proofs.YtjhofofieiiplaaGreatDoor.Ab
open Go
set_option linter.unusedVariables false
set_option linter.unusedSimpArgs false
set_option maxRecDepth 100000

namespace hx
/-- A digit with base 16, in small letters. -/
def is.sp (c : Int) : Bool := (decide (48 ≤ c) && decide (c ≤ 57)) || (decide (97 ≤ c) && decide (c ≤ 102))
def hv (c : Int) : Nat := if c ≤ 57 then (c - 48).toNat else (c - 87).toNat
/-- The number with some digits, behind others. -/
def rd : List Int → Nat → Nat
  | [], v => v
  | c :: r, v => rd r (v * 16 + hv c)
def ok.sp (s : ByteArray) : Bool := decide (1 ≤ (sby.sv s).length ∧ (sby.sv s).length ≤ 8) && (sby.sv s).all is.sp
def r.sv (s : ByteArray) : Nat := rd (sby.sv s) 0
theorem hv_lt {c : Int} (h : is.sp c = true) : hv c < 16 := by
  unfold is.sp at h
  simp only [Bool.or_eq_true, Bool.and_eq_true, decide_eq_true_eq] at h
  unfold hv
  split <;> omega
theorem or32 : ∀ k : Nat, k < 6 → ior.sv .u8 (97 + (k : Int)) 32 = 97 + (k : Int) := by decide +kernel
theorem rd_lt : ∀ (xs : List Int) (v : Nat), xs.all is.sp = true → rd xs v < (v + 1) * 16 ^ xs.length
  | [], v, _ => by simp [rd]
  | c :: r, v, h => by
    simp only [List.all_cons, Bool.and_eq_true] at h
    have h1 := rd_lt r (v * 16 + hv c) h.2
    have h2 := hv_lt h.1
    rw [rd, List.length_cons, Nat.pow_succ]
    refine Nat.lt_of_lt_of_le h1 ?_
    rw [Nat.mul_comm (16 ^ r.length) 16, ← Nat.mul_assoc]
    exact Nat.mul_le_mul_right _ (by omega)
end hx
theorem drop_gz {xs : List Int} {i : Nat} (h : i < xs.length) : xs.drop i = gz xs i :: xs.drop (i + 1) := by
  rw [List.drop_eq_getElem_cons h, gz_eq h]

namespace lower
def R : List AVal → Option (Bool × AVal × List Blk)
  | [.int .u8 c] => some (true, .int .u8 (ior.sv .u8 c 32), [])
  | _ => none
theorem go (c : Int) :
  runFn Tryz.prog (orc []) hd0 Dr.std none 0 (bodyOf Tryz.f106) 5 [2] [.int .u8 c] []
  = (some (AVal.int IntKind.u8 (ior.sv IntKind.u8 c (32 : Int)), [])) := by kernel_rfl
theorem run : ∀ args v new, R args = some (true, v, new) → ∃ fuel, runFn Tryz.prog (orc []) hd0 Dr.std none fuel (bodyOf Tryz.f106) 5 [2] args [] = some (v, new) := by
  intro args v new h
  unfold R at h
  split at h
  · rename_i c
    simp only [Option.some.injEq, Prod.mk.injEq] at h
    obtain ⟨_, rfl, rfl⟩ := h
    exact ⟨0, by rw [go]⟩
  · cases h
theorem ok : EntOk Tryz.prog ⟨106, R⟩ :=
  ent_okA mixed (A := (orc [])) (orc_ok (by simp)) Tryz.func106 (by kernel_rfl) (by kernel_rfl) (n := 5) (ts := [2]) (hd := hd0) (dr := Dr.std) (cut := none) (by kernel_rfl) (by kernel_rfl) (by kernel_rfl) run
end lower

namespace inParseUint
def R : List AVal → Option (Bool × AVal × List Blk)
  | [.str s, .int .i64 b, .int .i64 w] => some (decide (b = 16 ∧ w = 32) && hx.ok.sp s, .tup [.int .u64 ((hx.r.sv s : Nat) : Int), .nili], [])
  | _ => none
def hd : Nat → Head := fun _ => ⟨[1, 6, 7, 8, 9, 10, 11, 12, 13, 99, 100, 101], none⟩
noncomputable def L (f n : Nat) (s : State) := loopAt Tryz.prog (orc [⟨106, lower.R⟩]) hd Dr.std 0 f (bodyOf Tryz.f92) 0 [true, true, true, true, true, true, true, true, true, true, true, false, true] (retK Tryz.prog [6, 7] 0 none) n s
theorem start (s : ByteArray) (f : Nat) :
  runFn Tryz.prog (orc [⟨106, lower.R⟩]) hd Dr.std none f (bodyOf Tryz.f92) 172 [6, 7] [.str s, .int .i64 16, .int .i64 32] []
  = (bif seq.sv s { data := { toList := [] } } then none else L f f (mkS (172 : Nat) [((1 : Nat), AVal.int IntKind.i64 (16 : Int)), ((6 : Nat), AVal.int IntKind.u64 (0 : Int)), ((7 : Nat), AVal.nili), ((8 : Nat), AVal.bool ((16 : Int) == (0 : Int))), ((9 : Nat), AVal.str s), ((10 : Nat), AVal.int IntKind.u64 (1152921504606846976 : Int)), ((11 : Nat), AVal.int IntKind.u64 (4294967295 : Int)), ((12 : Nat), AVal.bool false), ((13 : Nat), AVal.int IntKind.u64 (0 : Int)), ((99 : Nat), AVal.ro (Cont.ints IntKind.u8 (sby.sv s)) (sby.sv s).length (1 : Nat)), ((100 : Nat), AVal.int IntKind.i64 (↑(sby.sv s).length : Int)), ((101 : Nat), AVal.int IntKind.i64 (0 : Int))] [])) := by kernel_rfl
theorem round (s : ByteArray) (b8 : Bool) (xs : List Int) (m : Nat) (v i : Int) (f n : Nat) :
  L f (n + 1) (mkS 172 [(1, .int .i64 16), (6, .int .u64 0), (7, .nili), (8, .bool b8), (9, .str s), (10, .int .u64 1152921504606846976), (11, .int .u64 4294967295), (12, .bool false), (13, .int .u64 v), (99, .ro (.ints .u8 xs) m 1), (100, .int .i64 ((m : Nat) : Int)), (101, .int .i64 i)] [])
  = (bif decide (i < (↑m : Int)) then bif true && (decide ((0 : Int) ≤ i) && decide (i < (↑m : Int))) then bif decide (i.toNat < xs.length) then bif gz xs i.toNat == (95 : Int) then bif b8 then L f n (mkS (172 : Nat) [((1 : Nat), AVal.int IntKind.i64 (16 : Int)), ((6 : Nat), AVal.int IntKind.u64 (0 : Int)), ((7 : Nat), AVal.nili), ((8 : Nat), AVal.bool b8), ((9 : Nat), AVal.str s), ((10 : Nat), AVal.int IntKind.u64 (1152921504606846976 : Int)), ((11 : Nat), AVal.int IntKind.u64 (4294967295 : Int)), ((12 : Nat), AVal.bool true), ((13 : Nat), AVal.int IntKind.u64 v), ((99 : Nat), AVal.ro (Cont.ints IntKind.u8 xs) m (1 : Nat)), ((100 : Nat), AVal.int IntKind.i64 (↑m : Int)), ((101 : Nat), AVal.int IntKind.i64 (IntKind.i64.wrap (i + (1 : Int))))] []) else bif decide ((48 : Int) ≤ gz xs i.toNat) then bif decide (gz xs i.toNat ≤ (57 : Int)) then bif decide ((16 : Int) ≤ IntKind.u8.wrap (gz xs i.toNat - (48 : Int))) then none else bif decide ((1152921504606846976 : Int) ≤ v) then none else bif decide (IntKind.u64.wrap (IntKind.u64.wrap (v * (16 : Int)) + IntKind.u64.wrap (IntKind.u8.wrap (gz xs i.toNat - (48 : Int)))) < IntKind.u64.wrap (v * (16 : Int))) then none else bif decide ((4294967295 : Int) < IntKind.u64.wrap (IntKind.u64.wrap (v * (16 : Int)) + IntKind.u64.wrap (IntKind.u8.wrap (gz xs i.toNat - (48 : Int))))) then none else L f n (mkS (172 : Nat) [((1 : Nat), AVal.int IntKind.i64 (16 : Int)), ((6 : Nat), AVal.int IntKind.u64 (0 : Int)), ((7 : Nat), AVal.nili), ((8 : Nat), AVal.bool b8), ((9 : Nat), AVal.str s), ((10 : Nat), AVal.int IntKind.u64 (1152921504606846976 : Int)), ((11 : Nat), AVal.int IntKind.u64 (4294967295 : Int)), ((12 : Nat), AVal.bool false), ((13 : Nat), AVal.int IntKind.u64 (IntKind.u64.wrap (IntKind.u64.wrap (v * (16 : Int)) + IntKind.u64.wrap (IntKind.u8.wrap (gz xs i.toNat - (48 : Int)))))), ((99 : Nat), AVal.ro (Cont.ints IntKind.u8 xs) m (1 : Nat)), ((100 : Nat), AVal.int IntKind.i64 (↑m : Int)), ((101 : Nat), AVal.int IntKind.i64 (IntKind.i64.wrap (i + (1 : Int))))] []) else bif true && (true && true || true && true) then bif decide ((97 : Int) ≤ ior.sv IntKind.u8 (gz xs i.toNat) (32 : Int)) then bif true && (true && true || true && true) then bif decide (ior.sv IntKind.u8 (gz xs i.toNat) (32 : Int) ≤ (122 : Int)) then bif true && (true && true || true && true) then bif decide ((16 : Int) ≤ IntKind.u8.wrap (IntKind.u8.wrap (ior.sv IntKind.u8 (gz xs i.toNat) (32 : Int) - (97 : Int)) + (10 : Int))) then none else bif decide ((1152921504606846976 : Int) ≤ v) then none else bif decide (IntKind.u64.wrap (IntKind.u64.wrap (v * (16 : Int)) + IntKind.u64.wrap (IntKind.u8.wrap (IntKind.u8.wrap (ior.sv IntKind.u8 (gz xs i.toNat) (32 : Int) - (97 : Int)) + (10 : Int)))) < IntKind.u64.wrap (v * (16 : Int))) then none else bif decide ((4294967295 : Int) < IntKind.u64.wrap (IntKind.u64.wrap (v * (16 : Int)) + IntKind.u64.wrap (IntKind.u8.wrap (IntKind.u8.wrap (ior.sv IntKind.u8 (gz xs i.toNat) (32 : Int) - (97 : Int)) + (10 : Int))))) then none else L f n (mkS (172 : Nat) [((1 : Nat), AVal.int IntKind.i64 (16 : Int)), ((6 : Nat), AVal.int IntKind.u64 (0 : Int)), ((7 : Nat), AVal.nili), ((8 : Nat), AVal.bool b8), ((9 : Nat), AVal.str s), ((10 : Nat), AVal.int IntKind.u64 (1152921504606846976 : Int)), ((11 : Nat), AVal.int IntKind.u64 (4294967295 : Int)), ((12 : Nat), AVal.bool false), ((13 : Nat), AVal.int IntKind.u64 (IntKind.u64.wrap (IntKind.u64.wrap (v * (16 : Int)) + IntKind.u64.wrap (IntKind.u8.wrap (IntKind.u8.wrap (ior.sv IntKind.u8 (gz xs i.toNat) (32 : Int) - (97 : Int)) + (10 : Int)))))), ((99 : Nat), AVal.ro (Cont.ints IntKind.u8 xs) m (1 : Nat)), ((100 : Nat), AVal.int IntKind.i64 (↑m : Int)), ((101 : Nat), AVal.int IntKind.i64 (IntKind.i64.wrap (i + (1 : Int))))] []) else none else none else none else none else none else bif true && (true && true || true && true) then bif decide ((97 : Int) ≤ ior.sv IntKind.u8 (gz xs i.toNat) (32 : Int)) then bif true && (true && true || true && true) then bif decide (ior.sv IntKind.u8 (gz xs i.toNat) (32 : Int) ≤ (122 : Int)) then bif true && (true && true || true && true) then bif decide ((16 : Int) ≤ IntKind.u8.wrap (IntKind.u8.wrap (ior.sv IntKind.u8 (gz xs i.toNat) (32 : Int) - (97 : Int)) + (10 : Int))) then none else bif decide ((1152921504606846976 : Int) ≤ v) then none else bif decide (IntKind.u64.wrap (IntKind.u64.wrap (v * (16 : Int)) + IntKind.u64.wrap (IntKind.u8.wrap (IntKind.u8.wrap (ior.sv IntKind.u8 (gz xs i.toNat) (32 : Int) - (97 : Int)) + (10 : Int)))) < IntKind.u64.wrap (v * (16 : Int))) then none else bif decide ((4294967295 : Int) < IntKind.u64.wrap (IntKind.u64.wrap (v * (16 : Int)) + IntKind.u64.wrap (IntKind.u8.wrap (IntKind.u8.wrap (ior.sv IntKind.u8 (gz xs i.toNat) (32 : Int) - (97 : Int)) + (10 : Int))))) then none else L f n (mkS (172 : Nat) [((1 : Nat), AVal.int IntKind.i64 (16 : Int)), ((6 : Nat), AVal.int IntKind.u64 (0 : Int)), ((7 : Nat), AVal.nili), ((8 : Nat), AVal.bool b8), ((9 : Nat), AVal.str s), ((10 : Nat), AVal.int IntKind.u64 (1152921504606846976 : Int)), ((11 : Nat), AVal.int IntKind.u64 (4294967295 : Int)), ((12 : Nat), AVal.bool false), ((13 : Nat), AVal.int IntKind.u64 (IntKind.u64.wrap (IntKind.u64.wrap (v * (16 : Int)) + IntKind.u64.wrap (IntKind.u8.wrap (IntKind.u8.wrap (ior.sv IntKind.u8 (gz xs i.toNat) (32 : Int) - (97 : Int)) + (10 : Int)))))), ((99 : Nat), AVal.ro (Cont.ints IntKind.u8 xs) m (1 : Nat)), ((100 : Nat), AVal.int IntKind.i64 (↑m : Int)), ((101 : Nat), AVal.int IntKind.i64 (IntKind.i64.wrap (i + (1 : Int))))] []) else none else none else none else none else none else bif decide ((48 : Int) ≤ gz xs i.toNat) then bif decide (gz xs i.toNat ≤ (57 : Int)) then bif decide ((16 : Int) ≤ IntKind.u8.wrap (gz xs i.toNat - (48 : Int))) then none else bif decide ((1152921504606846976 : Int) ≤ v) then none else bif decide (IntKind.u64.wrap (IntKind.u64.wrap (v * (16 : Int)) + IntKind.u64.wrap (IntKind.u8.wrap (gz xs i.toNat - (48 : Int)))) < IntKind.u64.wrap (v * (16 : Int))) then none else bif decide ((4294967295 : Int) < IntKind.u64.wrap (IntKind.u64.wrap (v * (16 : Int)) + IntKind.u64.wrap (IntKind.u8.wrap (gz xs i.toNat - (48 : Int))))) then none else L f n (mkS (172 : Nat) [((1 : Nat), AVal.int IntKind.i64 (16 : Int)), ((6 : Nat), AVal.int IntKind.u64 (0 : Int)), ((7 : Nat), AVal.nili), ((8 : Nat), AVal.bool b8), ((9 : Nat), AVal.str s), ((10 : Nat), AVal.int IntKind.u64 (1152921504606846976 : Int)), ((11 : Nat), AVal.int IntKind.u64 (4294967295 : Int)), ((12 : Nat), AVal.bool false), ((13 : Nat), AVal.int IntKind.u64 (IntKind.u64.wrap (IntKind.u64.wrap (v * (16 : Int)) + IntKind.u64.wrap (IntKind.u8.wrap (gz xs i.toNat - (48 : Int)))))), ((99 : Nat), AVal.ro (Cont.ints IntKind.u8 xs) m (1 : Nat)), ((100 : Nat), AVal.int IntKind.i64 (↑m : Int)), ((101 : Nat), AVal.int IntKind.i64 (IntKind.i64.wrap (i + (1 : Int))))] []) else bif true && (true && true || true && true) then bif decide ((97 : Int) ≤ ior.sv IntKind.u8 (gz xs i.toNat) (32 : Int)) then bif true && (true && true || true && true) then bif decide (ior.sv IntKind.u8 (gz xs i.toNat) (32 : Int) ≤ (122 : Int)) then bif true && (true && true || true && true) then bif decide ((16 : Int) ≤ IntKind.u8.wrap (IntKind.u8.wrap (ior.sv IntKind.u8 (gz xs i.toNat) (32 : Int) - (97 : Int)) + (10 : Int))) then none else bif decide ((1152921504606846976 : Int) ≤ v) then none else bif decide (IntKind.u64.wrap (IntKind.u64.wrap (v * (16 : Int)) + IntKind.u64.wrap (IntKind.u8.wrap (IntKind.u8.wrap (ior.sv IntKind.u8 (gz xs i.toNat) (32 : Int) - (97 : Int)) + (10 : Int)))) < IntKind.u64.wrap (v * (16 : Int))) then none else bif decide ((4294967295 : Int) < IntKind.u64.wrap (IntKind.u64.wrap (v * (16 : Int)) + IntKind.u64.wrap (IntKind.u8.wrap (IntKind.u8.wrap (ior.sv IntKind.u8 (gz xs i.toNat) (32 : Int) - (97 : Int)) + (10 : Int))))) then none else L f n (mkS (172 : Nat) [((1 : Nat), AVal.int IntKind.i64 (16 : Int)), ((6 : Nat), AVal.int IntKind.u64 (0 : Int)), ((7 : Nat), AVal.nili), ((8 : Nat), AVal.bool b8), ((9 : Nat), AVal.str s), ((10 : Nat), AVal.int IntKind.u64 (1152921504606846976 : Int)), ((11 : Nat), AVal.int IntKind.u64 (4294967295 : Int)), ((12 : Nat), AVal.bool false), ((13 : Nat), AVal.int IntKind.u64 (IntKind.u64.wrap (IntKind.u64.wrap (v * (16 : Int)) + IntKind.u64.wrap (IntKind.u8.wrap (IntKind.u8.wrap (ior.sv IntKind.u8 (gz xs i.toNat) (32 : Int) - (97 : Int)) + (10 : Int)))))), ((99 : Nat), AVal.ro (Cont.ints IntKind.u8 xs) m (1 : Nat)), ((100 : Nat), AVal.int IntKind.i64 (↑m : Int)), ((101 : Nat), AVal.int IntKind.i64 (IntKind.i64.wrap (i + (1 : Int))))] []) else none else none else none else none else none else bif true && (true && true || true && true) then bif decide ((97 : Int) ≤ ior.sv IntKind.u8 (gz xs i.toNat) (32 : Int)) then bif true && (true && true || true && true) then bif decide (ior.sv IntKind.u8 (gz xs i.toNat) (32 : Int) ≤ (122 : Int)) then bif true && (true && true || true && true) then bif decide ((16 : Int) ≤ IntKind.u8.wrap (IntKind.u8.wrap (ior.sv IntKind.u8 (gz xs i.toNat) (32 : Int) - (97 : Int)) + (10 : Int))) then none else bif decide ((1152921504606846976 : Int) ≤ v) then none else bif decide (IntKind.u64.wrap (IntKind.u64.wrap (v * (16 : Int)) + IntKind.u64.wrap (IntKind.u8.wrap (IntKind.u8.wrap (ior.sv IntKind.u8 (gz xs i.toNat) (32 : Int) - (97 : Int)) + (10 : Int)))) < IntKind.u64.wrap (v * (16 : Int))) then none else bif decide ((4294967295 : Int) < IntKind.u64.wrap (IntKind.u64.wrap (v * (16 : Int)) + IntKind.u64.wrap (IntKind.u8.wrap (IntKind.u8.wrap (ior.sv IntKind.u8 (gz xs i.toNat) (32 : Int) - (97 : Int)) + (10 : Int))))) then none else L f n (mkS (172 : Nat) [((1 : Nat), AVal.int IntKind.i64 (16 : Int)), ((6 : Nat), AVal.int IntKind.u64 (0 : Int)), ((7 : Nat), AVal.nili), ((8 : Nat), AVal.bool b8), ((9 : Nat), AVal.str s), ((10 : Nat), AVal.int IntKind.u64 (1152921504606846976 : Int)), ((11 : Nat), AVal.int IntKind.u64 (4294967295 : Int)), ((12 : Nat), AVal.bool false), ((13 : Nat), AVal.int IntKind.u64 (IntKind.u64.wrap (IntKind.u64.wrap (v * (16 : Int)) + IntKind.u64.wrap (IntKind.u8.wrap (IntKind.u8.wrap (ior.sv IntKind.u8 (gz xs i.toNat) (32 : Int) - (97 : Int)) + (10 : Int)))))), ((99 : Nat), AVal.ro (Cont.ints IntKind.u8 xs) m (1 : Nat)), ((100 : Nat), AVal.int IntKind.i64 (↑m : Int)), ((101 : Nat), AVal.int IntKind.i64 (IntKind.i64.wrap (i + (1 : Int))))] []) else none else none else none else none else none else none else none else some (AVal.tup [AVal.int IntKind.u64 v, AVal.nili], [])) := by kernel_rfl
theorem loop (s : ByteArray) (b8 : Bool) (xs : List Int) (f : Nat) (h8 : xs.length ≤ 8) (hA : ∀ c ∈ xs, hx.is.sp c = true) : ∀ (d n i v : Nat), i + d = xs.length → v < 16 ^ i → d < n →
    L f n (mkS 172 [(1, .int .i64 16), (6, .int .u64 0), (7, .nili), (8, .bool b8), (9, .str s), (10, .int .u64 1152921504606846976), (11, .int .u64 4294967295), (12, .bool false), (13, .int .u64 ((v : Nat) : Int)), (99, .ro (.ints .u8 xs) xs.length 1), (100, .int .i64 ((xs.length : Nat) : Int)), (101, .int .i64 ((i : Nat) : Int))] []) = some (.tup [.int .u64 ((hx.rd (xs.drop i) v : Nat) : Int), .nili], []) := by
  intro d
  induction d with
  | zero =>
    intro n i v hi hv hn
    obtain ⟨n, rfl⟩ : ∃ k, n = k + 1 := ⟨n - 1, by omega⟩
    have c1 : ¬ (((i : Nat) : Int) < ((xs.length : Nat) : Int)) := by omega
    rw [round, List.drop_eq_nil_of_le (by omega)]
    simp only [c1, decide_false, cond_false]
    rfl
  | succ d ih =>
    intro n i v hi hv hn
    obtain ⟨n, rfl⟩ : ∃ k, n = k + 1 := ⟨n - 1, by omega⟩
    have hlt : i < xs.length := by omega
    have hc := hA (gz xs i) (by rw [gz_eq hlt]; exact List.getElem_mem hlt)
    have h16 := hx.hv_lt hc
    have hp : 16 ^ i ≤ 16 ^ 7 := Nat.pow_le_pow_right (by decide) (by omega)
    have hv2 : v * 16 + hx.hv (gz xs i) < 16 ^ (i + 1) := by rw [Nat.pow_succ]; omega
    have hv3 : v < 268435456 := Nat.lt_of_lt_of_le hv hp
    have g := ih n (i + 1) (v * 16 + hx.hv (gz xs i)) (by omega) hv2 (by omega)
    rw [drop_gz hlt, hx.rd, round]
    have eh : hx.hv (gz xs i) = if gz xs i ≤ 57 then (gz xs i - 48).toNat else (gz xs i - 87).toNat := rfl
    unfold hx.is.sp at hc
    simp only [Bool.or_eq_true, Bool.and_eq_true, decide_eq_true_eq] at hc
    have n95 : (gz xs i == 95) = false := by rw [beq_eq_false_iff_ne]; omega
    rcases hc with ⟨c1, c2⟩ | ⟨c1, c2⟩
    · rw [if_pos c2] at eh
      have a1 : IntKind.u8.wrap (gz xs i - 48) = gz xs i - 48 := IntWalk.u8_in _ (by omega)
      have a2 : IntKind.u64.wrap (gz xs i - 48) = gz xs i - 48 := IntWalk.u64_in _ (by omega)
      have a3 : ¬ (16 ≤ gz xs i - 48) := by omega
      have w1 : IntKind.u64.wrap (((v : Nat) : Int) * 16) = ((v * 16 : Nat) : Int) := by rw [IntWalk.u64_in _ (by omega)]; omega
      have w2 : IntKind.u64.wrap (((v * 16 : Nat) : Int) + (gz xs i - 48)) = ((v * 16 + hx.hv (gz xs i) : Nat) : Int) := by rw [IntWalk.u64_in _ (by omega)]; omega
      have w3 : ¬ (((v * 16 + hx.hv (gz xs i) : Nat) : Int) < ((v * 16 : Nat) : Int)) := by omega
      have w4 : ¬ ((4294967295 : Int) < ((v * 16 + hx.hv (gz xs i) : Nat) : Int)) := by omega
      have w5 : ¬ ((1152921504606846976 : Int) ≤ ((v : Nat) : Int)) := by omega
      have wi : IntKind.i64.wrap (((i : Nat) : Int) + 1) = ((i + 1 : Nat) : Int) := by rw [IntWalk.i64_in _ (by omega)]; omega
      have i0 : (0 : Int) ≤ ((i : Nat) : Int) := Int.natCast_nonneg _
      have i1 : ((i : Nat) : Int) < ((xs.length : Nat) : Int) := by omega
      simp only [n95, Int.toNat_natCast, i0, i1, hlt, c1, c2, a1, a2, a3, w1, w2, w3, w4, w5, wi, decide_true, decide_false, Bool.and_self, cond_true, cond_false]
      exact g
    · have c3 : ¬ (gz xs i ≤ 57) := by omega
      rw [if_neg c3] at eh
      have o1 : ior.sv .u8 (gz xs i) 32 = gz xs i := by
        have := hx.or32 (gz xs i - 97).toNat (by omega)
        rwa [show 97 + (((gz xs i - 97).toNat : Nat) : Int) = gz xs i by omega] at this
      have c4 : 48 ≤ gz xs i := by omega
      have c5 : gz xs i ≤ 122 := by omega
      have a0 : IntKind.u8.wrap (gz xs i - 97) = gz xs i - 97 := IntWalk.u8_in _ (by omega)
      have a1 : IntKind.u8.wrap (gz xs i - 97 + 10) = gz xs i - 87 := by rw [IntWalk.u8_in _ (by omega)]; omega
      have a2 : IntKind.u64.wrap (gz xs i - 87) = gz xs i - 87 := IntWalk.u64_in _ (by omega)
      have a3 : ¬ (16 ≤ gz xs i - 87) := by omega
      have w1 : IntKind.u64.wrap (((v : Nat) : Int) * 16) = ((v * 16 : Nat) : Int) := by rw [IntWalk.u64_in _ (by omega)]; omega
      have w2 : IntKind.u64.wrap (((v * 16 : Nat) : Int) + (gz xs i - 87)) = ((v * 16 + hx.hv (gz xs i) : Nat) : Int) := by rw [IntWalk.u64_in _ (by omega)]; omega
      have w3 : ¬ (((v * 16 + hx.hv (gz xs i) : Nat) : Int) < ((v * 16 : Nat) : Int)) := by omega
      have w4 : ¬ ((4294967295 : Int) < ((v * 16 + hx.hv (gz xs i) : Nat) : Int)) := by omega
      have w5 : ¬ ((1152921504606846976 : Int) ≤ ((v : Nat) : Int)) := by omega
      have wi : IntKind.i64.wrap (((i : Nat) : Int) + 1) = ((i + 1 : Nat) : Int) := by rw [IntWalk.i64_in _ (by omega)]; omega
      have i0 : (0 : Int) ≤ ((i : Nat) : Int) := Int.natCast_nonneg _
      have i1 : ((i : Nat) : Int) < ((xs.length : Nat) : Int) := by omega
      simp only [n95, Int.toNat_natCast, i0, i1, hlt, c1, c3, c4, c5, o1, a0, a1, a2, a3, w1, w2, w3, w4, w5, wi, decide_true, decide_false, Bool.and_self, cond_true, cond_false]
      exact g
theorem run : ∀ args v new, R args = some (true, v, new) → ∃ fuel, runFn Tryz.prog (orc [⟨106, lower.R⟩]) hd Dr.std none fuel (bodyOf Tryz.f92) 172 [6, 7] args [] = some (v, new) := by
  intro args v new h
  unfold R at h
  split at h
  · rename_i s b w
    simp only [Option.some.injEq, Prod.mk.injEq, Bool.and_eq_true, decide_eq_true_eq, hx.ok.sp, List.all_eq_true] at h
    obtain ⟨⟨⟨rfl, rfl⟩, ⟨h1, h2⟩, h3⟩, rfl, rfl⟩ := h
    obtain ⟨F, hF⟩ : ∃ F : Nat, F = 100 := ⟨100, rfl⟩
    refine ⟨F, ?_⟩
    have hne : seq.sv s ⟨#[]⟩ = false := by
      unfold seq.sv
      rw [beq_eq_false_iff_ne]
      intro e
      rw [Lib.toList_data, Lib.toList_data] at e
      rw [sby.sv, List.length_map, e] at h1
      simp at h1
    have g := loop s ((16 : Int) == 0) (sby.sv s) F h2 h3 (sby.sv s).length F 0 0 (by omega) (by omega) (by omega)
    rw [start, hne, cond_false]
    exact g
  · cases h
theorem ok : EntOk Tryz.prog ⟨92, R⟩ :=
  ent_okA mixed (A := (orc [⟨106, lower.R⟩])) (orc_ok (by simp only [List.mem_cons, List.not_mem_nil, or_false, forall_eq_or_imp, forall_eq]; exact lower.ok)) Tryz.func92 (by kernel_rfl) (by kernel_rfl) (n := 172) (ts := [6, 7]) (hd := hd) (dr := Dr.std) (cut := none) (by kernel_rfl) (by kernel_rfl) (by kernel_rfl) run
end inParseUint

namespace ParseUint
def R : List AVal → Option (Bool × AVal × List Blk)
  | [.str s, .int .i64 b, .int .i64 w] => some (decide (b = 16 ∧ w = 32) && hx.ok.sp s, .tup [.int .u64 ((hx.r.sv s : Nat) : Int), .nili], [])
  | _ => none
theorem go (s : ByteArray) :
  runFn Tryz.prog (orc [⟨92, inParseUint.R⟩]) hd0 Dr.std none 0 (bodyOf Tryz.f76) 26 [6, 7] [.str s, .int .i64 16, .int .i64 32] []
  = (bif hx.ok.sp s && (true && true || true && true && true) then some (AVal.tup [AVal.int IntKind.u64 (↑(hx.r.sv s) : Int), AVal.nili], []) else none) := by kernel_rfl
theorem run : ∀ args v new, R args = some (true, v, new) → ∃ fuel, runFn Tryz.prog (orc [⟨92, inParseUint.R⟩]) hd0 Dr.std none fuel (bodyOf Tryz.f76) 26 [6, 7] args [] = some (v, new) := by
  intro args v new h
  unfold R at h
  split at h
  · rename_i s b w
    simp only [Option.some.injEq, Prod.mk.injEq, Bool.and_eq_true, decide_eq_true_eq] at h
    obtain ⟨⟨⟨rfl, rfl⟩, h1⟩, rfl, rfl⟩ := h
    exact ⟨0, by rw [go, h1]; rfl⟩
  · cases h
theorem ok : EntOk Tryz.prog ⟨76, R⟩ :=
  ent_okA mixed (A := (orc [⟨92, inParseUint.R⟩])) (orc_ok (by simp only [List.mem_cons, List.not_mem_nil, or_false, forall_eq_or_imp, forall_eq]; exact inParseUint.ok)) Tryz.func76 (by kernel_rfl) (by kernel_rfl) (n := 26) (ts := [6, 7]) (hd := hd0) (dr := Dr.std) (cut := none) (by kernel_rfl) (by kernel_rfl) (by kernel_rfl) run
end ParseUint

namespace readHex
def R : List AVal → Option (Bool × AVal × List Blk)
  | [.str s] => some (hx.ok.sp s, .flt .f32 (hx.r.sv s), [])
  | _ => none
theorem go (s : ByteArray) :
  runFn Tryz.prog (orcN nats (orc [⟨76, ParseUint.R⟩])) hd0 Dr.std none 0 (bodyOf Tryz.f50) 13 [2] [.str s] []
  = (bif hx.ok.sp s && (true && true || true && true && true) then some (AVal.flt FloatKind.f32 (IntKind.u32.wrap (↑(hx.r.sv s) : Int)).toNat, []) else none) := by kernel_rfl
theorem run : ∀ args v new, R args = some (true, v, new) → ∃ fuel, runFn Tryz.prog (orcN nats (orc [⟨76, ParseUint.R⟩])) hd0 Dr.std none fuel (bodyOf Tryz.f50) 13 [2] args [] = some (v, new) := by
  intro args v new h
  unfold R at h
  split at h
  · rename_i s
    simp only [Option.some.injEq, Prod.mk.injEq] at h
    obtain ⟨h1, rfl, rfl⟩ := h
    have hr : hx.r.sv s < 4294967296 := by
      have h2 := h1
      unfold hx.ok.sp at h2
      rw [Bool.and_eq_true, decide_eq_true_eq] at h2
      have h3 := hx.rd_lt (sby.sv s) 0 h2.2
      have hp : 16 ^ (sby.sv s).length ≤ 16 ^ 8 := Nat.pow_le_pow_right (by decide) h2.1.2
      have : hx.r.sv s < (0 + 1) * 16 ^ (sby.sv s).length := h3
      omega
    have w : IntKind.u32.wrap ((hx.r.sv s : Nat) : Int) = ((hx.r.sv s : Nat) : Int) := IntWalk.u32_in _ (by omega)
    refine ⟨0, ?_⟩
    rw [go, h1, w, Int.toNat_natCast]
    rfl
  · cases h
theorem ok : EntOk Tryz.prog ⟨50, R⟩ :=
  ent_okA mixed (A := (orcN nats (orc [⟨76, ParseUint.R⟩]))) (orcN_ok natsOk (orc_ok (by simp only [List.mem_cons, List.not_mem_nil, or_false, forall_eq_or_imp, forall_eq]; exact ParseUint.ok))) Tryz.func50 (by kernel_rfl) (by kernel_rfl) (n := 13) (ts := [2]) (hd := hd0) (dr := Dr.std) (cut := none) (by kernel_rfl) (by kernel_rfl) (by kernel_rfl) run
end readHex

end Go.Proofs.YtjhofofieiiplaaGreatDoor.Ab
