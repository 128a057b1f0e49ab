/-
  Functions: numbers are written with base 16.
-/
import Derived.Test.YtjhofofieiiplaaGreatDoorAbNat
import Derived.Test.YtjhofofieiiplaaGreatDoorFnAU
namespace Go.Proofs.YtjhofofieiiplaaGreatDoor.Ab
open Go
set_option linter.unusedVariables false
set_option linter.unusedSimpArgs false
set_option maxRecDepth 100000

-- bytes hxs 3
def hxs : ByteArray := ⟨#[48, 49, 50, 51, 52, 53, 54, 55, 56, 57, 97, 98, 99, 100, 101, 102, 103, 104, 105, 106, 107, 108, 109, 110, 111, 112, 113, 114, 115, 116, 117, 118, 119, 120, 121, 122]⟩
namespace isPowerOfTwo
end isPowerOfTwo
namespace isPowerOfTwo
def R : List AVal → Option (Bool × AVal × List Blk)
  | [.int .i64 n] => some (n == 16, .bool true, [])
  | _ => none
theorem go :
  runFn Tryz.prog (orc []) hd0 Dr.std none 0 (bodyOf Tryz.f115) 8 [2] [.int .i64 16] []
  = (some (AVal.bool ((0 : Int) == (0 : Int)), [])) := by kernel_rfl
theorem run : ∀ args v new, R args = some (true, v, new) → ∃ fuel, runFn Tryz.prog (orc []) hd0 Dr.std none fuel (bodyOf Tryz.f115) 8 [2] args [] = some (v, new) := by
  intro args v new h
  unfold R at h
  split at h
  · rename_i n
    simp only [Option.some.injEq, Prod.mk.injEq, beq_iff_eq] at h
    obtain ⟨rfl, rfl, rfl⟩ := h
    exact ⟨0, go⟩
  · cases h
theorem ok : EntOk Tryz.prog ⟨115, R⟩ :=
  ent_okA mixed (A := (orc [])) (orc_ok (by simp)) Tryz.func115 (by kernel_rfl) (by kernel_rfl) (n := 8) (ts := [2]) (hd := hd0) (dr := Dr.std) (cut := none) (by kernel_rfl) (by kernel_rfl) (by kernel_rfl) run
end isPowerOfTwo

namespace TrailingZeros64
def R : List AVal → Option (Bool × AVal × List Blk)
  | [.int .u64 n] => some (n == 16, .int .i64 4, [])
  | _ => none
theorem go :
  runFn Tryz.prog (orc []) hd0 Dr.std none 0 (bodyOf Tryz.f127) 14 [2] [.int .u64 16] []
  = (some (AVal.int IntKind.i64 (4 : Int), [])) := by kernel_rfl
theorem run : ∀ args v new, R args = some (true, v, new) → ∃ fuel, runFn Tryz.prog (orc []) hd0 Dr.std none fuel (bodyOf Tryz.f127) 14 [2] args [] = some (v, new) := by
  intro args v new h
  unfold R at h
  split at h
  · rename_i n
    simp only [Option.some.injEq, Prod.mk.injEq, beq_iff_eq] at h
    obtain ⟨rfl, rfl, rfl⟩ := h
    exact ⟨0, go⟩
  · cases h
theorem ok : EntOk Tryz.prog ⟨127, R⟩ :=
  ent_okA mixed (A := (orc [])) (orc_ok (by simp)) Tryz.func127 (by kernel_rfl) (by kernel_rfl) (n := 14) (ts := [2]) (hd := hd0) (dr := Dr.std) (cut := none) (by kernel_rfl) (by kernel_rfl) (by kernel_rfl) run
end TrailingZeros64

namespace TrailingZeros
def R : List AVal → Option (Bool × AVal × List Blk)
  | [.int .u64 n] => some (n == 16, .int .i64 4, [])
  | _ => none
theorem go :
  runFn Tryz.prog (orc [⟨127, TrailingZeros64.R⟩]) hd0 Dr.std none 0 (bodyOf Tryz.f116) 8 [2] [.int .u64 16] []
  = (some (AVal.int IntKind.i64 (4 : Int), [])) := by kernel_rfl
theorem run : ∀ args v new, R args = some (true, v, new) → ∃ fuel, runFn Tryz.prog (orc [⟨127, TrailingZeros64.R⟩]) hd0 Dr.std none fuel (bodyOf Tryz.f116) 8 [2] args [] = some (v, new) := by
  intro args v new h
  unfold R at h
  split at h
  · rename_i n
    simp only [Option.some.injEq, Prod.mk.injEq, beq_iff_eq] at h
    obtain ⟨rfl, rfl, rfl⟩ := h
    exact ⟨0, go⟩
  · cases h
theorem ok : EntOk Tryz.prog ⟨116, R⟩ :=
  ent_okA mixed (A := (orc [⟨127, TrailingZeros64.R⟩])) (orc_ok (by simp only [List.mem_cons, List.not_mem_nil, or_false, forall_eq_or_imp, forall_eq]; exact TrailingZeros64.ok)) Tryz.func116 (by kernel_rfl) (by kernel_rfl) (n := 8) (ts := [2]) (hd := hd0) (dr := Dr.std) (cut := none) (by kernel_rfl) (by kernel_rfl) (by kernel_rfl) run
end TrailingZeros

namespace hx
/-- A digit with base 36. -/
def dg (k : Nat) : Int := if k < 10 then 48 + (k : Int) else 87 + (k : Int)
theorem dg_sat : ∀ k : Nat, k < 36 → sat.sv hxs k = dg k := by decide
/-- The digits of a number with base 16, at most d + 1 of them. -/
def go : Nat → Nat → List Int
  | 0, u => [dg u]
  | d + 1, u => if u < 16 then [dg u] else go d (u / 16) ++ [dg (u % 16)]
def s.sv (u : Nat) : ByteArray := bys.sv (go 7 u)
theorem and15 (u : Nat) (h : u < 18446744073709551616) : iand.sv .u64 (u : Int) 15 = ((u % 16 : Nat) : Int) := by
  show IntKind.u64.wrap (((BitVec.ofInt 64 (u : Int) &&& BitVec.ofInt 64 15 : BitVec 64).toNat : Nat) : Int) = _
  have e1 : BitVec.ofInt 64 15 = BitVec.ofNat 64 15 := by decide +kernel
  have e2 : BitVec.ofInt 64 (u : Int) = BitVec.ofNat 64 u := BitVec.ofInt_natCast 64 u
  have e3 : (BitVec.ofNat 64 u &&& BitVec.ofNat 64 15).toNat = u % 16 := by
    rw [BitVec.toNat_and, BitVec.toNat_ofNat, BitVec.toNat_ofNat, Nat.mod_eq_of_lt (a := u) (by omega)]
    exact Nat.and_two_pow_sub_one_eq_mod u 4
  rw [e1, e2, e3, IntWalk.u64_in _ (by omega)]
theorem shr4 (u : Nat) : ishr.sv .u64 (u : Int) 4 = ((u / 16 : Nat) : Int) := by
  show (u : Int).fdiv (2 ^ 4) = _
  rw [Int.fdiv_eq_ediv_of_nonneg _ (by decide)]
  rfl
theorem drop_set {xs : List Int} {i : Nat} (x : Int) (h : i < xs.length) : (xs.set i x).drop i = x :: xs.drop (i + 1) := by
  rw [List.drop_eq_getElem_cons (by simpa using h)]
  rw [List.getElem_set_self, List.drop_set_of_lt (by omega)]
end hx

namespace formatBits
def R : List AVal → Option (Bool × AVal × List Blk)
  | [.nils, .int .u64 u, .int .i64 b, .bool ng, .bool ap] => some (decide (0 ≤ u ∧ u < 4294967296 ∧ b = 16 ∧ ng = false ∧ ap = false), .tup [.nils, .str (hx.s.sv u.toNat)], [])
  | _ => none
def hd : Nat → Head := fun _ => ⟨[0, 1, 3, 4, 10, 11, 12, 13, 14, 15, 16], none⟩
noncomputable def L (f n : Nat) (s : State) := loopAt Tryz.prog (orc [⟨115, isPowerOfTwo.R⟩, ⟨116, TrailingZeros.R⟩]) hd Dr.std 0 f (bodyOf Tryz.f97) 0 [true, true, true, true, true, false, true, false, true, true, true, false] (retK Tryz.prog [10, 11] 0 none) n s
theorem start (u : Int) (f : Nat) :
  runFn Tryz.prog (orc [⟨115, isPowerOfTwo.R⟩, ⟨116, TrailingZeros.R⟩]) hd Dr.std none f (bodyOf Tryz.f97) 102 [10, 11] [.nils, .int .u64 u, .int .i64 16, .bool false, .bool false] []
  = (bif (16 : Int) == (16 : Int) && (true && true || true && true) then bif (16 : Int) == (16 : Int) && (true && true || true && true) then L f f (mkS (102 : Nat) [((0 : Nat), AVal.nils), ((1 : Nat), AVal.int IntKind.u64 u), ((3 : Nat), AVal.bool false), ((4 : Nat), AVal.bool false), ((10 : Nat), AVal.nils), ((11 : Nat), AVal.str { data := { toList := [] } }), ((12 : Nat), AVal.ptr (0 : Nat) (0 : Nat) (0 : Nat)), ((13 : Nat), AVal.int IntKind.i64 (65 : Int)), ((14 : Nat), AVal.int IntKind.u64 (4 : Int)), ((15 : Nat), AVal.int IntKind.u64 (16 : Int)), ((16 : Nat), AVal.int IntKind.u64 (15 : Int))] [{ c := BC.typ (Cont.ints IntKind.u8 (List.replicate (65 : Nat) (0 : Int))), ver := (0 : Nat) }]) else none else none) := by kernel_rfl
theorem round (u i : Int) (xs : List Int) (f n : Nat) :
  L f (n + 1) (mkS 102 [(0, .nils), (1, .int .u64 u), (3, .bool false), (4, .bool false), (10, .nils), (11, .str ⟨#[]⟩), (12, .ptr 0 0 0), (13, .int .i64 i), (14, .int .u64 4), (15, .int .u64 16), (16, .int .u64 15)] [⟨.typ (.ints .u8 xs), 0⟩])
  = (bif decide ((16 : Int) ≤ u) then bif decide ((0 : Int) ≤ iand.sv IntKind.u64 u (15 : Int)) && decide (iand.sv IntKind.u64 u (15 : Int) < (36 : Int)) then bif decide ((0 : Int) ≤ IntKind.i64.wrap (i - (1 : Int))) && decide (IntKind.i64.wrap (i - (1 : Int)) < (65 : Int)) then bif true && (true && (decide ((IntKind.i64.wrap (i - (1 : Int))).toNat < xs.length) && true)) then L f n (mkS (102 : Nat) [((0 : Nat), AVal.nils), ((1 : Nat), AVal.int IntKind.u64 (ishr.sv IntKind.u64 u (4 : Int))), ((3 : Nat), AVal.bool false), ((4 : Nat), AVal.bool false), ((10 : Nat), AVal.nils), ((11 : Nat), AVal.str { data := { toList := [] } }), ((12 : Nat), AVal.ptr (0 : Nat) (0 : Nat) (0 : Nat)), ((13 : Nat), AVal.int IntKind.i64 (IntKind.i64.wrap (i - (1 : Int)))), ((14 : Nat), AVal.int IntKind.u64 (4 : Int)), ((15 : Nat), AVal.int IntKind.u64 (16 : Int)), ((16 : Nat), AVal.int IntKind.u64 (15 : Int))] [{ c := BC.typ (Cont.ints IntKind.u8 (xs.set (IntKind.i64.wrap (i - (1 : Int))).toNat (sat.sv hxs (iand.sv IntKind.u64 u (15 : Int)).toNat))), ver := (0 : Nat) }]) else none else none else none else bif decide ((0 : Int) ≤ u) && decide (u < (36 : Int)) then bif decide ((0 : Int) ≤ IntKind.i64.wrap (i - (1 : Int))) && decide (IntKind.i64.wrap (i - (1 : Int)) < (65 : Int)) then bif true && (true && (decide ((IntKind.i64.wrap (i - (1 : Int))).toNat < xs.length) && true)) then bif decide ((0 : Int) ≤ IntKind.i64.wrap (i - (1 : Int))) && decide (IntKind.i64.wrap (i - (1 : Int)) ≤ (65 : Int)) && (true && decide ((IntKind.i64.wrap (i - (1 : Int))).toNat < (65 : Nat)) && decide ((xs.set (IntKind.i64.wrap (i - (1 : Int))).toNat (sat.sv hxs u.toNat)).length = (65 : Nat))) then some (AVal.tup [AVal.nils, AVal.str (bys.sv (List.take ((65 : Nat) - (IntKind.i64.wrap (i - (1 : Int))).toNat) (List.drop (IntKind.i64.wrap (i - (1 : Int))).toNat (xs.set (IntKind.i64.wrap (i - (1 : Int))).toNat (sat.sv hxs u.toNat)))))], [{ c := BC.typ (Cont.ints IntKind.u8 (xs.set (IntKind.i64.wrap (i - (1 : Int))).toNat (sat.sv hxs u.toNat))), ver := (0 : Nat) }]) else none else none else none else none) := by kernel_rfl
theorem loop (f : Nat) : ∀ (d n u i : Nat) (xs : List Int), u < 16 ^ (d + 1) → u < 18446744073709551616 → d + 1 ≤ i → i ≤ 65 → xs.length = 65 → d < n →
    regc [] (L f n (mkS 102 [(0, .nils), (1, .int .u64 ((u : Nat) : Int)), (3, .bool false), (4, .bool false), (10, .nils), (11, .str ⟨#[]⟩), (12, .ptr 0 0 0), (13, .int .i64 ((i : Nat) : Int)), (14, .int .u64 4), (15, .int .u64 16), (16, .int .u64 15)] [⟨.typ (.ints .u8 xs), 0⟩])) = some (.tup [.nils, .str (bys.sv (hx.go d u ++ xs.drop i))], []) := by
  intro d
  induction d with
  | zero =>
    intro n u i xs hu hu2 hi hi2 h65 hn
    obtain ⟨n, rfl⟩ : ∃ k, n = k + 1 := ⟨n - 1, by omega⟩
    have c : ¬ (16 ≤ (u : Int)) := by omega
    have e : hx.go 0 u = [hx.dg u] := rfl
    rw [e]
    have hlen : (xs.set (i - 1) (hx.dg u)).length = 65 := by rw [List.length_set]; exact h65
    have w1 : IntKind.i64.wrap ((i : Int) - 1) = ((i - 1 : Nat) : Int) := by rw [IntWalk.i64_in _ (by omega)]; omega
    have hs := hx.dg_sat u (by omega)
    have ht : List.take (65 - (i - 1)) (List.drop (i - 1) (xs.set (i - 1) (hx.dg u))) = hx.dg u :: xs.drop i := by
      rw [hx.drop_set _ (by omega), show i - 1 + 1 = i from by omega]
      exact List.take_of_length_le (by rw [List.length_cons, List.length_drop]; omega)
    rw [round]
    simp -implicitDefEqProofs (disch := omega) only [w1, hs, h65, hlen, take_one, set_one, decide_eq_true, decide_eq_false, IntWalk.i64_in, beqT, beqF, bneT, bneF, nat_succ, ← Int.natCast_mul, ← Int.natCast_add, Int.toNat_natCast, Int.zero_mul, Int.zero_add, Int.add_zero, Nat.zero_add, Nat.add_zero, Nat.zero_mul, List.length_singleton, List.length_append, List.length_nil, List.length_cons, List.take_length, List.drop_zero, List.replicate_zero, List.take_nil, List.nil_append, Nat.reduceBEq, Nat.reduceMul, Nat.reduceLeDiff, eq_self, and_self, true_and, and_true, decide_true, decide_false, Bool.and_self, Bool.or_self, Bool.and_true, Bool.true_and, Bool.and_false, Bool.false_and, Bool.or_true, Bool.true_or, Bool.or_false, Bool.false_or, Bool.not_true, Bool.not_false, cond_true, cond_false]
    rw [ht]
    rfl
  | succ d ih =>
    intro n u i xs hu hu2 hi hi2 h65 hn
    obtain ⟨n, rfl⟩ : ∃ k, n = k + 1 := ⟨n - 1, by omega⟩
    by_cases c : u < 16
    · have e : hx.go (d + 1) u = [hx.dg u] := by rw [hx.go, if_pos c]
      rw [e]
      have hlen : (xs.set (i - 1) (hx.dg u)).length = 65 := by rw [List.length_set]; exact h65
      have w1 : IntKind.i64.wrap ((i : Int) - 1) = ((i - 1 : Nat) : Int) := by rw [IntWalk.i64_in _ (by omega)]; omega
      have hs := hx.dg_sat u (by omega)
      have ht : List.take (65 - (i - 1)) (List.drop (i - 1) (xs.set (i - 1) (hx.dg u))) = hx.dg u :: xs.drop i := by
        rw [hx.drop_set _ (by omega), show i - 1 + 1 = i from by omega]
        exact List.take_of_length_le (by rw [List.length_cons, List.length_drop]; omega)
      rw [round]
      simp -implicitDefEqProofs (disch := omega) only [w1, hs, h65, hlen, take_one, set_one, decide_eq_true, decide_eq_false, IntWalk.i64_in, beqT, beqF, bneT, bneF, nat_succ, ← Int.natCast_mul, ← Int.natCast_add, Int.toNat_natCast, Int.zero_mul, Int.zero_add, Int.add_zero, Nat.zero_add, Nat.add_zero, Nat.zero_mul, List.length_singleton, List.length_append, List.length_nil, List.length_cons, List.take_length, List.drop_zero, List.replicate_zero, List.take_nil, List.nil_append, Nat.reduceBEq, Nat.reduceMul, Nat.reduceLeDiff, eq_self, and_self, true_and, and_true, decide_true, decide_false, Bool.and_self, Bool.or_self, Bool.and_true, Bool.true_and, Bool.and_false, Bool.false_and, Bool.or_true, Bool.true_or, Bool.or_false, Bool.false_or, Bool.not_true, Bool.not_false, cond_true, cond_false]
      rw [ht]
      rfl
    · have e : hx.go (d + 1) u = hx.go d (u / 16) ++ [hx.dg (u % 16)] := by rw [hx.go, if_neg c]
      have w1 : IntKind.i64.wrap ((i : Int) - 1) = ((i - 1 : Nat) : Int) := by rw [IntWalk.i64_in _ (by omega)]; omega
      have h1 := hx.and15 u hu2
      have h2 := hx.shr4 u
      have hs := hx.dg_sat (u % 16) (by omega)
      have hq : u / 16 < 16 ^ (d + 1) := by
        rw [Nat.pow_succ] at hu
        exact Nat.div_lt_of_lt_mul (by omega)
      have g := ih n (u / 16) (i - 1) (xs.set (i - 1) (hx.dg (u % 16))) hq (by omega) (by omega) (by omega) (by rw [List.length_set]; exact h65) (by omega)
      rw [hx.drop_set _ (by omega), show i - 1 + 1 = i from by omega] at g
      rw [round, e, List.append_assoc]
      simp -implicitDefEqProofs (disch := omega) only [w1, hs, h65, h1, h2, take_one, set_one, decide_eq_true, decide_eq_false, IntWalk.i64_in, beqT, beqF, bneT, bneF, nat_succ, ← Int.natCast_mul, ← Int.natCast_add, Int.toNat_natCast, Int.zero_mul, Int.zero_add, Int.add_zero, Nat.zero_add, Nat.add_zero, Nat.zero_mul, List.length_singleton, List.length_append, List.length_nil, List.length_cons, List.take_length, List.drop_zero, List.replicate_zero, List.take_nil, List.nil_append, Nat.reduceBEq, Nat.reduceMul, Nat.reduceLeDiff, eq_self, and_self, true_and, and_true, decide_true, decide_false, Bool.and_self, Bool.or_self, Bool.and_true, Bool.true_and, Bool.and_false, Bool.false_and, Bool.or_true, Bool.true_or, Bool.or_false, Bool.false_or, Bool.not_true, Bool.not_false, cond_true, cond_false]
      exact g
theorem run : ∀ args v new, R args = some (true, v, new) → ∃ fuel, regc [] (runFn Tryz.prog (orc [⟨115, isPowerOfTwo.R⟩, ⟨116, TrailingZeros.R⟩]) hd Dr.std none fuel (bodyOf Tryz.f97) 102 [10, 11] args []) = some (v, new) := by
  intro args v new h
  unfold R at h
  split at h
  · rename_i u b ng ap
    simp only [Option.some.injEq, Prod.mk.injEq, decide_eq_true_eq] at h
    obtain ⟨⟨h1, h2, rfl, rfl, rfl⟩, rfl, rfl⟩ := h
    obtain ⟨u, rfl⟩ : ∃ q : Nat, u = q := ⟨u.toNat, by omega⟩
    obtain ⟨F, hF⟩ : ∃ F : Nat, F = 100 := ⟨100, rfl⟩
    refine ⟨F, ?_⟩
    have g := loop F 7 F u 65 (List.replicate 65 0) (by omega) (by omega) (by omega) (by omega) (by simp) (by omega)
    rw [show List.drop 65 (List.replicate 65 (0 : Int)) = [] from rfl, List.append_nil] at g
    rw [start, Int.toNat_natCast]
    simp only [beq_self_eq_true, Bool.and_self, cond_true]
    exact g
  · cases h
theorem ok : EntOk Tryz.prog ⟨97, R⟩ :=
  ent_okAG (ks := []) mixed (A := (orc [⟨115, isPowerOfTwo.R⟩, ⟨116, TrailingZeros.R⟩])) (orc_ok (by simp only [List.mem_cons, List.not_mem_nil, or_false, forall_eq_or_imp, forall_eq]; exact ⟨isPowerOfTwo.ok, TrailingZeros.ok⟩)) Tryz.func97 (by kernel_rfl) (by kernel_rfl) (n := 102) (ts := [10, 11]) (hd := hd) (dr := Dr.std) (cut := none) (by kernel_rfl) (by kernel_rfl) (by kernel_rfl) run
end formatBits

namespace inFormatInt
def R : List AVal → Option (Bool × AVal × List Blk)
  | [.int .i64 n, .int .i64 b] => some (decide (0 ≤ n ∧ n < 4294967296 ∧ b = 16), .str (hx.s.sv n.toNat), [])
  | _ => none
theorem go (n : Int) :
  runFn Tryz.prog (orc [⟨97, formatBits.R⟩]) hd0 Dr.std none 0 (bodyOf Tryz.f84) 54 [4] [.int .i64 n, .int .i64 16] []
  = (bif decide ((0 : Int) ≤ IntKind.u64.wrap n ∧ IntKind.u64.wrap n < (4294967296 : Int) ∧ (16 : Int) = (16 : Int) ∧ decide (n < (0 : Int)) = false ∧ false = false) && (true && (true && (true && (true && true))) || true && (true && true) && true) then some (AVal.str (hx.s.sv (IntKind.u64.wrap n).toNat), []) else none) := by kernel_rfl
theorem run : ∀ args v new, R args = some (true, v, new) → ∃ fuel, runFn Tryz.prog (orc [⟨97, formatBits.R⟩]) hd0 Dr.std none fuel (bodyOf Tryz.f84) 54 [4] args [] = some (v, new) := by
  intro args v new h
  unfold R at h
  split at h
  · rename_i n b
    simp only [Option.some.injEq, Prod.mk.injEq, decide_eq_true_eq] at h
    obtain ⟨⟨h1, h2, rfl⟩, rfl, rfl⟩ := h
    refine ⟨0, ?_⟩
    have w : IntKind.u64.wrap n = n := IntWalk.u64_in _ (by omega)
    have w2 : ¬ (n < 0) := by omega
    rw [go]
    simp -implicitDefEqProofs (disch := omega) only [w, h1, h2, w2, take_one, set_one, decide_eq_true, decide_eq_false, IntWalk.i64_in, beqT, beqF, bneT, bneF, nat_succ, ← Int.natCast_mul, ← Int.natCast_add, Int.toNat_natCast, Int.zero_mul, Int.zero_add, Int.add_zero, Nat.zero_add, Nat.add_zero, Nat.zero_mul, List.length_singleton, List.length_append, List.length_nil, List.length_cons, List.take_length, List.drop_zero, List.replicate_zero, List.take_nil, List.nil_append, Nat.reduceBEq, Nat.reduceMul, Nat.reduceLeDiff, eq_self, and_self, true_and, and_true, decide_true, decide_false, Bool.and_self, Bool.or_self, Bool.and_true, Bool.true_and, Bool.and_false, Bool.false_and, Bool.or_true, Bool.true_or, Bool.or_false, Bool.false_or, Bool.not_true, Bool.not_false, cond_true, cond_false]
  · cases h
theorem ok : EntOk Tryz.prog ⟨84, R⟩ :=
  ent_okA mixed (A := (orc [⟨97, formatBits.R⟩])) (orc_ok (by simp only [List.mem_cons, List.not_mem_nil, or_false, forall_eq_or_imp, forall_eq]; exact formatBits.ok)) Tryz.func84 (by kernel_rfl) (by kernel_rfl) (n := 54) (ts := [4]) (hd := hd0) (dr := Dr.std) (cut := none) (by kernel_rfl) (by kernel_rfl) (by kernel_rfl) run
end inFormatInt

namespace FormatInt
def R : List AVal → Option (Bool × AVal × List Blk)
  | [.int .i64 n, .int .i64 b] => some (decide (0 ≤ n ∧ n < 4294967296 ∧ b = 16), .str (hx.s.sv n.toNat), [])
  | _ => none
theorem go (n : Int) :
  runFn Tryz.prog (orc [⟨84, inFormatInt.R⟩]) hd0 Dr.std none 0 (bodyOf Tryz.f72) 8 [4] [.int .i64 n, .int .i64 16] []
  = (bif decide ((0 : Int) ≤ n ∧ n < (4294967296 : Int) ∧ (16 : Int) = (16 : Int)) && (true && true || true && true) then some (AVal.str (hx.s.sv n.toNat), []) else none) := by kernel_rfl
theorem run : ∀ args v new, R args = some (true, v, new) → ∃ fuel, runFn Tryz.prog (orc [⟨84, inFormatInt.R⟩]) hd0 Dr.std none fuel (bodyOf Tryz.f72) 8 [4] args [] = some (v, new) := by
  intro args v new h
  unfold R at h
  split at h
  · rename_i n b
    simp only [Option.some.injEq, Prod.mk.injEq, decide_eq_true_eq] at h
    obtain ⟨⟨h1, h2, rfl⟩, rfl, rfl⟩ := h
    refine ⟨0, ?_⟩
    rw [go]
    simp -implicitDefEqProofs (disch := omega) only [h1, h2, take_one, set_one, decide_eq_true, decide_eq_false, IntWalk.i64_in, beqT, beqF, bneT, bneF, nat_succ, ← Int.natCast_mul, ← Int.natCast_add, Int.toNat_natCast, Int.zero_mul, Int.zero_add, Int.add_zero, Nat.zero_add, Nat.add_zero, Nat.zero_mul, List.length_singleton, List.length_append, List.length_nil, List.length_cons, List.take_length, List.drop_zero, List.replicate_zero, List.take_nil, List.nil_append, Nat.reduceBEq, Nat.reduceMul, Nat.reduceLeDiff, eq_self, and_self, true_and, and_true, decide_true, decide_false, Bool.and_self, Bool.or_self, Bool.and_true, Bool.true_and, Bool.and_false, Bool.false_and, Bool.or_true, Bool.true_or, Bool.or_false, Bool.false_or, Bool.not_true, Bool.not_false, cond_true, cond_false]
  · cases h
theorem ok : EntOk Tryz.prog ⟨72, R⟩ :=
  ent_okA mixed (A := (orc [⟨84, inFormatInt.R⟩])) (orc_ok (by simp only [List.mem_cons, List.not_mem_nil, or_false, forall_eq_or_imp, forall_eq]; exact inFormatInt.ok)) Tryz.func72 (by kernel_rfl) (by kernel_rfl) (n := 8) (ts := [4]) (hd := hd0) (dr := Dr.std) (cut := none) (by kernel_rfl) (by kernel_rfl) (by kernel_rfl) run
end FormatInt

end Go.Proofs.YtjhofofieiiplaaGreatDoor.Ab
