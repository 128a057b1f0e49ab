/-
  Functions: texts of lists of numbers, and back.
-/
import Derived.Test.YtjhofofieiiplaaGreatDoorFnNp
namespace Go.Proofs.YtjhofofieiiplaaGreatDoor.Ab
open Go
set_option linter.unusedVariables false
set_option linter.unusedSimpArgs false
set_option maxRecDepth 100000

-- btab nt.none=110,111,110,101 nt.zero=48 sx.comma=44
def nt.zero : ByteArray := ⟨#[48]⟩
namespace hexOf
def R : List AVal → Option (Bool × AVal × List Blk)
  | [.flt .f32 x] => some (decide (x < 4294967296), .str (nt.of.sv x), [])
  | _ => none
theorem go (x : Nat) :
  runFn Tryz.prog (orc [⟨21, BitsOf.R⟩, ⟨72, FormatInt.R⟩, ⟨73, strRepeat.R⟩]) hd0 Dr.std none 0 (bodyOf Tryz.f47) 13 [2] [.flt .f32 x] []
  = (bif true && (true && true || true && true) then bif decide ((0 : Int) ≤ nw.bits.sv x ∧ nw.bits.sv x < (4294967296 : Int) ∧ (16 : Int) = (16 : Int)) && (true && true || true && true) then bif decide ((0 : Int) ≤ IntKind.i64.wrap ((8 : Int) - satn.sv (hx.s.sv (nw.bits.sv x).toNat)) ∧ IntKind.i64.wrap ((8 : Int) - satn.sv (hx.s.sv (nw.bits.sv x).toNat)) ≤ (1000 : Int) ∧ nt.zero.size ≤ (1000 : Nat)) && (true && (true && true) || true && true) then bif decide (satn.sv (sx.rep.sv nt.zero (IntKind.i64.wrap ((8 : Int) - satn.sv (hx.s.sv (nw.bits.sv x).toNat))).toNat) + satn.sv (hx.s.sv (nw.bits.sv x).toNat) ≤ (9223372036854775807 : Int)) then some (AVal.str (sadd.sv (sx.rep.sv nt.zero (IntKind.i64.wrap ((8 : Int) - satn.sv (hx.s.sv (nw.bits.sv x).toNat))).toNat) (hx.s.sv (nw.bits.sv x).toNat)), []) else none else none else none else none) := by kernel_rfl
theorem run : ∀ args v new, R args = some (true, v, new) → ∃ fuel, runFn Tryz.prog (orc [⟨21, BitsOf.R⟩, ⟨72, FormatInt.R⟩, ⟨73, strRepeat.R⟩]) hd0 Dr.std none fuel (bodyOf Tryz.f47) 13 [2] args [] = some (v, new) := by
  intro args v new h
  unfold R at h
  split at h
  · rename_i x
    simp only [Option.some.injEq, Prod.mk.injEq, decide_eq_true_eq] at h
    obtain ⟨h1, rfl, rfl⟩ := h
    refine ⟨0, ?_⟩
    have b := nt.bits_in h1
    have l := nt.hex_len x
    have e : sadd.sv (sx.rep.sv nt.zero (8 - satn.sv (hx.s.sv (nw.bits.sv x).toNat)).toNat) (hx.s.sv (nw.bits.sv x).toNat) = nt.of.sv x := nt.hex_eq h1
    have w : IntKind.i64.wrap (8 - satn.sv (hx.s.sv (nw.bits.sv x).toNat)) = 8 - satn.sv (hx.s.sv (nw.bits.sv x).toNat) := IntWalk.i64_in _ (by omega)
    have r : satn.sv (sx.rep.sv nt.zero (8 - satn.sv (hx.s.sv (nw.bits.sv x).toNat)).toNat) = _ := nt.rep_len (8 - satn.sv (hx.s.sv (nw.bits.sv x).toNat)).toNat
    have z : nt.zero.size = 1 := rfl
    rw [go, w]
    simp -implicitDefEqProofs (disch := omega) only [take_one, set_one, decide_eq_true, decide_eq_false, IntWalk.i64_in, beqT, beqF, bneT, bneF, nat_succ, ← Int.natCast_mul, ← Int.natCast_add, Int.toNat_natCast, Int.zero_mul, Int.zero_add, Int.add_zero, Nat.zero_add, Nat.add_zero, Nat.zero_mul, List.length_singleton, List.length_append, List.length_nil, List.length_cons, List.take_length, List.drop_zero, List.replicate_zero, List.take_nil, List.nil_append, Nat.reduceBEq, Nat.reduceMul, Nat.reduceLeDiff, eq_self, and_self, true_and, and_true, decide_true, decide_false, Bool.and_self, Bool.or_self, Bool.and_true, Bool.true_and, Bool.and_false, Bool.false_and, Bool.or_true, Bool.true_or, Bool.or_false, Bool.false_or, Bool.not_true, Bool.not_false, cond_true, cond_false]
    rw [e]
  · cases h
theorem ok : EntOk Tryz.prog ⟨47, R⟩ :=
  ent_okA mixed (A := (orc [⟨21, BitsOf.R⟩, ⟨72, FormatInt.R⟩, ⟨73, strRepeat.R⟩])) (orc_ok (by simp only [List.mem_cons, List.not_mem_nil, or_false, forall_eq_or_imp, forall_eq]; exact ⟨BitsOf.ok, FormatInt.ok, strRepeat.ok⟩)) Tryz.func47 (by kernel_rfl) (by kernel_rfl) (n := 13) (ts := [2]) (hd := hd0) (dr := Dr.std) (cut := none) (by kernel_rfl) (by kernel_rfl) (by kernel_rfl) run
end hexOf

namespace joined
def R : List AVal → Option (Bool × AVal × List Blk)
  | [.ro (.strs xs) n 1] => some (decide (n = xs.length ∧ n ≤ 1000) && sx.jok.sp xs sx.comma, .str (nt.j.sv xs), [])
  | _ => none
theorem go (xs : List ByteArray) (n : Nat) :
  runFn Tryz.prog (orc [⟨74, strJoin.R⟩]) hd0 Dr.std none 0 (bodyOf Tryz.f48) 8 [2] [.ro (.strs xs) n 1] []
  = (bif (↑n : Int) == (0 : Int) then some (AVal.str nt.none, []) else bif decide (n = xs.length ∧ (1 : Nat) ≤ n ∧ n ≤ (1000 : Nat)) && sx.jok.sp xs sx.comma && (true && true || true && true) then some (AVal.str (sx.join.sv xs sx.comma), []) else none) := by kernel_rfl
theorem run : ∀ args v new, R args = some (true, v, new) → ∃ fuel, runFn Tryz.prog (orc [⟨74, strJoin.R⟩]) hd0 Dr.std none fuel (bodyOf Tryz.f48) 8 [2] args [] = some (v, new) := by
  intro args v new h
  unfold R at h
  split at h
  · rename_i xs n
    simp only [Option.some.injEq, Prod.mk.injEq, Bool.and_eq_true, decide_eq_true_eq] at h
    obtain ⟨⟨⟨rfl, h1⟩, h2⟩, rfl, rfl⟩ := h
    refine ⟨0, ?_⟩
    rw [go]
    unfold nt.j.sv
    by_cases c : xs.length = 0
    · rw [c]; rfl
    · have c1 : ((xs.length : Int) == 0) = false := by rw [beq_eq_false_iff_ne]; omega
      have c2 : ¬ ((xs.length : Int) = 0) := by omega
      have c3 : xs.length = xs.length ∧ 1 ≤ xs.length ∧ xs.length ≤ 1000 := ⟨rfl, by omega, h1⟩
      have h3 : sx.jok.sp xs sx.comma = true := h2
      rw [c1, cond_false, decide_eq_false c2, cond_false, decide_eq_true c3, Bool.true_and]
      rw [h3]
      rfl
  · cases h
theorem ok : EntOk Tryz.prog ⟨48, R⟩ :=
  ent_okA mixed (A := (orc [⟨74, strJoin.R⟩])) (orc_ok (by simp only [List.mem_cons, List.not_mem_nil, or_false, forall_eq_or_imp, forall_eq]; exact strJoin.ok)) Tryz.func48 (by kernel_rfl) (by kernel_rfl) (n := 8) (ts := [2]) (hd := hd0) (dr := Dr.std) (cut := none) (by kernel_rfl) (by kernel_rfl) (by kernel_rfl) run
end joined

namespace strSplit
def R : List AVal → Option (Bool × AVal × List Blk)
  | [.str s, .str c] => some (decide (satn.sv s ≤ 1000000) && sx.isC.sp c, .ro (.strs (sx.split.sv s)) (sx.split.sv s).length 1, [])
  | _ => none
theorem go (s c : ByteArray) :
  runFn Tryz.prog (orc [⟨91, genSplit.R⟩]) hd0 Dr.std none 0 (bodyOf Tryz.f75) 8 [4] [.str s, .str c] []
  = (bif decide ((0 : Int) = (0 : Int) ∧ (-1 : Int) = (-1 : Int) ∧ s.size ≤ (1000000 : Nat)) && sx.isC.sp c && (true && (true && true) || false && true) then some (AVal.ro (Cont.strs (sx.split.sv s)) (sx.split.sv s).length (1 : Nat), []) else none) := by kernel_rfl
theorem run : ∀ args v new, R args = some (true, v, new) → ∃ fuel, runFn Tryz.prog (orc [⟨91, genSplit.R⟩]) hd0 Dr.std none fuel (bodyOf Tryz.f75) 8 [4] args [] = some (v, new) := by
  intro args v new h
  unfold R at h
  split at h
  · rename_i s c
    simp only [Option.some.injEq, Prod.mk.injEq, Bool.and_eq_true, decide_eq_true_eq] at h
    obtain ⟨⟨h1, h2⟩, rfl, rfl⟩ := h
    refine ⟨0, ?_⟩
    have c1 : (0 : Int) = 0 ∧ (-1 : Int) = -1 ∧ s.size ≤ 1000000 := ⟨rfl, rfl, by unfold satn.sv at h1; omega⟩
    rw [go, decide_eq_true c1, h2]
    rfl
  · cases h
theorem ok : EntOk Tryz.prog ⟨75, R⟩ :=
  ent_okA mixed (A := (orc [⟨91, genSplit.R⟩])) (orc_ok (by simp only [List.mem_cons, List.not_mem_nil, or_false, forall_eq_or_imp, forall_eq]; exact genSplit.ok)) Tryz.func75 (by kernel_rfl) (by kernel_rfl) (n := 8) (ts := [4]) (hd := hd0) (dr := Dr.std) (cut := none) (by kernel_rfl) (by kernel_rfl) (by kernel_rfl) run
end strSplit

namespace pieces
def R : List AVal → Option (Bool × AVal × List Blk)
  | [.str s] => some (decide (satn.sv s ≤ 1000000) && !(seq.sv s nt.none), .ro (.strs (sx.split.sv s)) (sx.split.sv s).length 1, [])
  | _ => none
def RN : List AVal → Option (Bool × AVal × List Blk)
  | [.str s] => some (seq.sv s nt.none, .nils, [])
  | _ => none
theorem go (s : ByteArray) :
  runFn Tryz.prog (orc [⟨75, strSplit.R⟩]) hd0 Dr.std none 0 (bodyOf Tryz.f49) 7 [2] [.str s] []
  = (bif seq.sv s nt.none then some (AVal.nils, []) else bif decide (satn.sv s ≤ (1000000 : Int)) && sx.isC.sp sx.comma && (true && true || false && true) then some (AVal.ro (Cont.strs (sx.split.sv s)) (sx.split.sv s).length (1 : Nat), []) else none) := by kernel_rfl
theorem run : ∀ args v new, R args = some (true, v, new) → ∃ fuel, runFn Tryz.prog (orc [⟨75, strSplit.R⟩]) hd0 Dr.std none fuel (bodyOf Tryz.f49) 7 [2] args [] = some (v, new) := by
  intro args v new h
  unfold R at h
  split at h
  · rename_i s
    simp only [Option.some.injEq, Prod.mk.injEq, Bool.and_eq_true, decide_eq_true_eq, Bool.not_eq_true'] at h
    obtain ⟨⟨h1, h2⟩, rfl, rfl⟩ := h
    refine ⟨0, ?_⟩
    rw [go, h2, cond_false, decide_eq_true h1]
    rfl
  · cases h
theorem ok : EntOk Tryz.prog ⟨49, R⟩ :=
  ent_okA mixed (A := (orc [⟨75, strSplit.R⟩])) (orc_ok (by simp only [List.mem_cons, List.not_mem_nil, or_false, forall_eq_or_imp, forall_eq]; exact strSplit.ok)) Tryz.func49 (by kernel_rfl) (by kernel_rfl) (n := 7) (ts := [2]) (hd := hd0) (dr := Dr.std) (cut := none) (by kernel_rfl) (by kernel_rfl) (by kernel_rfl) run
theorem runN : ∀ args v new, RN args = some (true, v, new) → ∃ fuel, runFn Tryz.prog (orc [⟨75, strSplit.R⟩]) hd0 Dr.std none fuel (bodyOf Tryz.f49) 7 [2] args [] = some (v, new) := by
  intro args v new h
  unfold RN at h
  split at h
  · rename_i s
    simp only [Option.some.injEq, Prod.mk.injEq] at h
    obtain ⟨h1, rfl, rfl⟩ := h
    refine ⟨0, ?_⟩
    rw [go, h1, cond_true]
  · cases h
theorem okN : EntOk Tryz.prog ⟨49, RN⟩ :=
  ent_okA mixed (A := (orc [⟨75, strSplit.R⟩])) (orc_ok (by simp only [List.mem_cons, List.not_mem_nil, or_false, forall_eq_or_imp, forall_eq]; exact strSplit.ok)) Tryz.func49 (by kernel_rfl) (by kernel_rfl) (n := 7) (ts := [2]) (hd := hd0) (dr := Dr.std) (cut := none) (by kernel_rfl) (by kernel_rfl) (by kernel_rfl) runN
end pieces

namespace NumbersText
def R : List AVal → Option (Bool × AVal × List Blk)
  | [.ro (.flts .f32 xs) m 1] => some (decide (m = xs.length ∧ m ≤ 256 ∧ ∀ x ∈ xs, x < 4294967296), .tup [.str (nt.tx.sv xs), .bool true], [])
  | _ => none
def hd : Nat → Head := fun _ => ⟨[4, 11, 12, 13], some 1⟩
noncomputable def L (f n : Nat) (s : State) := loopAt Tryz.prog (orc [⟨47, hexOf.R⟩, ⟨48, joined.R⟩]) hd Dr.std 0 f (bodyOf Tryz.f31) 0 [true, true, true, false, true] (retK Tryz.prog [2, 3] 0 none) n s
theorem start (xs : List Nat) (m : Nat) (f : Nat) :
  runFn Tryz.prog (orc [⟨47, hexOf.R⟩, ⟨48, joined.R⟩]) hd Dr.std none f (bodyOf Tryz.f31) 25 [2, 3] [.ro (.flts .f32 xs) m 1] []
  = (bif decide ((256 : Int) < (↑m : Int)) then some (AVal.tup [AVal.str { data := { toList := [] } }, AVal.bool false], []) else L f f (mkS (25 : Nat) [((4 : Nat), AVal.own (0 : Nat) (0 : Nat) (0 : Nat) (0 : Nat) (1 : Nat)), ((11 : Nat), AVal.ro (Cont.flts FloatKind.f32 xs) m (1 : Nat)), ((12 : Nat), AVal.int IntKind.i64 (↑m : Int)), ((13 : Nat), AVal.int IntKind.i64 (0 : Int))] [{ c := BC.typ (Cont.strs (List.replicate (0 : Nat) { data := { toList := [] } })), ver := (0 : Nat) }])) := by kernel_rfl
theorem round (xs : List Nat) (ss : List ByteArray) (m q : Nat) (i : Int) (f n : Nat) :
  L f (n + 1) (mkS 25 [(4, .own 0 0 q 0 1), (11, .ro (.flts .f32 xs) m 1), (12, .int .i64 ((m : Nat) : Int)), (13, .int .i64 i)] [⟨.typ (.strs ss), 0⟩])
  = (bif decide (i < (↑m : Int)) then bif true && (decide ((0 : Int) ≤ i) && decide (i < (↑m : Int))) then bif decide (i.toNat < xs.length) then bif decide (gn xs i.toNat < (4294967296 : Nat)) && (true && true || true && true) then bif (1 : Nat) == (1 : Nat) && (1 : Nat) == (1 : Nat) && (true && (true && true) && (true && true && (decide (q + (List.take (1 : Nat) (List.drop (0 : Nat) ((List.replicate (1 : Nat) { data := { toList := [] } }).set (0 : Nat) (nt.of.sv (gn xs i.toNat))))).length ≤ (4611686018427387904 : Nat)) && decide ((q + (List.take (1 : Nat) (List.drop (0 : Nat) ((List.replicate (1 : Nat) { data := { toList := [] } }).set (0 : Nat) (nt.of.sv (gn xs i.toNat))))).length) * (16 : Nat) ≤ (140737488355328 : Nat))))) then L f n (mkS (25 : Nat) [((4 : Nat), AVal.own (0 : Nat) (0 : Nat) (q + (List.take (1 : Nat) (List.drop (0 : Nat) ((List.replicate (1 : Nat) { data := { toList := [] } }).set (0 : Nat) (nt.of.sv (gn xs i.toNat))))).length) (0 : Nat) (1 : Nat)), ((11 : Nat), AVal.ro (Cont.flts FloatKind.f32 xs) m (1 : Nat)), ((12 : Nat), AVal.int IntKind.i64 (↑m : Int)), ((13 : Nat), AVal.int IntKind.i64 (IntKind.i64.wrap (i + (1 : Int))))] [{ c := BC.typ (Cont.strs (List.take q ss ++ List.take (1 : Nat) (List.drop (0 : Nat) ((List.replicate (1 : Nat) { data := { toList := [] } }).set (0 : Nat) (nt.of.sv (gn xs i.toNat)))))), ver := (0 : Nat) }]) else none else none else none else none else bif decide (q = ss.length ∧ q ≤ (1000 : Nat)) && sx.jok.sp ss sx.comma && (false && true || true && true) then some (AVal.tup [AVal.str (nt.j.sv ss), AVal.bool true], [{ c := BC.typ (Cont.strs ss), ver := (0 : Nat) }]) else none) := by kernel_rfl
theorem gn_mem {xs : List Nat} {i : Nat} (h : i < xs.length) : gn xs i ∈ xs := by
  have : gn xs i = xs[i] := by simp [gn, h]
  rw [this]; exact List.getElem_mem h
theorem take_map {α β : Type} (g : α → β) (xs : List α) (i : Nat) (h : i < xs.length) : (xs.take (i + 1)).map g = (xs.take i).map g ++ [g xs[i]] := by
  rw [List.take_succ_eq_append_getElem h, List.map_append]; rfl
theorem loop (xs : List Nat) (f : Nat) (hl : xs.length ≤ 256) (hw : ∀ x ∈ xs, x < 4294967296) : ∀ (d n i : Nat) (ss : List ByteArray), i + d = xs.length → ss = (xs.take i).map nt.of.sv → d < n →
    regc [] (L f n (mkS 25 [(4, .own 0 0 ss.length 0 1), (11, .ro (.flts .f32 xs) xs.length 1), (12, .int .i64 ((xs.length : Nat) : Int)), (13, .int .i64 ((i : Nat) : Int))] [⟨.typ (.strs ss), 0⟩])) = some (.tup [.str (nt.tx.sv xs), .bool true], []) := by
  intro d
  induction d with
  | zero =>
    intro n i ss hi hs hn
    obtain ⟨n, rfl⟩ : ∃ k, n = k + 1 := ⟨n - 1, by omega⟩
    have c1 : ¬ (((i : Nat) : Int) < ((xs.length : Nat) : Int)) := by omega
    obtain rfl : i = xs.length := by omega
    rw [List.take_length] at hs
    subst hs
    have c2 : (xs.map nt.of.sv).length = (xs.map nt.of.sv).length ∧ (xs.map nt.of.sv).length ≤ 1000 := ⟨rfl, by rw [List.length_map]; omega⟩
    have hj : sx.jok.sp (xs.map nt.of.sv) sx.comma = true := nt.jok (by omega)
    have hj2 : sx.jok.sp (xs.map nt.of.sv) sx.comma = true := hj
    rw [round]
    have c3 : (xs.map nt.of.sv).length ≤ 1000 := c2.2
    simp -implicitDefEqProofs (disch := omega) only [hj2, take_one, set_one, decide_eq_true, decide_eq_false, IntWalk.i64_in, beqT, beqF, bneT, bneF, nat_succ, ← Int.natCast_mul, ← Int.natCast_add, Int.toNat_natCast, Int.zero_mul, Int.zero_add, Int.add_zero, Nat.zero_add, Nat.add_zero, Nat.zero_mul, List.length_singleton, List.length_append, List.length_nil, List.length_cons, List.take_length, List.drop_zero, List.replicate_zero, List.take_nil, List.nil_append, Nat.reduceBEq, Nat.reduceMul, Nat.reduceLeDiff, eq_self, and_self, true_and, and_true, decide_true, decide_false, Bool.and_self, Bool.or_self, Bool.and_true, Bool.true_and, Bool.and_false, Bool.false_and, Bool.or_true, Bool.true_or, Bool.or_false, Bool.false_or, Bool.not_true, Bool.not_false, cond_true, cond_false]
    rfl
  | succ d ih =>
    intro n i ss hi hs hn
    obtain ⟨n, rfl⟩ : ∃ k, n = k + 1 := ⟨n - 1, by omega⟩
    have hlt : i < xs.length := by omega
    have hwi := hw _ (gn_mem hlt)
    have hg : gn xs i = xs[i] := by simp [gn, hlt]
    have hsl : ss.length = i := by rw [hs, List.length_map, List.length_take]; omega
    have g := ih n (i + 1) (ss ++ [nt.of.sv (gn xs i)]) (by omega) (by rw [take_map _ _ _ hlt, ← hs, hg]) (by omega)
    have ht : List.take ss.length ss = ss := List.take_length
    have one : List.take 1 (List.drop 0 ((List.replicate 1 ByteArray.empty).set 0 (nt.of.sv (gn xs i)))) = [nt.of.sv (gn xs i)] := rfl
    rw [List.length_append, List.length_singleton] at g
    rw [round]
    simp -implicitDefEqProofs (disch := omega) only [hwi, ht, take_one, set_one, decide_eq_true, decide_eq_false, IntWalk.i64_in, beqT, beqF, bneT, bneF, nat_succ, ← Int.natCast_mul, ← Int.natCast_add, Int.toNat_natCast, Int.zero_mul, Int.zero_add, Int.add_zero, Nat.zero_add, Nat.add_zero, Nat.zero_mul, List.length_singleton, List.length_append, List.length_nil, List.length_cons, List.take_length, List.drop_zero, List.replicate_zero, List.take_nil, List.nil_append, Nat.reduceBEq, Nat.reduceMul, Nat.reduceLeDiff, eq_self, and_self, true_and, and_true, decide_true, decide_false, Bool.and_self, Bool.or_self, Bool.and_true, Bool.true_and, Bool.and_false, Bool.false_and, Bool.or_true, Bool.true_or, Bool.or_false, Bool.false_or, Bool.not_true, Bool.not_false, cond_true, cond_false]
    exact g
theorem run : ∀ args v new, R args = some (true, v, new) → ∃ fuel, regc [] (runFn Tryz.prog (orc [⟨47, hexOf.R⟩, ⟨48, joined.R⟩]) hd Dr.std none fuel (bodyOf Tryz.f31) 25 [2, 3] args []) = some (v, new) := by
  intro args v new h
  unfold R at h
  split at h
  · rename_i xs m
    simp only [Option.some.injEq, Prod.mk.injEq, decide_eq_true_eq] at h
    obtain ⟨⟨rfl, h1, h2⟩, rfl, rfl⟩ := h
    obtain ⟨F, hF⟩ : ∃ F : Nat, F = 1000 := ⟨1000, rfl⟩
    refine ⟨F, ?_⟩
    have g := loop xs F h1 h2 xs.length F 0 [] (by omega) rfl (by omega)
    have c : ¬ ((256 : Int) < ((xs.length : Nat) : Int)) := by omega
    rw [start, decide_eq_false c, cond_false]
    exact g
  · cases h
theorem ok : EntOk Tryz.prog ⟨31, R⟩ :=
  ent_okAG (ks := []) mixed (A := (orc [⟨47, hexOf.R⟩, ⟨48, joined.R⟩])) (orc_ok (by simp only [List.mem_cons, List.not_mem_nil, or_false, forall_eq_or_imp, forall_eq]; exact ⟨hexOf.ok, joined.ok⟩)) Tryz.func31 (by kernel_rfl) (by kernel_rfl) (n := 25) (ts := [2, 3]) (hd := hd) (dr := Dr.std) (cut := none) (by kernel_rfl) (by kernel_rfl) (by kernel_rfl) run
end NumbersText

end Go.Proofs.YtjhofofieiiplaaGreatDoor.Ab
