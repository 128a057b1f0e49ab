/-
  Plain: complex numbers in sixteen digits, lists of them with commas between, and back.
-/
import Derived.Test.YtjhofofieiiplaaGreatDoorFnNp
import Derived.Test.YtjhofofieiiplaaGreatDoorFnNi
import Derived.Test.YtjhofofieiiplaaGreatDoorFnNa
import Derived.Test.YtjhofofieiiplaaGreatDoorFnL
import Derived.Test.YtjhofofieiiplaaGreatDoorFnNl
namespace Go.Proofs.YtjhofofieiiplaaGreatDoor.Ab
open Go
set_option linter.unusedVariables false
set_option linter.unusedSimpArgs false
set_option maxRecDepth 100000

namespace cx
def of.sv (p : Nat × Nat) : ByteArray := sadd.sv (nt.of.sv p.1) (nt.of.sv p.2)
def tx.sv (xs : List (Nat × Nat)) : ByteArray := nt.j.sv (xs.map of.sv)
def canon.sv (p : Nat × Nat) : Nat × Nat := (nt.canon.sv p.1, nt.canon.sv p.2)
def r.sv (s : ByteArray) : Nat × Nat := (hx.r.sv (sext.sv s 0 8), hx.r.sv (sext.sv s 8 s.size))
def rd.sv (s : ByteArray) : List (Nat × Nat) := bif seq.sv s nt.none then [] else (sx.split.sv s).map r.sv
def pok.sp (p : ByteArray) : Bool := (hx.ok.sp (sext.sv p 0 8) && hx.ok.sp (sext.sv p 8 p.size)) && (satn.sv p == 16)
def rdok.sp (s : ByteArray) : Bool := (decide (satn.sv s ≤ 1000000) && (decide ((sx.split.sv s).length ≤ 256) && (seq.sv s nt.none || (sx.split.sv s).all pok.sp))) && seq.sv (tx.sv (rd.sv s)) s
def lt (p : Nat × Nat) : Prop := p.1 < 4294967296 ∧ p.2 < 4294967296

theorem size8 (x : Nat) : (nt.of.sv x).size = 8 := by
  have := nt.of_size x
  unfold satn.sv at this
  omega
theorem of_size (p : Nat × Nat) : (of.sv p).size = 16 := by
  unfold of.sv sadd.sv
  rw [ByteArray.size_append, size8, size8]
theorem of_left (p : Nat × Nat) : sext.sv (of.sv p) 0 8 = nt.of.sv p.1 := by
  unfold sext.sv of.sv sadd.sv
  exact ByteArray.extract_append_eq_left (size8 _).symm
theorem of_right (p : Nat × Nat) : sext.sv (of.sv p) 8 (of.sv p).size = nt.of.sv p.2 := by
  rw [of_size]
  unfold sext.sv of.sv sadd.sv
  exact ByteArray.extract_append_eq_right (size8 _).symm (by rw [size8, size8])
theorem of_ok {p : Nat × Nat} (h : lt p) : pok.sp (of.sv p) = true := by
  unfold pok.sp
  rw [of_left, of_right]
  have h1 := nt.of_ok h.1
  have h2 := nt.of_ok h.2
  unfold nt.pok.sp at h1 h2
  rw [Bool.and_eq_true] at h1 h2
  rw [h1.1, h2.1, show satn.sv (of.sv p) = 16 by unfold satn.sv; rw [of_size]; rfl]
  rfl
theorem of_read {p : Nat × Nat} (h : lt p) : r.sv (of.sv p) = canon.sv p := by
  unfold r.sv
  rw [of_left, of_right, nt.of_read h.1, nt.of_read h.2]
  rfl
theorem canon_of {p : Nat × Nat} (h : lt p) : of.sv (canon.sv p) = of.sv p := by
  unfold of.sv canon.sv
  rw [nt.canon_of h.1, nt.canon_of h.2]
theorem of_comma {p : Nat × Nat} (h : lt p) : (44 : UInt8) ∉ (of.sv p).data.toList := by
  unfold of.sv sadd.sv
  rw [ByteArray.toList_data_append, List.mem_append]
  exact not_or.2 ⟨nt.of_comma h.1, nt.of_comma h.2⟩
theorem of_len (p : Nat × Nat) : (of.sv p).data.toList.length = 16 := by
  unfold of.sv sadd.sv
  rw [ByteArray.toList_data_append, List.length_append, nt.of_len, nt.of_len]
theorem lens_of : ∀ xs : List (Nat × Nat), Lib.lens ((xs.map of.sv).map (·.data.toList)) = 16 * xs.length
  | [] => rfl
  | x :: r => by
    have := lens_of r
    unfold Lib.lens at this ⊢
    simp only [List.map_cons, List.sum_cons, List.length_cons, of_len]
    rw [this]; omega
theorem join_len {xs : List (Nat × Nat)} (h : xs ≠ []) : (Lib.join ((xs.map of.sv).map (·.data.toList)) [44]).length = 17 * xs.length - 1 := by
  obtain ⟨x, r, rfl⟩ : ∃ x r, xs = x :: r := by cases xs with
    | nil => exact absurd rfl h
    | cons x r => exact ⟨x, r, rfl⟩
  have hl := lens_of (x :: r)
  rw [List.map_cons, List.map_cons] at hl ⊢
  rw [Lib.join_length, hl]
  simp
  omega
theorem jok {xs : List (Nat × Nat)} (h : xs.length ≤ 1000) : sx.jok.sp (xs.map of.sv) sx.comma = true := by
  unfold sx.jok.sp
  rw [decide_eq_true_eq]
  by_cases h0 : xs = []
  · subst h0; decide
  · have := join_len h0
    rw [show sx.comma.data.toList = [44] from rfl, this]
    omega
theorem tx_size {xs : List (Nat × Nat)} (h : xs ≠ []) : satn.sv (tx.sv xs) = 17 * (xs.length : Int) - 1 := by
  have hp : 1 ≤ xs.length := by cases xs with
    | nil => exact absurd rfl h
    | cons _ _ => simp
  unfold tx.sv nt.j.sv
  rw [List.length_map, decide_eq_false (by omega), cond_false]
  show ((Lib.join _ _).toArray.size : Int) = _
  rw [List.size_toArray, show sx.comma.data.toList = [44] from rfl, join_len h]
  omega
theorem tx_nil : tx.sv [] = nt.none := rfl
theorem tx_none {xs : List (Nat × Nat)} (h : xs ≠ []) : seq.sv (tx.sv xs) nt.none = false := by
  cases hs : seq.sv (tx.sv xs) nt.none with
  | false => rfl
  | true =>
    have := congrArg satn.sv (nt.seq_eq.1 hs)
    rw [tx_size h, show satn.sv nt.none = 4 from rfl] at this
    omega
theorem tx_split {xs : List (Nat × Nat)} (h : xs ≠ []) (hw : ∀ x ∈ xs, lt x) : sx.split.sv (tx.sv xs) = xs.map of.sv := by
  have hp : 1 ≤ xs.length := by cases xs with
    | nil => exact absurd rfl h
    | cons _ _ => simp
  unfold tx.sv nt.j.sv
  rw [List.length_map, decide_eq_false (by omega), cond_false]
  refine nt.split_join (by simpa using h) fun s hs => ?_
  obtain ⟨x, hx, rfl⟩ := List.mem_map.1 hs
  exact of_comma (hw x hx)
theorem rd_tx {xs : List (Nat × Nat)} (hw : ∀ x ∈ xs, lt x) : rd.sv (tx.sv xs) = xs.map canon.sv := by
  by_cases h : xs = []
  · subst h
    unfold rd.sv
    rw [tx_nil, nt.seq_eq.2 rfl]; rfl
  · unfold rd.sv
    rw [tx_none h, cond_false, tx_split h hw, List.map_map]
    apply List.map_congr_left
    intro x hx
    exact of_read (hw x hx)
theorem tx_canon {xs : List (Nat × Nat)} (hw : ∀ x ∈ xs, lt x) : tx.sv (xs.map canon.sv) = tx.sv xs := by
  unfold tx.sv
  rw [List.map_map]
  congr 1
  apply List.map_congr_left
  intro x hx
  exact canon_of (hw x hx)
/-- What is written of complex numbers can be read. -/
theorem tx_ok {xs : List (Nat × Nat)} (hw : ∀ x ∈ xs, lt x) (hl : xs.length ≤ 256) : rdok.sp (tx.sv xs) = true := by
  unfold rdok.sp
  rw [rd_tx hw, tx_canon hw, show seq.sv (tx.sv xs) (tx.sv xs) = true from nt.seq_eq.2 rfl, Bool.and_true]
  by_cases h : xs = []
  · subst h; decide +kernel
  · rw [tx_size h, tx_split h hw, tx_none h, Bool.false_or, List.length_map]
    simp only [Bool.and_eq_true, decide_eq_true_eq, List.all_eq_true]
    refine ⟨by omega, hl, fun p hp => ?_⟩
    obtain ⟨x, hx, rfl⟩ := List.mem_map.1 hp
    exact of_ok (hw x hx)
end cx


namespace cp
def pw.sv (a b : Nat) : Nat := fadd .f64 (fmul .f64 (fwid.sv a) (fwid.sv a)) (fmul .f64 (fwid.sv b) (fwid.sv b))
def re.sv (a b c d : Nat) : Nat := fsub .f64 (fmul .f64 a c) (fmul .f64 b d)
def im.sv (a b c d : Nat) : Nat := fadd .f64 (fmul .f64 a d) (fmul .f64 b c)
def mre.sv (a b c d : Nat) : Nat := re.sv (fwid.sv a) (fwid.sv b) (fwid.sv c) (fwid.sv d)
def mim.sv (a b c d : Nat) : Nat := im.sv (fwid.sv a) (fwid.sv b) (fwid.sv c) (fwid.sv d)
def qre.sv (a b c d : Nat) : Nat := fdiv .f64 (re.sv (fwid.sv a) (fwid.sv b) (fwid.sv c) (Op.negFloat .f64 (fwid.sv d))) (pw.sv c d)
def qim.sv (a b c d : Nat) : Nat := fdiv .f64 (im.sv (fwid.sv a) (fwid.sv b) (fwid.sv c) (Op.negFloat .f64 (fwid.sv d))) (pw.sv c d)
end cp

namespace cParts
def R : List AVal → Option (Bool × AVal × List Blk)
  | [.cpx .f32 a b] => some (true, .tup [.flt .f64 (fwid.sv a), .flt .f64 (fwid.sv b)], [])
  | _ => none
theorem go (a b : Nat) :
  runFn Tryz.prog (orc []) hd0 Dr.std none 0 (bodyOf Tryz.f40) 10 [2, 3] [.cpx .f32 a b] []
  = (some (AVal.tup [AVal.flt FloatKind.f64 (fwid.sv a), AVal.flt FloatKind.f64 (fwid.sv b)], [])) := by kernel_rfl
theorem run : ∀ args v new, R args = some (true, v, new) → ∃ fuel, runFn Tryz.prog (orc []) hd0 Dr.std none fuel (bodyOf Tryz.f40) 10 [2, 3] args [] = some (v, new) := by
  intro args v new h
  unfold R at h
  split at h
  · rename_i a b
    simp only [Option.some.injEq, Prod.mk.injEq] at h
    obtain ⟨-, rfl, rfl⟩ := h
    refine ⟨0, ?_⟩
    rw [go]
    
  · cases h
theorem ok : EntOk Tryz.prog ⟨40, R⟩ :=
  ent_okA mixed (A := (orc [])) (orc_ok (by simp)) Tryz.func40 (by kernel_rfl) (by kernel_rfl) (n := 10) (ts := [2, 3]) (hd := hd0) (dr := Dr.std) (cut := none) (by kernel_rfl) (by kernel_rfl) (by kernel_rfl) run
end cParts

namespace cTimes
def R : List AVal → Option (Bool × AVal × List Blk)
  | [.flt .f64 a, .flt .f64 b, .flt .f64 c, .flt .f64 d] => some (true, .tup [.flt .f64 (cp.re.sv a b c d), .flt .f64 (cp.im.sv a b c d)], [])
  | _ => none
theorem go (a b c d : Nat) :
  runFn Tryz.prog (orc []) hd0 Dr.std none 0 (bodyOf Tryz.f41) 24 [8, 9] [.flt .f64 a, .flt .f64 b, .flt .f64 c, .flt .f64 d] []
  = (some (AVal.tup [AVal.flt FloatKind.f64 (fsub FloatKind.f64 (fmul FloatKind.f64 a c) (fmul FloatKind.f64 b d)), AVal.flt FloatKind.f64 (fadd FloatKind.f64 (fmul FloatKind.f64 a d) (fmul FloatKind.f64 b c))], [])) := by kernel_rfl
theorem run : ∀ args v new, R args = some (true, v, new) → ∃ fuel, runFn Tryz.prog (orc []) hd0 Dr.std none fuel (bodyOf Tryz.f41) 24 [8, 9] args [] = some (v, new) := by
  intro args v new h
  unfold R at h
  split at h
  · rename_i a b c d
    simp only [Option.some.injEq, Prod.mk.injEq] at h
    obtain ⟨-, rfl, rfl⟩ := h
    refine ⟨0, ?_⟩
    rw [go]
    rfl
  · cases h
theorem ok : EntOk Tryz.prog ⟨41, R⟩ :=
  ent_okA mixed (A := (orc [])) (orc_ok (by simp)) Tryz.func41 (by kernel_rfl) (by kernel_rfl) (n := 24) (ts := [8, 9]) (hd := hd0) (dr := Dr.std) (cut := none) (by kernel_rfl) (by kernel_rfl) (by kernel_rfl) run
end cTimes

namespace cPower
def R : List AVal → Option (Bool × AVal × List Blk)
  | [.cpx .f32 a b] => some (true, .flt .f64 (cp.pw.sv a b), [])
  | _ => none
theorem go (a b : Nat) :
  runFn Tryz.prog (orc [⟨40, cParts.R⟩]) hd0 Dr.std none 0 (bodyOf Tryz.f42) 17 [2] [.cpx .f32 a b] []
  = (bif true && (true && true || true && (true && true) && true) then some (AVal.flt FloatKind.f64 (fadd FloatKind.f64 (fmul FloatKind.f64 (fwid.sv a) (fwid.sv a)) (fmul FloatKind.f64 (fwid.sv b) (fwid.sv b))), []) else none) := by kernel_rfl
theorem run : ∀ args v new, R args = some (true, v, new) → ∃ fuel, runFn Tryz.prog (orc [⟨40, cParts.R⟩]) hd0 Dr.std none fuel (bodyOf Tryz.f42) 17 [2] args [] = some (v, new) := by
  intro args v new h
  unfold R at h
  split at h
  · rename_i a b
    simp only [Option.some.injEq, Prod.mk.injEq] at h
    obtain ⟨-, rfl, rfl⟩ := h
    refine ⟨0, ?_⟩
    rw [go]
    rfl
  · cases h
theorem ok : EntOk Tryz.prog ⟨42, R⟩ :=
  ent_okA mixed (A := (orc [⟨40, cParts.R⟩])) (orc_ok (by simp only [List.mem_cons, List.not_mem_nil, or_false, forall_eq_or_imp, forall_eq]; exact cParts.ok)) Tryz.func42 (by kernel_rfl) (by kernel_rfl) (n := 17) (ts := [2]) (hd := hd0) (dr := Dr.std) (cut := none) (by kernel_rfl) (by kernel_rfl) (by kernel_rfl) run
end cPower

namespace MulComplex
def R : List AVal → Option (Bool × AVal × List Blk)
  | [.cpx .f32 a b, .cpx .f32 c d] => some (nar.ok.sp (cp.mre.sv a b c d) && nar.ok.sp (cp.mim.sv a b c d), .cpx .f32 (nar.sv (cp.mre.sv a b c d)) (nar.sv (cp.mim.sv a b c d)), [])
  | _ => none
theorem go (a b c d : Nat) :
  runFn Tryz.prog (orc [⟨40, cParts.R⟩, ⟨41, cTimes.R⟩]) hd0 Dr.std none 0 (bodyOf Tryz.f7) 34 [4] [.cpx .f32 a b, .cpx .f32 c d] []
  = (bif true && (true && true || true && (true && true) && true) then bif true && (true && true || true && (true && true) && true) then bif true && (true && (true && (true && (true && true))) || true && (true && true) && true) then bif nar.ok.sp (cp.re.sv (fwid.sv a) (fwid.sv b) (fwid.sv c) (fwid.sv d)) then bif nar.ok.sp (cp.im.sv (fwid.sv a) (fwid.sv b) (fwid.sv c) (fwid.sv d)) then some (AVal.cpx FloatKind.f32 (nar.sv (cp.re.sv (fwid.sv a) (fwid.sv b) (fwid.sv c) (fwid.sv d))) (nar.sv (cp.im.sv (fwid.sv a) (fwid.sv b) (fwid.sv c) (fwid.sv d))), []) else none else none else none else none else none) := by kernel_rfl
theorem run : ∀ args v new, R args = some (true, v, new) → ∃ fuel, runFn Tryz.prog (orc [⟨40, cParts.R⟩, ⟨41, cTimes.R⟩]) hd0 Dr.std none fuel (bodyOf Tryz.f7) 34 [4] args [] = some (v, new) := by
  intro args v new h
  unfold R at h
  split at h
  · rename_i a b c d
    simp only [Option.some.injEq, Prod.mk.injEq, Bool.and_eq_true] at h
    obtain ⟨⟨h1, h2⟩, rfl, rfl⟩ := h
    refine ⟨0, ?_⟩
    unfold cp.mre.sv at h1 ⊢
    unfold cp.mim.sv at h2 ⊢
    rw [go]
    simp -implicitDefEqProofs (disch := omega) only [h1, h2, take_one, set_one, decide_eq_true, decide_eq_false, IntWalk.i64_in, beqT, beqF, bneT, bneF, nat_succ, ← Int.natCast_mul, ← Int.natCast_add, Int.toNat_natCast, Int.zero_mul, Int.zero_add, Int.add_zero, Nat.zero_add, Nat.add_zero, Nat.zero_mul, List.length_singleton, List.length_append, List.length_nil, List.length_cons, List.take_length, List.drop_zero, List.replicate_zero, List.take_nil, List.nil_append, Nat.reduceBEq, Nat.reduceMul, Nat.reduceLeDiff, eq_self, and_self, true_and, and_true, decide_true, decide_false, Bool.and_self, Bool.or_self, Bool.and_true, Bool.true_and, Bool.and_false, Bool.false_and, Bool.or_true, Bool.true_or, Bool.or_false, Bool.false_or, Bool.not_true, Bool.not_false, cond_true, cond_false]
  · cases h
theorem ok : EntOk Tryz.prog ⟨7, R⟩ :=
  ent_okA mixed (A := (orc [⟨40, cParts.R⟩, ⟨41, cTimes.R⟩])) (orc_ok (by simp only [List.mem_cons, List.not_mem_nil, or_false, forall_eq_or_imp, forall_eq]; exact ⟨cParts.ok, cTimes.ok⟩)) Tryz.func7 (by kernel_rfl) (by kernel_rfl) (n := 34) (ts := [4]) (hd := hd0) (dr := Dr.std) (cut := none) (by kernel_rfl) (by kernel_rfl) (by kernel_rfl) run
end MulComplex

namespace PowerOf
def R : List AVal → Option (Bool × AVal × List Blk)
  | [.cpx .f32 a b] => some (nar.ok.sp (cp.pw.sv a b), .flt .f32 (nar.sv (cp.pw.sv a b)), [])
  | _ => none
theorem go (a b : Nat) :
  runFn Tryz.prog (orc [⟨42, cPower.R⟩]) hd0 Dr.std none 0 (bodyOf Tryz.f8) 6 [2] [.cpx .f32 a b] []
  = (bif true && (true && true || true && true) then bif nar.ok.sp (cp.pw.sv a b) then some (AVal.flt FloatKind.f32 (nar.sv (cp.pw.sv a b)), []) else none else none) := by kernel_rfl
theorem run : ∀ args v new, R args = some (true, v, new) → ∃ fuel, runFn Tryz.prog (orc [⟨42, cPower.R⟩]) hd0 Dr.std none fuel (bodyOf Tryz.f8) 6 [2] args [] = some (v, new) := by
  intro args v new h
  unfold R at h
  split at h
  · rename_i a b
    simp only [Option.some.injEq, Prod.mk.injEq] at h
    obtain ⟨h1, rfl, rfl⟩ := h
    refine ⟨0, ?_⟩
    rw [go]
    simp -implicitDefEqProofs (disch := omega) only [h1, take_one, set_one, decide_eq_true, decide_eq_false, IntWalk.i64_in, beqT, beqF, bneT, bneF, nat_succ, ← Int.natCast_mul, ← Int.natCast_add, Int.toNat_natCast, Int.zero_mul, Int.zero_add, Int.add_zero, Nat.zero_add, Nat.add_zero, Nat.zero_mul, List.length_singleton, List.length_append, List.length_nil, List.length_cons, List.take_length, List.drop_zero, List.replicate_zero, List.take_nil, List.nil_append, Nat.reduceBEq, Nat.reduceMul, Nat.reduceLeDiff, eq_self, and_self, true_and, and_true, decide_true, decide_false, Bool.and_self, Bool.or_self, Bool.and_true, Bool.true_and, Bool.and_false, Bool.false_and, Bool.or_true, Bool.true_or, Bool.or_false, Bool.false_or, Bool.not_true, Bool.not_false, cond_true, cond_false]
  · cases h
theorem ok : EntOk Tryz.prog ⟨8, R⟩ :=
  ent_okA mixed (A := (orc [⟨42, cPower.R⟩])) (orc_ok (by simp only [List.mem_cons, List.not_mem_nil, or_false, forall_eq_or_imp, forall_eq]; exact cPower.ok)) Tryz.func8 (by kernel_rfl) (by kernel_rfl) (n := 6) (ts := [2]) (hd := hd0) (dr := Dr.std) (cut := none) (by kernel_rfl) (by kernel_rfl) (by kernel_rfl) run
end PowerOf

namespace ConjugateOf
def R : List AVal → Option (Bool × AVal × List Blk)
  | [.cpx .f32 a b] => some (true, .cpx .f32 a (Op.negFloat .f32 b), [])
  | _ => none
theorem go (a b : Nat) :
  runFn Tryz.prog (orc []) hd0 Dr.std none 0 (bodyOf Tryz.f9) 9 [2] [.cpx .f32 a b] []
  = (some (AVal.cpx FloatKind.f32 a (Op.negFloat FloatKind.f32 b), [])) := by kernel_rfl
theorem run : ∀ args v new, R args = some (true, v, new) → ∃ fuel, runFn Tryz.prog (orc []) hd0 Dr.std none fuel (bodyOf Tryz.f9) 9 [2] args [] = some (v, new) := by
  intro args v new h
  unfold R at h
  split at h
  · rename_i a b
    simp only [Option.some.injEq, Prod.mk.injEq] at h
    obtain ⟨-, rfl, rfl⟩ := h
    refine ⟨0, ?_⟩
    rw [go]
    
  · cases h
theorem ok : EntOk Tryz.prog ⟨9, R⟩ :=
  ent_okA mixed (A := (orc [])) (orc_ok (by simp)) Tryz.func9 (by kernel_rfl) (by kernel_rfl) (n := 9) (ts := [2]) (hd := hd0) (dr := Dr.std) (cut := none) (by kernel_rfl) (by kernel_rfl) (by kernel_rfl) run
end ConjugateOf

namespace LongOf
def R : List AVal → Option (Bool × AVal × List Blk)
  | [.cpx .f32 a b] => some (sqr.ok.sp (cp.pw.sv a b) && nar.ok.sp (sqr.sv (cp.pw.sv a b)), .flt .f32 (nar.sv (sqr.sv (cp.pw.sv a b))), [])
  | _ => none
theorem go (a b : Nat) :
  runFn Tryz.prog (orc [⟨42, cPower.R⟩, ⟨44, mathSqrt.R⟩]) hd0 Dr.std none 0 (bodyOf Tryz.f11) 7 [2] [.cpx .f32 a b] []
  = (bif true && (true && true || true && true) then bif sqr.ok.sp (cp.pw.sv a b) && (true && true || true && true) then bif nar.ok.sp (sqr.sv (cp.pw.sv a b)) then some (AVal.flt FloatKind.f32 (nar.sv (sqr.sv (cp.pw.sv a b))), []) else none else none else none) := by kernel_rfl
theorem run : ∀ args v new, R args = some (true, v, new) → ∃ fuel, runFn Tryz.prog (orc [⟨42, cPower.R⟩, ⟨44, mathSqrt.R⟩]) hd0 Dr.std none fuel (bodyOf Tryz.f11) 7 [2] args [] = some (v, new) := by
  intro args v new h
  unfold R at h
  split at h
  · rename_i a b
    simp only [Option.some.injEq, Prod.mk.injEq, Bool.and_eq_true] at h
    obtain ⟨⟨h1, h2⟩, rfl, rfl⟩ := h
    refine ⟨0, ?_⟩
    rw [go]
    simp -implicitDefEqProofs (disch := omega) only [h1, h2, take_one, set_one, decide_eq_true, decide_eq_false, IntWalk.i64_in, beqT, beqF, bneT, bneF, nat_succ, ← Int.natCast_mul, ← Int.natCast_add, Int.toNat_natCast, Int.zero_mul, Int.zero_add, Int.add_zero, Nat.zero_add, Nat.add_zero, Nat.zero_mul, List.length_singleton, List.length_append, List.length_nil, List.length_cons, List.take_length, List.drop_zero, List.replicate_zero, List.take_nil, List.nil_append, Nat.reduceBEq, Nat.reduceMul, Nat.reduceLeDiff, eq_self, and_self, true_and, and_true, decide_true, decide_false, Bool.and_self, Bool.or_self, Bool.and_true, Bool.true_and, Bool.and_false, Bool.false_and, Bool.or_true, Bool.true_or, Bool.or_false, Bool.false_or, Bool.not_true, Bool.not_false, cond_true, cond_false]
  · cases h
theorem ok : EntOk Tryz.prog ⟨11, R⟩ :=
  ent_okA mixed (A := (orc [⟨42, cPower.R⟩, ⟨44, mathSqrt.R⟩])) (orc_ok (by simp only [List.mem_cons, List.not_mem_nil, or_false, forall_eq_or_imp, forall_eq]; exact ⟨cPower.ok, mathSqrt.ok⟩)) Tryz.func11 (by kernel_rfl) (by kernel_rfl) (n := 7) (ts := [2]) (hd := hd0) (dr := Dr.std) (cut := none) (by kernel_rfl) (by kernel_rfl) (by kernel_rfl) run
end LongOf

namespace QuotientOf
def R : List AVal → Option (Bool × AVal × List Blk)
  | [.cpx .f32 a b, .cpx .f32 c d] => some (nar.ok.sp (cp.qre.sv a b c d) && nar.ok.sp (cp.qim.sv a b c d), .cpx .f32 (nar.sv (cp.qre.sv a b c d)) (nar.sv (cp.qim.sv a b c d)), [])
  | _ => none
theorem go (a b c d : Nat) :
  runFn Tryz.prog (orc [⟨40, cParts.R⟩, ⟨41, cTimes.R⟩, ⟨42, cPower.R⟩]) hd0 Dr.std none 0 (bodyOf Tryz.f13) 42 [4] [.cpx .f32 a b, .cpx .f32 c d] []
  = (bif true && (true && true || true && (true && true) && true) then bif true && (true && true || true && (true && true) && true) then bif true && (true && (true && (true && (true && true))) || true && (true && true) && true) then bif true && (true && true || true && true) then bif nar.ok.sp (fdiv FloatKind.f64 (cp.re.sv (fwid.sv a) (fwid.sv b) (fwid.sv c) (Op.negFloat FloatKind.f64 (fwid.sv d))) (cp.pw.sv c d)) then bif nar.ok.sp (fdiv FloatKind.f64 (cp.im.sv (fwid.sv a) (fwid.sv b) (fwid.sv c) (Op.negFloat FloatKind.f64 (fwid.sv d))) (cp.pw.sv c d)) then some (AVal.cpx FloatKind.f32 (nar.sv (fdiv FloatKind.f64 (cp.re.sv (fwid.sv a) (fwid.sv b) (fwid.sv c) (Op.negFloat FloatKind.f64 (fwid.sv d))) (cp.pw.sv c d))) (nar.sv (fdiv FloatKind.f64 (cp.im.sv (fwid.sv a) (fwid.sv b) (fwid.sv c) (Op.negFloat FloatKind.f64 (fwid.sv d))) (cp.pw.sv c d))), []) else none else none else none else none else none else none) := by kernel_rfl
theorem run : ∀ args v new, R args = some (true, v, new) → ∃ fuel, runFn Tryz.prog (orc [⟨40, cParts.R⟩, ⟨41, cTimes.R⟩, ⟨42, cPower.R⟩]) hd0 Dr.std none fuel (bodyOf Tryz.f13) 42 [4] args [] = some (v, new) := by
  intro args v new h
  unfold R at h
  split at h
  · rename_i a b c d
    simp only [Option.some.injEq, Prod.mk.injEq, Bool.and_eq_true] at h
    obtain ⟨⟨h1, h2⟩, rfl, rfl⟩ := h
    refine ⟨0, ?_⟩
    unfold cp.qre.sv at h1 ⊢
    unfold cp.qim.sv at h2 ⊢
    rw [go]
    simp -implicitDefEqProofs (disch := omega) only [h1, h2, take_one, set_one, decide_eq_true, decide_eq_false, IntWalk.i64_in, beqT, beqF, bneT, bneF, nat_succ, ← Int.natCast_mul, ← Int.natCast_add, Int.toNat_natCast, Int.zero_mul, Int.zero_add, Int.add_zero, Nat.zero_add, Nat.add_zero, Nat.zero_mul, List.length_singleton, List.length_append, List.length_nil, List.length_cons, List.take_length, List.drop_zero, List.replicate_zero, List.take_nil, List.nil_append, Nat.reduceBEq, Nat.reduceMul, Nat.reduceLeDiff, eq_self, and_self, true_and, and_true, decide_true, decide_false, Bool.and_self, Bool.or_self, Bool.and_true, Bool.true_and, Bool.and_false, Bool.false_and, Bool.or_true, Bool.true_or, Bool.or_false, Bool.false_or, Bool.not_true, Bool.not_false, cond_true, cond_false]
  · cases h
theorem ok : EntOk Tryz.prog ⟨13, R⟩ :=
  ent_okA mixed (A := (orc [⟨40, cParts.R⟩, ⟨41, cTimes.R⟩, ⟨42, cPower.R⟩])) (orc_ok (by simp only [List.mem_cons, List.not_mem_nil, or_false, forall_eq_or_imp, forall_eq]; exact ⟨cParts.ok, cTimes.ok, cPower.ok⟩)) Tryz.func13 (by kernel_rfl) (by kernel_rfl) (n := 42) (ts := [4]) (hd := hd0) (dr := Dr.std) (cut := none) (by kernel_rfl) (by kernel_rfl) (by kernel_rfl) run
end QuotientOf

namespace ScaleComplex
def R : List AVal → Option (Bool × AVal × List Blk)
  | [.cpx .f32 a b, .flt .f32 x] => some (true, .cpx .f32 (fmul .f32 a x) (fmul .f32 b x), [])
  | _ => none
theorem go (a b x : Nat) :
  runFn Tryz.prog (orc []) hd0 Dr.std none 0 (bodyOf Tryz.f14) 14 [4] [.cpx .f32 a b, .flt .f32 x] []
  = (some (AVal.cpx FloatKind.f32 (fmul FloatKind.f32 a x) (fmul FloatKind.f32 b x), [])) := by kernel_rfl
theorem run : ∀ args v new, R args = some (true, v, new) → ∃ fuel, runFn Tryz.prog (orc []) hd0 Dr.std none fuel (bodyOf Tryz.f14) 14 [4] args [] = some (v, new) := by
  intro args v new h
  unfold R at h
  split at h
  · rename_i a b x
    simp only [Option.some.injEq, Prod.mk.injEq] at h
    obtain ⟨-, rfl, rfl⟩ := h
    refine ⟨0, ?_⟩
    rw [go]
    
  · cases h
theorem ok : EntOk Tryz.prog ⟨14, R⟩ :=
  ent_okA mixed (A := (orc [])) (orc_ok (by simp)) Tryz.func14 (by kernel_rfl) (by kernel_rfl) (n := 14) (ts := [4]) (hd := hd0) (dr := Dr.std) (cut := none) (by kernel_rfl) (by kernel_rfl) (by kernel_rfl) run
end ScaleComplex

namespace l01Sqrt
def R : List AVal → Option (Bool × AVal × List Blk)
  | [.flt .f32 x] => some (sqr.ok.sp (fwid.sv x) && nar.ok.sp (sqr.sv (fwid.sv x)), .flt .f32 (nar.sv (sqr.sv (fwid.sv x))), [])
  | _ => none
theorem go (x : Nat) :
  runFn Tryz.prog (orc [⟨44, mathSqrt.R⟩, ⟨71, l01Narrow.R⟩]) hd0 Dr.std none 0 (bodyOf Tryz.f45) 7 [2] [.flt .f32 x] []
  = (bif sqr.ok.sp (fwid.sv x) && (true && true || true && true) then bif nar.ok.sp (sqr.sv (fwid.sv x)) && (true && true || true && true) then some (AVal.flt FloatKind.f32 (nar.sv (sqr.sv (fwid.sv x))), []) else none else none) := by kernel_rfl
theorem run : ∀ args v new, R args = some (true, v, new) → ∃ fuel, runFn Tryz.prog (orc [⟨44, mathSqrt.R⟩, ⟨71, l01Narrow.R⟩]) hd0 Dr.std none fuel (bodyOf Tryz.f45) 7 [2] args [] = some (v, new) := by
  intro args v new h
  unfold R at h
  split at h
  · rename_i x
    simp only [Option.some.injEq, Prod.mk.injEq, Bool.and_eq_true] at h
    obtain ⟨⟨h1, h2⟩, rfl, rfl⟩ := h
    refine ⟨0, ?_⟩
    rw [go]
    simp -implicitDefEqProofs (disch := omega) only [h1, h2, take_one, set_one, decide_eq_true, decide_eq_false, IntWalk.i64_in, beqT, beqF, bneT, bneF, nat_succ, ← Int.natCast_mul, ← Int.natCast_add, Int.toNat_natCast, Int.zero_mul, Int.zero_add, Int.add_zero, Nat.zero_add, Nat.add_zero, Nat.zero_mul, List.length_singleton, List.length_append, List.length_nil, List.length_cons, List.take_length, List.drop_zero, List.replicate_zero, List.take_nil, List.nil_append, Nat.reduceBEq, Nat.reduceMul, Nat.reduceLeDiff, eq_self, and_self, true_and, and_true, decide_true, decide_false, Bool.and_self, Bool.or_self, Bool.and_true, Bool.true_and, Bool.and_false, Bool.false_and, Bool.or_true, Bool.true_or, Bool.or_false, Bool.false_or, Bool.not_true, Bool.not_false, cond_true, cond_false]
  · cases h
theorem ok : EntOk Tryz.prog ⟨45, R⟩ :=
  ent_okA mixed (A := (orc [⟨44, mathSqrt.R⟩, ⟨71, l01Narrow.R⟩])) (orc_ok (by simp only [List.mem_cons, List.not_mem_nil, or_false, forall_eq_or_imp, forall_eq]; exact ⟨mathSqrt.ok, l01Narrow.ok⟩)) Tryz.func45 (by kernel_rfl) (by kernel_rfl) (n := 7) (ts := [2]) (hd := hd0) (dr := Dr.std) (cut := none) (by kernel_rfl) (by kernel_rfl) (by kernel_rfl) run
end l01Sqrt

namespace RootNumber
def R : List AVal → Option (Bool × AVal × List Blk)
  | [.flt .f32 x] => some (sqr.ok.sp (fwid.sv x) && nar.ok.sp (sqr.sv (fwid.sv x)), .flt .f32 (nar.sv (sqr.sv (fwid.sv x))), [])
  | _ => none
theorem go (x : Nat) :
  runFn Tryz.prog (orc [⟨45, l01Sqrt.R⟩]) hd0 Dr.std none 0 (bodyOf Tryz.f12) 5 [2] [.flt .f32 x] []
  = (bif sqr.ok.sp (fwid.sv x) && nar.ok.sp (sqr.sv (fwid.sv x)) && (true && true || true && true) then some (AVal.flt FloatKind.f32 (nar.sv (sqr.sv (fwid.sv x))), []) else none) := by kernel_rfl
theorem run : ∀ args v new, R args = some (true, v, new) → ∃ fuel, runFn Tryz.prog (orc [⟨45, l01Sqrt.R⟩]) hd0 Dr.std none fuel (bodyOf Tryz.f12) 5 [2] args [] = some (v, new) := by
  intro args v new h
  unfold R at h
  split at h
  · rename_i x
    simp only [Option.some.injEq, Prod.mk.injEq, Bool.and_eq_true] at h
    obtain ⟨⟨h1, h2⟩, rfl, rfl⟩ := h
    refine ⟨0, ?_⟩
    rw [go]
    simp -implicitDefEqProofs (disch := omega) only [h1, h2, take_one, set_one, decide_eq_true, decide_eq_false, IntWalk.i64_in, beqT, beqF, bneT, bneF, nat_succ, ← Int.natCast_mul, ← Int.natCast_add, Int.toNat_natCast, Int.zero_mul, Int.zero_add, Int.add_zero, Nat.zero_add, Nat.add_zero, Nat.zero_mul, List.length_singleton, List.length_append, List.length_nil, List.length_cons, List.take_length, List.drop_zero, List.replicate_zero, List.take_nil, List.nil_append, Nat.reduceBEq, Nat.reduceMul, Nat.reduceLeDiff, eq_self, and_self, true_and, and_true, decide_true, decide_false, Bool.and_self, Bool.or_self, Bool.and_true, Bool.true_and, Bool.and_false, Bool.false_and, Bool.or_true, Bool.true_or, Bool.or_false, Bool.false_or, Bool.not_true, Bool.not_false, cond_true, cond_false]
  · cases h
theorem ok : EntOk Tryz.prog ⟨12, R⟩ :=
  ent_okA mixed (A := (orc [⟨45, l01Sqrt.R⟩])) (orc_ok (by simp only [List.mem_cons, List.not_mem_nil, or_false, forall_eq_or_imp, forall_eq]; exact l01Sqrt.ok)) Tryz.func12 (by kernel_rfl) (by kernel_rfl) (n := 5) (ts := [2]) (hd := hd0) (dr := Dr.std) (cut := none) (by kernel_rfl) (by kernel_rfl) (by kernel_rfl) run
end RootNumber

namespace NarrowComplex
def R : List AVal → Option (Bool × AVal × List Blk)
  | [.cpx .f64 a b] => some (nar.ok.sp a && nar.ok.sp b, .cpx .f32 (nar.sv a) (nar.sv b), [])
  | _ => none
theorem go (a b : Nat) :
  runFn Tryz.prog (orc []) hd0 Dr.std none 0 (bodyOf Tryz.f25) 10 [2] [.cpx .f64 a b] []
  = (bif nar.ok.sp a then bif nar.ok.sp b then some (AVal.cpx FloatKind.f32 (nar.sv a) (nar.sv b), []) else none else none) := by kernel_rfl
theorem run : ∀ args v new, R args = some (true, v, new) → ∃ fuel, runFn Tryz.prog (orc []) hd0 Dr.std none fuel (bodyOf Tryz.f25) 10 [2] args [] = some (v, new) := by
  intro args v new h
  unfold R at h
  split at h
  · rename_i a b
    simp only [Option.some.injEq, Prod.mk.injEq, Bool.and_eq_true] at h
    obtain ⟨⟨h1, h2⟩, rfl, rfl⟩ := h
    refine ⟨0, ?_⟩
    rw [go]
    simp -implicitDefEqProofs (disch := omega) only [h1, h2, take_one, set_one, decide_eq_true, decide_eq_false, IntWalk.i64_in, beqT, beqF, bneT, bneF, nat_succ, ← Int.natCast_mul, ← Int.natCast_add, Int.toNat_natCast, Int.zero_mul, Int.zero_add, Int.add_zero, Nat.zero_add, Nat.add_zero, Nat.zero_mul, List.length_singleton, List.length_append, List.length_nil, List.length_cons, List.take_length, List.drop_zero, List.replicate_zero, List.take_nil, List.nil_append, Nat.reduceBEq, Nat.reduceMul, Nat.reduceLeDiff, eq_self, and_self, true_and, and_true, decide_true, decide_false, Bool.and_self, Bool.or_self, Bool.and_true, Bool.true_and, Bool.and_false, Bool.false_and, Bool.or_true, Bool.true_or, Bool.or_false, Bool.false_or, Bool.not_true, Bool.not_false, cond_true, cond_false]
  · cases h
theorem ok : EntOk Tryz.prog ⟨25, R⟩ :=
  ent_okA mixed (A := (orc [])) (orc_ok (by simp)) Tryz.func25 (by kernel_rfl) (by kernel_rfl) (n := 10) (ts := [2]) (hd := hd0) (dr := Dr.std) (cut := none) (by kernel_rfl) (by kernel_rfl) (by kernel_rfl) run
end NarrowComplex

namespace sIsFinite
def R : List AVal → Option (Bool × AVal × List Blk)
  | [.flt .f32 x] => some (true, .bool (flo.fin.sp x), [])
  | _ => none
theorem go (x : Nat) :
  runFn Tryz.prog (orc [⟨62, l01Finite.R⟩]) hd0 Dr.std none 0 (bodyOf Tryz.f27) 5 [2] [.flt .f32 x] []
  = (bif true && (true && true || true && true) then some (AVal.bool (flo.fin.sp x), []) else none) := by kernel_rfl
theorem run : ∀ args v new, R args = some (true, v, new) → ∃ fuel, runFn Tryz.prog (orc [⟨62, l01Finite.R⟩]) hd0 Dr.std none fuel (bodyOf Tryz.f27) 5 [2] args [] = some (v, new) := by
  intro args v new h
  unfold R at h
  split at h
  · rename_i x
    simp only [Option.some.injEq, Prod.mk.injEq] at h
    obtain ⟨-, rfl, rfl⟩ := h
    refine ⟨0, ?_⟩
    rw [go]
    rfl
  · cases h
theorem ok : EntOk Tryz.prog ⟨27, R⟩ :=
  ent_okA mixed (A := (orc [⟨62, l01Finite.R⟩])) (orc_ok (by simp only [List.mem_cons, List.not_mem_nil, or_false, forall_eq_or_imp, forall_eq]; exact l01Finite.ok)) Tryz.func27 (by kernel_rfl) (by kernel_rfl) (n := 5) (ts := [2]) (hd := hd0) (dr := Dr.std) (cut := none) (by kernel_rfl) (by kernel_rfl) (by kernel_rfl) run
end sIsFinite

namespace IsFiniteComplex
def R : List AVal → Option (Bool × AVal × List Blk)
  | [.cpx .f32 a b] => some (true, .bool (flo.fin.sp a && flo.fin.sp b), [])
  | _ => none
theorem go (a b : Nat) :
  runFn Tryz.prog (orc [⟨61, iIsFinite.R⟩]) hd0 Dr.std none 0 (bodyOf Tryz.f26) 11 [2] [.cpx .f32 a b] []
  = (bif true && (true && true || true && true) then bif flo.fin.sp a then bif true && (true && true || true && true) then some (AVal.bool (flo.fin.sp b), []) else none else some (AVal.bool false, []) else none) := by kernel_rfl
theorem run : ∀ args v new, R args = some (true, v, new) → ∃ fuel, runFn Tryz.prog (orc [⟨61, iIsFinite.R⟩]) hd0 Dr.std none fuel (bodyOf Tryz.f26) 11 [2] args [] = some (v, new) := by
  intro args v new h
  unfold R at h
  split at h
  · rename_i a b
    simp only [Option.some.injEq, Prod.mk.injEq] at h
    obtain ⟨-, rfl, rfl⟩ := h
    refine ⟨0, ?_⟩
    rw [go]
    cases flo.fin.sp a <;> rfl
  · cases h
theorem ok : EntOk Tryz.prog ⟨26, R⟩ :=
  ent_okA mixed (A := (orc [⟨61, iIsFinite.R⟩])) (orc_ok (by simp only [List.mem_cons, List.not_mem_nil, or_false, forall_eq_or_imp, forall_eq]; exact iIsFinite.ok)) Tryz.func26 (by kernel_rfl) (by kernel_rfl) (n := 11) (ts := [2]) (hd := hd0) (dr := Dr.std) (cut := none) (by kernel_rfl) (by kernel_rfl) (by kernel_rfl) run
end IsFiniteComplex

namespace l01CSame
def R : List AVal → Option (Bool × AVal × List Blk)
  | [.cpx .f32 a b, .cpx .f32 c d] => some (true, .bool ((nw.bits.sv a == nw.bits.sv c) && (nw.bits.sv b == nw.bits.sv d)), [])
  | _ => none
theorem go (a b c d : Nat) :
  runFn Tryz.prog (orc [⟨43, l01Same.R⟩]) hd0 Dr.std none 0 (bodyOf Tryz.f79) 17 [4] [.cpx .f32 a b, .cpx .f32 c d] []
  = (bif true && (true && (true && true) || true && true) then bif nw.bits.sv a == nw.bits.sv c then bif true && (true && (true && true) || true && true) then some (AVal.bool (nw.bits.sv b == nw.bits.sv d), []) else none else some (AVal.bool false, []) else none) := by kernel_rfl
theorem run : ∀ args v new, R args = some (true, v, new) → ∃ fuel, runFn Tryz.prog (orc [⟨43, l01Same.R⟩]) hd0 Dr.std none fuel (bodyOf Tryz.f79) 17 [4] args [] = some (v, new) := by
  intro args v new h
  unfold R at h
  split at h
  · rename_i a b c d
    simp only [Option.some.injEq, Prod.mk.injEq] at h
    obtain ⟨-, rfl, rfl⟩ := h
    refine ⟨0, ?_⟩
    rw [go]
    cases (nw.bits.sv a == nw.bits.sv c) <;> rfl
  · cases h
theorem ok : EntOk Tryz.prog ⟨79, R⟩ :=
  ent_okA mixed (A := (orc [⟨43, l01Same.R⟩])) (orc_ok (by simp only [List.mem_cons, List.not_mem_nil, or_false, forall_eq_or_imp, forall_eq]; exact l01Same.ok)) Tryz.func79 (by kernel_rfl) (by kernel_rfl) (n := 17) (ts := [4]) (hd := hd0) (dr := Dr.std) (cut := none) (by kernel_rfl) (by kernel_rfl) (by kernel_rfl) run
end l01CSame

namespace sSameComplex
def R : List AVal → Option (Bool × AVal × List Blk)
  | [.cpx .f32 a b, .cpx .f32 c d] => some (true, .bool ((nw.bits.sv a == nw.bits.sv c) && (nw.bits.sv b == nw.bits.sv d)), [])
  | _ => none
theorem go (a b c d : Nat) :
  runFn Tryz.prog (orc [⟨79, l01CSame.R⟩]) hd0 Dr.std none 0 (bodyOf Tryz.f59) 8 [4] [.cpx .f32 a b, .cpx .f32 c d] []
  = (bif true && (true && (true && true) || true && true) then some (AVal.bool (nw.bits.sv a == nw.bits.sv c && nw.bits.sv b == nw.bits.sv d), []) else none) := by kernel_rfl
theorem run : ∀ args v new, R args = some (true, v, new) → ∃ fuel, runFn Tryz.prog (orc [⟨79, l01CSame.R⟩]) hd0 Dr.std none fuel (bodyOf Tryz.f59) 8 [4] args [] = some (v, new) := by
  intro args v new h
  unfold R at h
  split at h
  · rename_i a b c d
    simp only [Option.some.injEq, Prod.mk.injEq] at h
    obtain ⟨-, rfl, rfl⟩ := h
    refine ⟨0, ?_⟩
    rw [go]
    rfl
  · cases h
theorem ok : EntOk Tryz.prog ⟨59, R⟩ :=
  ent_okA mixed (A := (orc [⟨79, l01CSame.R⟩])) (orc_ok (by simp only [List.mem_cons, List.not_mem_nil, or_false, forall_eq_or_imp, forall_eq]; exact l01CSame.ok)) Tryz.func59 (by kernel_rfl) (by kernel_rfl) (n := 8) (ts := [4]) (hd := hd0) (dr := Dr.std) (cut := none) (by kernel_rfl) (by kernel_rfl) (by kernel_rfl) run
end sSameComplex


namespace cp
def neg.sp (x : Nat) : Bool := decide (IntKind.i64.wrap ((x : Nat) : Int) < 0)
def sm.sp (a b : Nat) : Bool := (nw.nan.sp a && nw.nan.sp b) || ((a == b) && !(nw.nan.sp a))
theorem wide_nnan {a : Nat} (h : nw.nan.sp a = false) : nnan.sp .f64 (fwid.sv a) = true := by
  cases hd : FloatKind.f32.decode a with
  | number s m e =>
    obtain ⟨⟨s2, m2, e2, h2⟩, _, _⟩ := fl.fwid_val ⟨s, m, e, hd⟩
    unfold nnan.sp
    rw [h2]; rfl
  | infinity s =>
    unfold nnan.sp fwid.sv
    rw [hd]
    cases s <;> decide +kernel
  | nan s q =>
    exfalso
    have hn : nw.nan.sp a = true := by
      unfold nw.nan.sp
      rw [nw.order_none (by rw [hd]; rfl)]
      rfl
    rw [hn] at h
    cases h
/-- The same bits: the same. -/
theorem sm_of {a b : Nat} (ha : a < 4294967296) (hb : b < 4294967296) (h : nw.bits.sv a = nw.bits.sv b) : sm.sp a b = true := by
  have nb : ∀ {x : Nat}, nw.nan.sp x = true → nw.bits.sv x = 2143289344 := fun hn => by unfold nw.bits.sv; rw [hn]; rfl
  have wb : ∀ {x : Nat}, x < 4294967296 → nw.nan.sp x = false → nw.bits.sv x = (x : Int) := fun hx hn => by unfold nw.bits.sv; rw [hn, cond_false, IntWalk.i64_in _ (by omega)]
  have qn : nw.nan.sp 2143289344 = true := by decide +kernel
  unfold sm.sp
  cases h1 : nw.nan.sp a with
  | true =>
    cases h2 : nw.nan.sp b with
    | true => rfl
    | false =>
      exfalso
      rw [nb h1, wb hb h2] at h
      obtain rfl : b = 2143289344 := by omega
      rw [qn] at h2; cases h2
  | false =>
    cases h2 : nw.nan.sp b with
    | true =>
      exfalso
      rw [nb h2, wb ha h1] at h
      obtain rfl : a = 2143289344 := by omega
      rw [qn] at h1; cases h1
    | false =>
      rw [wb ha h1, wb hb h2] at h
      obtain rfl : a = b := by omega
      simp
end cp
namespace Signbit
def R : List AVal → Option (Bool × AVal × List Blk)
  | [.flt .f64 x] => some (nnan.sp .f64 x, .bool (cp.neg.sp x), [])
  | _ => none
theorem go (x : Nat) :
  runFn Tryz.prog (orcN nats (orc [])) hd0 Dr.std none 0 (bodyOf Tryz.f80) 7 [2] [.flt .f64 x] []
  = (bif nnan.sp FloatKind.f64 x then some (AVal.bool (decide (IntKind.i64.wrap (↑x : Int) < (0 : Int))), []) else none) := by kernel_rfl
theorem run : ∀ args v new, R args = some (true, v, new) → ∃ fuel, runFn Tryz.prog (orcN nats (orc [])) hd0 Dr.std none fuel (bodyOf Tryz.f80) 7 [2] args [] = some (v, new) := by
  intro args v new h
  unfold R at h
  split at h
  · rename_i x
    simp only [Option.some.injEq, Prod.mk.injEq] at h
    obtain ⟨h1, rfl, rfl⟩ := h
    refine ⟨0, ?_⟩
    rw [go, h1]
    rfl
  · cases h
theorem ok : EntOk Tryz.prog ⟨80, R⟩ :=
  ent_okA mixed (A := (orcN nats (orc []))) (orcN_ok natsOk (orc_ok (by simp))) Tryz.func80 (by kernel_rfl) (by kernel_rfl) (n := 7) (ts := [2]) (hd := hd0) (dr := Dr.std) (cut := none) (by kernel_rfl) (by kernel_rfl) (by kernel_rfl) run
end Signbit

namespace iSameNumber
def R : List AVal → Option (Bool × AVal × List Blk)
  | [.flt .f32 a, .flt .f32 b] => some (cp.sm.sp a b, .bool true, [])
  | _ => none
theorem go (a b : Nat) :
  runFn Tryz.prog (orc [⟨80, Signbit.R⟩]) hd0 Dr.std none 0 (bodyOf Tryz.f60) 33 [4] [.flt .f32 a, .flt .f32 b] []
  = (bif FloatKind.f32.format.order a a != some Ordering.eq then bif FloatKind.f32.format.order a a != some Ordering.eq then some (AVal.bool (FloatKind.f32.format.order b b != some Ordering.eq), []) else some (AVal.bool false, []) else bif FloatKind.f32.format.order b b != some Ordering.eq then bif FloatKind.f32.format.order a a != some Ordering.eq then some (AVal.bool (FloatKind.f32.format.order b b != some Ordering.eq), []) else some (AVal.bool false, []) else bif FloatKind.f32.format.order a b == some Ordering.eq then bif nnan.sp FloatKind.f64 (fwid.sv a) && (true && true || true && true) then bif nnan.sp FloatKind.f64 (fwid.sv b) && (true && true || true && true) then some (AVal.bool (cp.neg.sp (fwid.sv a) == cp.neg.sp (fwid.sv b)), []) else none else none else some (AVal.bool false, [])) := by kernel_rfl
theorem run : ∀ args v new, R args = some (true, v, new) → ∃ fuel, runFn Tryz.prog (orc [⟨80, Signbit.R⟩]) hd0 Dr.std none fuel (bodyOf Tryz.f60) 33 [4] args [] = some (v, new) := by
  intro args v new h
  unfold R at h
  split at h
  · rename_i a b
    simp only [Option.some.injEq, Prod.mk.injEq] at h
    obtain ⟨h1, rfl, rfl⟩ := h
    refine ⟨0, ?_⟩
    rw [go]
    unfold cp.sm.sp at h1
    rw [Bool.or_eq_true, Bool.and_eq_true, Bool.and_eq_true, beq_iff_eq, Bool.not_eq_true'] at h1
    rcases h1 with ⟨h1, h2⟩ | ⟨rfl, h2⟩
    · unfold nw.nan.sp at h1 h2
      rw [h1, h2]
      rfl
    · have h3 := cp.wide_nnan h2
      unfold nw.nan.sp at h2
      have h4 : (FloatKind.f32.format.order a a == some Ordering.eq) = true := by
        unfold bne at h2
        rw [Bool.not_eq_false'] at h2
        exact h2
      rw [h2, h4, h3, beq_self_eq_true]
      rfl

  · cases h
theorem ok : EntOk Tryz.prog ⟨60, R⟩ :=
  ent_okA mixed (A := (orc [⟨80, Signbit.R⟩])) (orc_ok (by simp only [List.mem_cons, List.not_mem_nil, or_false, forall_eq_or_imp, forall_eq]; exact Signbit.ok)) Tryz.func60 (by kernel_rfl) (by kernel_rfl) (n := 33) (ts := [4]) (hd := hd0) (dr := Dr.std) (cut := none) (by kernel_rfl) (by kernel_rfl) (by kernel_rfl) run
end iSameNumber

namespace iSameComplex
def R : List AVal → Option (Bool × AVal × List Blk)
  | [.cpx .f32 a b, .cpx .f32 c d] => some (cp.sm.sp a c && cp.sm.sp b d, .bool true, [])
  | _ => none
theorem go (a b c d : Nat) :
  runFn Tryz.prog (orc [⟨60, iSameNumber.R⟩]) hd0 Dr.std none 0 (bodyOf Tryz.f24) 17 [4] [.cpx .f32 a b, .cpx .f32 c d] []
  = (bif cp.sm.sp a c && (true && (true && true) || true && true) then bif cp.sm.sp b d && (true && (true && true) || true && true) then some (AVal.bool true, []) else none else none) := by kernel_rfl
theorem run : ∀ args v new, R args = some (true, v, new) → ∃ fuel, runFn Tryz.prog (orc [⟨60, iSameNumber.R⟩]) hd0 Dr.std none fuel (bodyOf Tryz.f24) 17 [4] args [] = some (v, new) := by
  intro args v new h
  unfold R at h
  split at h
  · rename_i a b c d
    simp only [Option.some.injEq, Prod.mk.injEq, Bool.and_eq_true] at h
    obtain ⟨⟨h1, h2⟩, rfl, rfl⟩ := h
    refine ⟨0, ?_⟩
    rw [go]
    simp -implicitDefEqProofs (disch := omega) only [h1, h2, take_one, set_one, decide_eq_true, decide_eq_false, IntWalk.i64_in, beqT, beqF, bneT, bneF, nat_succ, ← Int.natCast_mul, ← Int.natCast_add, Int.toNat_natCast, Int.zero_mul, Int.zero_add, Int.add_zero, Nat.zero_add, Nat.add_zero, Nat.zero_mul, List.length_singleton, List.length_append, List.length_nil, List.length_cons, List.take_length, List.drop_zero, List.replicate_zero, List.take_nil, List.nil_append, Nat.reduceBEq, Nat.reduceMul, Nat.reduceLeDiff, eq_self, and_self, true_and, and_true, decide_true, decide_false, Bool.and_self, Bool.or_self, Bool.and_true, Bool.true_and, Bool.and_false, Bool.false_and, Bool.or_true, Bool.true_or, Bool.or_false, Bool.false_or, Bool.not_true, Bool.not_false, cond_true, cond_false]
  · cases h
theorem ok : EntOk Tryz.prog ⟨24, R⟩ :=
  ent_okA mixed (A := (orc [⟨60, iSameNumber.R⟩])) (orc_ok (by simp only [List.mem_cons, List.not_mem_nil, or_false, forall_eq_or_imp, forall_eq]; exact iSameNumber.ok)) Tryz.func24 (by kernel_rfl) (by kernel_rfl) (n := 17) (ts := [4]) (hd := hd0) (dr := Dr.std) (cut := none) (by kernel_rfl) (by kernel_rfl) (by kernel_rfl) run
end iSameComplex

namespace b10Same
def R : List AVal → Option (Bool × AVal × List Blk)
  | [.ro (.cpxs .f32 xs) m 1, .ro (.cpxs .f32 ys) k 1] => some (decide (m = xs.length ∧ k = ys.length ∧ k ≤ 256 ∧ xs = ys.map cx.canon.sv ∧ ∀ y ∈ ys, y.1 < 4294967296 ∧ y.2 < 4294967296), .bool true, [])
  | _ => none
def hd : Nat → Head := fun _ => ⟨[0, 1, 4, 12, 13], none⟩
noncomputable def L (f n : Nat) (s : State) := loopAt Tryz.prog (orc [⟨59, sSameComplex.R⟩]) hd Dr.std 0 f (bodyOf Tryz.f23) 0 [true, true, false, true] (retK Tryz.prog [4] 0 none) n s
theorem start (xs ys : List (Nat × Nat)) (m k : Nat) (f : Nat) :
  runFn Tryz.prog (orc [⟨59, sSameComplex.R⟩]) hd Dr.std none f (bodyOf Tryz.f23) 27 [4] [.ro (.cpxs .f32 xs) m 1, .ro (.cpxs .f32 ys) k 1] []
  = (bif (↑m : Int) != (↑k : Int) then some (AVal.bool false, []) else L f f (mkS (27 : Nat) [((0 : Nat), AVal.ro (Cont.cpxs FloatKind.f32 xs) m (1 : Nat)), ((1 : Nat), AVal.ro (Cont.cpxs FloatKind.f32 ys) k (1 : Nat)), ((4 : Nat), AVal.bool false), ((12 : Nat), AVal.int IntKind.i64 (↑m : Int)), ((13 : Nat), AVal.int IntKind.i64 (0 : Int))] [])) := by kernel_rfl
theorem round (xs ys : List (Nat × Nat)) (m k : Nat) (i : Int) (f n : Nat) :
  L f (n + 1) (mkS 27 [(0, .ro (.cpxs .f32 xs) m 1), (1, .ro (.cpxs .f32 ys) k 1), (4, .bool false), (12, .int .i64 ((m : Nat) : Int)), (13, .int .i64 i)] [])
  = (bif decide (i < (↑m : Int)) then bif true && (decide ((0 : Int) ≤ i) && decide (i < (↑m : Int))) then bif decide (i.toNat < xs.length) then bif true && (decide ((0 : Int) ≤ i) && decide (i < (↑k : Int))) then bif decide (i.toNat < ys.length) then bif true && (true && (true && true) || true && true) then bif !(nw.bits.sv (gc xs i.toNat).1 == nw.bits.sv (gc ys i.toNat).1 && nw.bits.sv (gc xs i.toNat).2 == nw.bits.sv (gc ys i.toNat).2) then some (AVal.bool false, []) else L f n (mkS (27 : Nat) [((0 : Nat), AVal.ro (Cont.cpxs FloatKind.f32 xs) m (1 : Nat)), ((1 : Nat), AVal.ro (Cont.cpxs FloatKind.f32 ys) k (1 : Nat)), ((4 : Nat), AVal.bool false), ((12 : Nat), AVal.int IntKind.i64 (↑m : Int)), ((13 : Nat), AVal.int IntKind.i64 (IntKind.i64.wrap (i + (1 : Int))))] []) else none else none else none else none else none else some (AVal.bool true, [])) := by kernel_rfl
theorem gc_mem {xs : List (Nat × Nat)} {i : Nat} (h : i < xs.length) : gc xs i ∈ xs := by
  have : gc xs i = xs[i] := by simp [gc, h]
  rw [this]; exact List.getElem_mem h
theorem loop (xs ys : List (Nat × Nat)) (f : Nat) (hl : ys.length ≤ 256) (hx : xs = ys.map cx.canon.sv) (hw : ∀ y ∈ ys, y.1 < 4294967296 ∧ y.2 < 4294967296) : ∀ (d n i : Nat), i + d = ys.length → d < n →
    L f n (mkS 27 [(0, .ro (.cpxs .f32 xs) xs.length 1), (1, .ro (.cpxs .f32 ys) ys.length 1), (4, .bool false), (12, .int .i64 ((xs.length : Nat) : Int)), (13, .int .i64 ((i : Nat) : Int))] []) = some (.bool true, []) := by
  have hlen : xs.length = ys.length := by rw [hx, List.length_map]
  intro d
  induction d with
  | zero =>
    intro n i hi hn
    obtain ⟨n, rfl⟩ : ∃ k, n = k + 1 := ⟨n - 1, by omega⟩
    have c1 : ¬ (((i : Nat) : Int) < ((xs.length : Nat) : Int)) := by omega
    rw [round, decide_eq_false c1, cond_false]
  | succ d ih =>
    intro n i hi hn
    obtain ⟨n, rfl⟩ : ∃ k, n = k + 1 := ⟨n - 1, by omega⟩
    have hlt : i < ys.length := by omega
    have g := ih n (i + 1) (by omega) (by omega)
    have hg : gc xs i = cx.canon.sv (gc ys i) := by rw [hx]; simp [gc, hlt]
    have hm := hw _ (gc_mem hlt)
    have e1 : nw.bits.sv (gc xs i).1 = nw.bits.sv (gc ys i).1 := by rw [hg]; exact nt.canon_bits hm.1
    have e2 : nw.bits.sv (gc xs i).2 = nw.bits.sv (gc ys i).2 := by rw [hg]; exact nt.canon_bits hm.2
    rw [round]
    simp -implicitDefEqProofs (disch := omega) only [e1, e2, beq_self_eq_true, take_one, set_one, decide_eq_true, decide_eq_false, IntWalk.i64_in, beqT, beqF, bneT, bneF, nat_succ, ← Int.natCast_mul, ← Int.natCast_add, Int.toNat_natCast, Int.zero_mul, Int.zero_add, Int.add_zero, Nat.zero_add, Nat.add_zero, Nat.zero_mul, List.length_singleton, List.length_append, List.length_nil, List.length_cons, List.take_length, List.drop_zero, List.replicate_zero, List.take_nil, List.nil_append, Nat.reduceBEq, Nat.reduceMul, Nat.reduceLeDiff, eq_self, and_self, true_and, and_true, decide_true, decide_false, Bool.and_self, Bool.or_self, Bool.and_true, Bool.true_and, Bool.and_false, Bool.false_and, Bool.or_true, Bool.true_or, Bool.or_false, Bool.false_or, Bool.not_true, Bool.not_false, cond_true, cond_false]
    exact g
theorem run : ∀ args v new, R args = some (true, v, new) → ∃ fuel, runFn Tryz.prog (orc [⟨59, sSameComplex.R⟩]) hd Dr.std none fuel (bodyOf Tryz.f23) 27 [4] args [] = some (v, new) := by
  intro args v new h
  unfold R at h
  split at h
  · rename_i xs m ys k
    simp only [Option.some.injEq, Prod.mk.injEq, decide_eq_true_eq] at h
    obtain ⟨⟨rfl, rfl, h1, h2, h3⟩, rfl, rfl⟩ := h
    obtain ⟨F, hF⟩ : ∃ F : Nat, F = 1000 := ⟨1000, rfl⟩
    refine ⟨F, ?_⟩
    have hlen : xs.length = ys.length := by rw [h2, List.length_map]
    have g := loop xs ys F h1 h2 h3 ys.length F 0 (by omega) (by omega)
    rw [start]
    simp -implicitDefEqProofs (disch := omega) only [take_one, set_one, decide_eq_true, decide_eq_false, IntWalk.i64_in, beqT, beqF, bneT, bneF, nat_succ, ← Int.natCast_mul, ← Int.natCast_add, Int.toNat_natCast, Int.zero_mul, Int.zero_add, Int.add_zero, Nat.zero_add, Nat.add_zero, Nat.zero_mul, List.length_singleton, List.length_append, List.length_nil, List.length_cons, List.take_length, List.drop_zero, List.replicate_zero, List.take_nil, List.nil_append, Nat.reduceBEq, Nat.reduceMul, Nat.reduceLeDiff, eq_self, and_self, true_and, and_true, decide_true, decide_false, Bool.and_self, Bool.or_self, Bool.and_true, Bool.true_and, Bool.and_false, Bool.false_and, Bool.or_true, Bool.true_or, Bool.or_false, Bool.false_or, Bool.not_true, Bool.not_false, cond_true, cond_false]
    exact g
  · cases h
theorem ok : EntOk Tryz.prog ⟨23, R⟩ :=
  ent_okA mixed (A := (orc [⟨59, sSameComplex.R⟩])) (orc_ok (by simp only [List.mem_cons, List.not_mem_nil, or_false, forall_eq_or_imp, forall_eq]; exact sSameComplex.ok)) Tryz.func23 (by kernel_rfl) (by kernel_rfl) (n := 27) (ts := [4]) (hd := hd) (dr := Dr.std) (cut := none) (by kernel_rfl) (by kernel_rfl) (by kernel_rfl) run
end b10Same


namespace fl
/-- A word that stands for a whole number. -/
structure W (k : FloatKind) (x : Nat) (n : Int) : Prop where
  f : fin k x
  v : val k x = n * (sc 1 0 : Int)
theorem w_pos : (0 : Int) < (sc 1 0 : Int) := by have := u_pos; omega
theorem w_abs {k : FloatKind} {x : Nat} {n : Int} (h : W k x n) : (val k x).natAbs = sc n.natAbs 0 := by
  rw [h.v, sc_nat n.natAbs, Int.natAbs_mul, Int.natAbs_natCast]
def lim (k : FloatKind) : Nat := 2 * k.format.binade
theorem lim32 : lim .f32 = 16777216 := by decide
theorem lim64 : lim .f64 = 9007199254740992 := by decide
theorem rep0 {k : FloatKind} {n : Nat} (h : n < lim k) : Rep k n 0 := ⟨h, by have := least_ge k; omega, by cases k <;> decide⟩
theorem Rn.whole {k : FloatKind} {w : Nat} {n : Int} (h : Rn k (n * (sc 1 0 : Int)) w) (hn : n.natAbs < lim k) : W k w n := by
  refine ⟨h.fin, h.exact (rep0 hn) ?_⟩
  rw [sc_nat n.natAbs, Int.natCast_mul]
  rcases Int.le_total 0 n with h0 | h0
  · left; rw [Int.natAbs_of_nonneg h0]
  · right; rw [Int.ofNat_natAbs_of_nonpos h0, Int.neg_mul, Int.neg_neg]
theorem W.add {k : FloatKind} {x y : Nat} {a b : Int} (hx : W k x a) (hy : W k y b) (h : (a + b).natAbs < lim k) : W k (fadd k x y) (a + b) := by
  have e : val k x + val k y = (a + b) * (sc 1 0 : Int) := by rw [hx.v, hy.v, Int.add_mul]
  have R := add_rn hx.f hy.f (rep0 h) (by rw [e, Int.natAbs_mul, Int.natAbs_natCast, sc_nat (a + b).natAbs]; exact Nat.le_refl _)
  rw [e] at R
  exact R.whole h
theorem W.sub {k : FloatKind} {x y : Nat} {a b : Int} (hx : W k x a) (hy : W k y b) (h : (a - b).natAbs < lim k) : W k (fsub k x y) (a - b) := by
  have e : val k x - val k y = (a - b) * (sc 1 0 : Int) := by rw [hx.v, hy.v, Int.sub_mul]
  have R := sub_rn hx.f hy.f (rep0 h) (by rw [e, Int.natAbs_mul, Int.natAbs_natCast, sc_nat (a - b).natAbs]; exact Nat.le_refl _)
  rw [e] at R
  exact R.whole h
theorem W.neg {x : Nat} {a : Int} (hx : W .f64 x a) : W .f64 (Op.negFloat .f64 x) (-a) := by
  obtain ⟨h1, h2⟩ := neg_ok hx.f
  exact ⟨h1, by rw [h2, hx.v, Int.neg_mul]⟩
theorem W.int {k : FloatKind} {n : Int} (h : n.natAbs < lim k) : W k (k.nearest n) n := by
  obtain ⟨h1, h2⟩ := ofInt_ok (k := k) h
  exact ⟨h1, h2⟩
theorem W.wide {x : Nat} {a : Int} (hx : W .f32 x a) : W .f64 (fwid.sv x) a := by
  obtain ⟨h1, h2, _⟩ := fwid_val hx.f
  exact ⟨h1, by rw [h2, hx.v]⟩
theorem W.order {k : FloatKind} {x y : Nat} {a b : Int} (hx : W k x a) (hy : W k y b) : (k.format.order x y == some Ordering.eq) = decide (a = b) := by
  rw [order_val hx.f hy.f, cmp_eq, hx.v, hy.v]
  have := w_pos
  by_cases h : a = b
  · rw [h]; simp
  · have : ¬ (a * (sc 1 0 : Int) = b * (sc 1 0 : Int)) := fun e => h (Int.eq_of_mul_eq_mul_right (by omega) e)
    rw [decide_eq_false h, decide_eq_false this]
theorem W.eq {k : FloatKind} {x y : Nat} {a : Int} (hx : W k x a) (hy : W k y a) : (k.format.order x y == some Ordering.eq) = true := by rw [hx.order hy]; exact decide_eq_true rfl
theorem sv_flip (s t : Bool) (m n : Nat) (i j : Int) (c : Int) (h : sv s m i = c * (sv t n j)) : sv (s ^^ t) m i = c * (sc n j : Int) := by
  unfold sv at h ⊢
  cases s <;> cases t <;> simp only [Bool.xor_false, Bool.xor_true, Bool.not_true, Bool.not_false, if_true, if_false, Bool.false_eq_true, Int.mul_neg] at h ⊢ <;> omega
/-- A product of whole numbers. -/
theorem W.mul {k : FloatKind} {x y : Nat} {a b : Int} (gx : W k x a) (gy : W k y b) (h : (a * b).natAbs < lim k) : W k (fmul k x y) (a * b) := by
  have bx := w_abs gx
  have by' := w_abs gy
  have vx := gx.v
  have vy := gy.v
  obtain ⟨s, m, i, hx⟩ := gx.f
  obtain ⟨t, n, j, hy⟩ := gy.f
  have px := place_of hx
  have py := place_of hy
  have hl := least_ge k
  rw [val_bound hx] at bx
  rw [val_bound hy] at by'
  rw [val_eq hx] at vx
  rw [val_eq hy] at vy
  have hx' : k.format.read x = .number s m i := hx
  have hy' : k.format.read y = .number t n j := hy
  have e : fmul k x y = k.encode (.number (s ^^ t) (m * n) (i + j)) := by
    unfold fmul Ieee.Format.mul
    rw [hx', hy']; rfl
  have key : sc (m * n) (i + j) * big = (a * b).natAbs * big * big := by
    rw [← sc_mul _ _ _ _ (by omega) (by omega), bx, by', sc_nat a.natAbs, sc_nat b.natAbs, one_big, Int.natAbs_mul, Nat.mul_mul_mul_comm]
    exact (Nat.mul_assoc _ _ _).symm
  have key2 : sc (m * n) (i + j) = (a * b).natAbs * big := Nat.eq_of_mul_eq_mul_right big_pos key
  have hle : sc (m * n) (i + j) ≤ sc (a * b).natAbs 0 := by rw [key2, sc_nat (a * b).natAbs, one_big]; exact Nat.le_refl _
  have R := write_rn (k := k) (s := s ^^ t) (mag := m * n) (place := i + j) (by omega) (rep0 h) hle
  rw [e]
  have ev : sv (s ^^ t) (m * n) (i + j) = a * b * (sc 1 0 : Int) := by
    have hpos := u_pos
    have hs : ((a < 0 ∧ s = true) ∨ (0 < a ∧ s = false)) ∨ a = 0 := by
      have : (0 : Int) ≤ (sc m i : Int) := Int.natCast_nonneg _
      rcases Int.lt_trichotomy a 0 with h1 | h1 | h1
      · left; left
        have := Int.mul_neg_of_neg_of_pos h1 w_pos
        cases s
        · exfalso; unfold sv at vx; simp at vx; omega
        · exact ⟨h1, rfl⟩
      · right; exact h1
      · left; right
        have := Int.mul_pos h1 w_pos
        cases s
        · exact ⟨h1, rfl⟩
        · exfalso; unfold sv at vx; simp at vx; omega
    have ht : ((b < 0 ∧ t = true) ∨ (0 < b ∧ t = false)) ∨ b = 0 := by
      have : (0 : Int) ≤ (sc n j : Int) := Int.natCast_nonneg _
      rcases Int.lt_trichotomy b 0 with h1 | h1 | h1
      · left; left
        have := Int.mul_neg_of_neg_of_pos h1 w_pos
        cases t
        · exfalso; unfold sv at vy; simp at vy; omega
        · exact ⟨h1, rfl⟩
      · right; exact h1
      · left; right
        have := Int.mul_pos h1 w_pos
        cases t
        · exact ⟨h1, rfl⟩
        · exfalso; unfold sv at vy; simp at vy; omega
    unfold sv
    rw [key2, one_big]
    have zero : a * b = 0 → (if (s ^^ t) = true then -(((a * b).natAbs * big : Nat) : Int) else (((a * b).natAbs * big : Nat) : Int)) = a * b * (big : Int) := by
      intro h0; rw [h0]; simp
    rcases hs with (⟨h1, rfl⟩ | ⟨h1, rfl⟩) | h1
    · rcases ht with (⟨h2, rfl⟩ | ⟨h2, rfl⟩) | h2
      · have := Int.mul_pos_of_neg_of_neg h1 h2
        simp only [Bool.xor_self, Bool.false_eq_true, if_false, Int.natCast_mul]
        rw [Int.natAbs_of_nonneg (by omega)]
      · have := Int.mul_neg_of_neg_of_pos h1 h2
        simp only [Bool.xor_false, if_true, Int.natCast_mul]
        rw [Int.ofNat_natAbs_of_nonpos (by omega), Int.neg_mul, Int.neg_neg]
      · exact zero (by rw [h2, Int.mul_zero])
    · rcases ht with (⟨h2, rfl⟩ | ⟨h2, rfl⟩) | h2
      · have := Int.mul_neg_of_pos_of_neg h1 h2
        simp only [Bool.false_xor, if_true, Int.natCast_mul]
        rw [Int.ofNat_natAbs_of_nonpos (by omega), Int.neg_mul, Int.neg_neg]
      · have := Int.mul_pos h1 h2
        simp only [Bool.xor_self, Bool.false_eq_true, if_false, Int.natCast_mul]
        rw [Int.natAbs_of_nonneg (by omega)]
      · exact zero (by rw [h2, Int.mul_zero])
    · exact zero (by rw [h1, Int.zero_mul])
  rw [ev] at R
  exact R.whole h
/-- A quotient that is a whole number. -/
theorem W.div {k : FloatKind} {x y : Nat} {a b c : Int} (gx : W k x a) (gy : W k y b) (hb : b ≠ 0) (ha : a = c * b) (h : c.natAbs < lim k) : W k (fdiv k x y) c := by
  have bx := w_abs gx
  have by' := w_abs gy
  have vx := gx.v
  have vy := gy.v
  have hr := rep0 h
  obtain ⟨s, m, i, hx⟩ := gx.f
  obtain ⟨t, n, j, hy⟩ := gy.f
  have px := place_of hx
  have py := place_of hy
  have hl := least_ge k
  rw [val_bound hx] at bx
  rw [val_bound hy] at by'
  rw [val_eq hx] at vx
  rw [val_eq hy] at vy
  have hn0 : n ≠ 0 := by
    intro h0; subst h0
    rw [sc_zero, sc_nat b.natAbs] at by'
    have := u_pos
    have : 0 < b.natAbs * sc 1 0 := Nat.mul_pos (by omega) this
    omega
  have hx' : k.format.read x = .number s m i := hx
  have hy' : k.format.read y = .number t n j := hy
  generalize hmore : (k.format.fractionBits + 2) + n.log2 - m.log2 = more
  have hml : more ≤ 54 + 53 := by
    have h1 : n < 2 * k.format.binade := mag_of hy
    have h3 : n.log2 < k.format.fractionBits + 1 := by
      refine (Nat.log2_lt hn0).2 ?_
      rw [Nat.pow_succ, Nat.mul_comm]; exact h1
    have : k.format.fractionBits ≤ 52 := by cases k <;> decide
    omega
  have e : fdiv k x y = k.encode (.number (s ^^ t) (2 * (m <<< more / n) + (m <<< more % n != 0).toNat) (i - j - more - 1)) := by
    unfold fdiv Ieee.Format.div
    rw [hx', hy']
    simp only [Ieee.Datum.quotient, if_neg hn0, hmore]
    rfl
  rw [Nat.shiftLeft_eq] at e
  have hxy : sc m i * big = sc c.natAbs 0 * sc n j := by
    rw [bx, by', sc_nat a.natAbs, sc_nat c.natAbs, sc_nat b.natAbs, one_big, ha, Int.natAbs_mul, Nat.mul_assoc, Nat.mul_mul_mul_comm]
  have heq : sc (2 * (m * 2 ^ more / n) + (m * 2 ^ more % n != 0).toNat) (i - j - more - 1) = sc c.natAbs 0 := by
    by_cases hm0 : m = 0
    · subst hm0
      rw [sc_zero, Nat.zero_mul] at hxy
      have hc : sc c.natAbs 0 = 0 := by
        rcases Nat.mul_eq_zero.1 hxy.symm with h0 | h0
        · exact h0
        · exfalso
          have := Nat.mul_pos (Nat.pos_of_ne_zero hn0) (Nat.two_pow_pos (j + 5000).toNat)
          unfold sc at h0; omega
      simp [hc, sc_zero]
    · have hunit : ∃ E : Nat, (0 : Int) = i - j - more + (E : Int) := by
        refine ⟨(0 - (i - j - more)).toNat, ?_⟩
        have hpos : 0 ≤ 0 - (i - j - more) := by
          apply Int.not_lt.1
          intro hlt
          have hbin : k.format.binade = 2 ^ k.format.fractionBits := rfl
          have hMM := hr.n
          have hk : m * 2 ^ (i + 5000).toNat * big ≤ c.natAbs * 2 ^ ((0 : Int) + 5000).toNat * (n * 2 ^ (j + 5000).toNat) := Nat.le_of_eq hxy
          have lm := log_le hm0
          have ln := log_lt n
          have b1 : 2 ^ (m.log2 + (i + 5000).toNat + 5000) ≤ m * 2 ^ (i + 5000).toNat * big := by
            rw [big_add, Nat.pow_add]
            exact Nat.mul_le_mul_right _ (Nat.mul_le_mul_right _ lm)
          have b2 : c.natAbs * 2 ^ ((0 : Int) + 5000).toNat * (n * 2 ^ (j + 5000).toNat) < 2 ^ (k.format.fractionBits + 1 + ((0 : Int) + 5000).toNat + (n.log2 + 1 + (j + 5000).toNat)) := by
            have c1 : c.natAbs * 2 ^ ((0 : Int) + 5000).toNat < 2 ^ (k.format.fractionBits + 1 + ((0 : Int) + 5000).toNat) := by
              rw [Nat.pow_add]
              refine Nat.mul_lt_mul_of_pos_right ?_ (Nat.two_pow_pos _)
              rw [Nat.pow_succ, Nat.mul_comm]; exact hMM
            have c2 : n * 2 ^ (j + 5000).toNat < 2 ^ (n.log2 + 1 + (j + 5000).toNat) := by
              rw [Nat.pow_add]
              exact Nat.mul_lt_mul_of_pos_right ln (Nat.two_pow_pos _)
            rw [Nat.pow_add 2 (k.format.fractionBits + 1 + ((0 : Int) + 5000).toNat)]
            exact Nat.mul_lt_mul'' c1 c2
          have b3 := (Nat.pow_lt_pow_iff_right (a := 2) (by decide)).1 (Nat.lt_of_le_of_lt b1 (Nat.lt_of_le_of_lt hk b2))
          omega
        omega
      obtain ⟨E, hE⟩ := hunit
      have hN : m * 2 ^ more = c.natAbs * 2 ^ E * n := by
        have hk := hxy
        have e1 : sc m i = sc (m * 2 ^ more) (i - more) := by rw [← sc_add _ _ _ (by omega), show i - more + (more : Int) = i from by omega]
        have e2 : sc c.natAbs 0 = sc (c.natAbs * 2 ^ E) (i - j - more) := by
          have := sc_add c.natAbs (i - j - more) E (by omega)
          rw [← hE] at this
          exact this
        rw [e1, e2] at hk
        have e3 : sc (c.natAbs * 2 ^ E) (i - j - more) * sc n j = sc (c.natAbs * 2 ^ E * n) (i - more) * big := by
          unfold sc
          have : (i - j - more + 5000).toNat + (j + 5000).toNat = (i - more + 5000).toNat + 5000 := by omega
          rw [Nat.mul_mul_mul_comm, ← Nat.pow_add, this, big_add, ← Nat.mul_assoc]
        rw [e3] at hk
        have h5 := Nat.eq_of_mul_eq_mul_right big_pos hk
        exact Nat.le_antisymm (sc_le.1 (Nat.le_of_eq h5)) (sc_le.1 (Nat.le_of_eq h5.symm))
      have e2 : sc c.natAbs 0 = sc (c.natAbs * 2 ^ E * 2 ^ 1) (i - j - more - 1) := by
        rw [← sc_add _ _ _ (by omega), ← sc_add _ _ _ (by omega)]
        congr 1; omega
      rw [e2, hN, Nat.mul_mod_left, Nat.mul_div_cancel _ (Nat.pos_of_ne_zero hn0)]
      congr 1
      simp; omega
  have R := write_rn (k := k) (s := s ^^ t) (by omega) hr (Nat.le_of_eq heq)
  rw [e]
  have ev : sv (s ^^ t) (2 * (m * 2 ^ more / n) + (m * 2 ^ more % n != 0).toNat) (i - j - more - 1) = c * (sc 1 0 : Int) := by
    have e5 : sv s m i = c * sv t n j := by rw [vx, vy, ha, Int.mul_assoc]
    have e6 := sv_flip s t m n i j c e5
    have hnj : 0 < sc n j := Nat.mul_pos (Nat.pos_of_ne_zero hn0) (Nat.two_pow_pos _)
    have hmi : (0 : Int) ≤ (sc m i : Int) := Int.natCast_nonneg _
    unfold sv at e6 ⊢
    rw [heq, sc_nat c.natAbs, Int.natCast_mul]
    rcases Int.lt_trichotomy c 0 with h1 | h1 | h1
    · have := Int.mul_neg_of_neg_of_pos h1 (show (0 : Int) < (sc n j : Int) by omega)
      cases hst : (s ^^ t)
      · exfalso; rw [hst] at e6; simp at e6; omega
      · simp only [if_true]
        rw [Int.ofNat_natAbs_of_nonpos (by omega), Int.neg_mul, Int.neg_neg]
    · subst h1; simp
    · have := Int.mul_pos h1 (show (0 : Int) < (sc n j : Int) by omega)
      cases hst : (s ^^ t)
      · simp only [Bool.false_eq_true, if_false]
        rw [Int.natAbs_of_nonneg (by omega)]
      · exfalso; rw [hst] at e6; simp at e6; omega
  rw [ev] at R
  exact R.whole h
/-- Narrowed. -/
theorem W.nar {x : Nat} {a : Int} (hx : W .f64 x a) (h : a.natAbs < 16777216) : nar.ok.sp x = true ∧ W .f32 (nar.sv x) a := by
  have hr : Rep .f32 a.natAbs 0 := rep0 (by rw [lim32]; exact h)
  have hb := Nat.le_of_eq (w_abs hx)
  refine ⟨(nar_rn hx.f hr hb).1, ?_⟩
  have hv := hx.v
  obtain ⟨s, m, e, hd⟩ := hx.f
  have pe := place_of hd
  have hl := least_ge .f64
  rw [val_bound hd] at hb
  have R := write_rn (k := .f32) (s := s) (by omega) hr hb
  have hn : nar.sv x = FloatKind.f32.encode (.number s m e) := by unfold nar.sv; rw [hd]
  rw [hn]
  rw [← val_eq hd, hv] at R
  exact R.whole (by rw [lim32]; exact h)
end fl


namespace fl
/-- A word that stands for a whole number within a bound. -/
structure WB (k : FloatKind) (x : Nat) (n : Int) (N : Nat) : Prop where
  w : W k x n
  b : n.natAbs ≤ N
theorem WB.mul {k : FloatKind} {x y : Nat} {a b : Int} {M N : Nat} (hx : WB k x a M) (hy : WB k y b N) (h : M * N < lim k) : WB k (fmul k x y) (a * b) (M * N) := by
  have hb : (a * b).natAbs ≤ M * N := by rw [Int.natAbs_mul]; exact Nat.mul_le_mul hx.b hy.b
  exact ⟨hx.w.mul hy.w (by omega), hb⟩
theorem WB.add {k : FloatKind} {x y : Nat} {a b : Int} {M N : Nat} (hx : WB k x a M) (hy : WB k y b N) (h : M + N < lim k) : WB k (fadd k x y) (a + b) (M + N) := by
  have hb : (a + b).natAbs ≤ M + N := by have := hx.b; have := hy.b; omega
  exact ⟨hx.w.add hy.w (by omega), hb⟩
theorem WB.sub {k : FloatKind} {x y : Nat} {a b : Int} {M N : Nat} (hx : WB k x a M) (hy : WB k y b N) (h : M + N < lim k) : WB k (fsub k x y) (a - b) (M + N) := by
  have hb : (a - b).natAbs ≤ M + N := by have := hx.b; have := hy.b; omega
  exact ⟨hx.w.sub hy.w (by omega), hb⟩
theorem WB.wide {x : Nat} {a : Int} {M : Nat} (hx : WB .f32 x a M) : WB .f64 (fwid.sv x) a M := ⟨hx.w.wide, hx.b⟩
theorem WB.neg {x : Nat} {a : Int} {M : Nat} (hx : WB .f64 x a M) : WB .f64 (Op.negFloat .f64 x) (-a) M := ⟨hx.w.neg, by have := hx.b; omega⟩
theorem WB.nar {x : Nat} {a : Int} {M : Nat} (hx : WB .f64 x a M) (h : M < 16777216) : nar.ok.sp x = true ∧ WB .f32 (nar.sv x) a M := by
  have hb := hx.b
  obtain ⟨h1, h2⟩ := hx.w.nar (by omega)
  exact ⟨h1, h2, hb⟩
theorem WB.int {k : FloatKind} {n : Int} {M : Nat} (h : n.natAbs ≤ M) (hl : M < lim k) : WB k (k.nearest n) n M := ⟨W.int (by omega), h⟩
theorem WB.to {k : FloatKind} {x : Nat} {a b : Int} {M : Nat} (hx : WB k x a M) (h : a = b) : WB k x b M := h ▸ hx
theorem WB.eq {k : FloatKind} {x y : Nat} {a b : Int} {M N : Nat} (hx : WB k x a M) (hy : WB k y b N) (h : a = b) : (k.format.order x y == some Ordering.eq) = true := by
  rw [hx.w.order hy.w]; exact decide_eq_true h
theorem W.zero (k : FloatKind) : W k 0 0 := ⟨(zero_ok k).1, by rw [(zero_ok k).2, Int.zero_mul]⟩
theorem W.addok {k : FloatKind} {x y : Nat} {a b : Int} (gx : W k x a) (gy : W k y b) : (k.format.add x y).isSome = true := by
  obtain ⟨s, m, i, hx⟩ := gx.f
  obtain ⟨t, n, j, hy⟩ := gy.f
  have px := place_of hx
  have py := place_of hy
  have hl := least_ge k
  obtain ⟨σ, μ, β, h1, h2, h3⟩ := sum_sv (s := s) (t := t) (m := m) (n := n) (i := i) (j := j) (by omega) (by omega)
  have hx' : k.format.read x = .number s m i := hx
  have hy' : k.format.read y = .number t n j := hy
  unfold Ieee.Format.add
  rw [hx', hy', h1]
  rfl
theorem neg32 {x : Nat} (hx : fin .f32 x) : fin .f32 (Op.negFloat .f32 x) ∧ val .f32 (Op.negFloat .f32 x) = -(val .f32 x) := by
  obtain ⟨s, m, e, hd⟩ := hx
  have e0 : FloatKind.f32.format.exponentBits + FloatKind.f32.format.fractionBits = 31 := by decide
  have eS : FloatKind.f32.format.signWeight = 2 ^ 31 := by decide
  have h1 : Op.negFloat .f32 x % 2 ^ 31 = x % 2 ^ 31 := by
    unfold Op.negFloat
    rw [e0, Nat.xor_mod_two_pow, Nat.mod_self, Nat.xor_zero]
  have h2 : Op.negFloat .f32 x / 2 ^ 31 % 2 = 1 - x / 2 ^ 31 % 2 := by
    unfold Op.negFloat
    rw [e0, ← Nat.shiftRight_eq_div_pow, Nat.shiftRight_xor_distrib, Nat.shiftRight_eq_div_pow, Nat.shiftRight_eq_div_pow, Nat.div_self (Nat.two_pow_pos 31)]
    have : (x / 2 ^ 31 ^^^ 1) % 2 = (x / 2 ^ 31 % 2) ^^^ (1 % 2) := Nat.xor_mod_two_pow (n := 1)
    rw [this]
    rcases Nat.mod_two_eq_zero_or_one (x / 2 ^ 31) with h | h <;> rw [h] <;> rfl
  have hd' : FloatKind.f32.decode (Op.negFloat .f32 x) = .number (!s) m e := by
    unfold FloatKind.decode Ieee.Format.read at hd ⊢
    simp only [eS] at hd ⊢
    rw [h1, h2]
    have hb : ((1 - x / 2 ^ 31 % 2) == 1) = !(x / 2 ^ 31 % 2 == 1) := by
      rcases Nat.mod_two_eq_zero_or_one (x / 2 ^ 31) with h | h <;> rw [h] <;> rfl
    rw [hb]
    split at hd
    · rename_i hc; rw [if_pos hc]; simp only [Ieee.Datum.number.injEq] at hd ⊢; obtain ⟨rfl, rfl, rfl⟩ := hd; exact ⟨rfl, rfl, rfl⟩
    · rename_i hc
      rw [if_neg hc]
      split at hd
      · rename_i hc2; rw [if_pos hc2]; simp only [Ieee.Datum.number.injEq] at hd ⊢; obtain ⟨rfl, rfl, rfl⟩ := hd; exact ⟨rfl, rfl, rfl⟩
      · split at hd <;> cases hd
  refine ⟨⟨_, _, _, hd'⟩, ?_⟩
  rw [val_eq hd', val_eq hd]
  unfold sv; cases s <;> simp
theorem WB.neg32 {x : Nat} {a : Int} {M : Nat} (hx : WB .f32 x a M) : WB .f32 (Op.negFloat .f32 x) (-a) M := by
  obtain ⟨h1, h2⟩ := fl.neg32 hx.w.f
  exact ⟨⟨h1, by rw [h2, hx.w.v, Int.neg_mul]⟩, by have := hx.b; omega⟩
theorem negneg (x : Nat) : Op.negFloat .f32 (Op.negFloat .f32 x) = x := by
  unfold Op.negFloat
  rw [Nat.xor_assoc, Nat.xor_self, Nat.xor_zero]
/-- Cut to a whole number. -/
theorem W.fti {k : FloatKind} {x : Nat} {n : Int} (hx : W k x n) (h : n.natAbs ≤ 1000000) : fti.sv k x = n ∧ fti.ok.sp .i64 k x = true := by
  obtain ⟨h1, h2, h3⟩ := fti_val hx.f
  have hp := w_pos
  have hv := hx.v
  have key : fti.sv k x = n := by
    generalize fti.sv k x = t at h1 h2 h3 ⊢
    rw [hv] at h2 h3
    generalize (sc 1 0 : Int) = S at hp h2 h3
    rcases Int.le_total 0 n with c | c
    · obtain ⟨a1, a2, a3⟩ := h2 (Int.mul_nonneg c (by omega))
      have b1 := Int.le_of_mul_le_mul_right a2 hp
      have b2 := Int.lt_of_mul_lt_mul_right a3 (by omega)
      omega
    · obtain ⟨a1, a2, a3⟩ := h3 (Int.mul_nonpos_of_nonpos_of_nonneg c (by omega))
      have b1 := Int.le_of_mul_le_mul_right a2 hp
      have b2 := Int.lt_of_mul_lt_mul_right a3 (by omega)
      omega
  refine ⟨key, ?_⟩
  unfold fti.ok.sp
  rw [h1, key]
  have e1 : IntKind.i64.min = -9223372036854775808 := by decide
  have e2 : IntKind.i64.max = 9223372036854775807 := by decide
  simp only [e1, e2, decide_eq_true_eq]
  omega

/-! Words of doubles: the same value, the same word. -/
theorem rung64 {x : Nat} {s : Bool} {m : Nat} {e : Int} (hlt : x < 18446744073709551616) (h : FloatKind.f64.decode x = .number s m e) :
    ∃ d : Nat, e = -1074 + d ∧ (d = 0 ∨ 4503599627370496 ≤ m) ∧ m < 9007199254740992 ∧ x = (if s then 9223372036854775808 else 0) + (d * 4503599627370496 + m) := by
  have e1 : FloatKind.f64.format.signWeight = 9223372036854775808 := by decide
  have e2 : FloatKind.f64.format.binade = 4503599627370496 := by decide
  have e3 : FloatKind.f64.format.infRung = 9218868437227405312 := by decide
  have e4 : FloatKind.f64.format.leastPlace = -1074 := by decide
  have hx : x = x / 9223372036854775808 * 9223372036854775808 + x % 9223372036854775808 := by omega
  have hq : x / 9223372036854775808 = 0 ∨ x / 9223372036854775808 = 1 := by omega
  have sg : ∀ t : Bool, (x / 9223372036854775808 % 2 == 1) = t → x / 9223372036854775808 * 9223372036854775808 = (if t then 9223372036854775808 else 0) := by
    intro t ht
    rcases hq with h | h
    · rw [h] at ht ⊢; rw [← ht]; decide
    · rw [h] at ht ⊢; rw [← ht]; decide
  unfold FloatKind.decode Ieee.Format.read at h
  simp only [e1, e2, e3, e4] at h
  split at h
  · rename_i hc
    simp only [Ieee.Datum.number.injEq] at h
    obtain ⟨h1, h2, h3⟩ := h
    have := sg s h1
    exact ⟨0, by omega, .inl rfl, by omega, by omega⟩
  · rename_i hc
    split at h
    · rename_i hc2
      simp only [Ieee.Datum.number.injEq] at h
      obtain ⟨h1, h2, h3⟩ := h
      have := sg s h1
      have hd := Nat.div_add_mod (x % 9223372036854775808) 4503599627370496
      have hq2 : 1 ≤ x % 9223372036854775808 / 4503599627370496 := (Nat.le_div_iff_mul_le (by decide)).2 (by omega)
      exact ⟨x % 9223372036854775808 / 4503599627370496 - 1, by omega, .inr (by omega), by omega, by omega⟩
    · split at h <;> cases h
theorem same64 {x y : Nat} (hx : x < 18446744073709551616) (hy : y < 18446744073709551616) {a : Int} (gx : W .f64 x a) (gy : W .f64 y a) (h0 : a ≠ 0) : x = y := by
  have vx := gx.v
  have vy := gy.v
  obtain ⟨s, m, e, h1⟩ := gx.f
  obtain ⟨t, n, f, h2⟩ := gy.f
  obtain ⟨d, a1, a2, a3, a4⟩ := rung64 hx h1
  obtain ⟨g, b1, b2, b3, b4⟩ := rung64 hy h2
  have hv : val .f64 x = val .f64 y := by rw [vx, vy]
  have hm : m ≠ 0 := by
    intro hm; subst hm
    rw [val_eq h1] at vx
    have : a * (sc 1 0 : Int) = 0 := by rw [← vx]; unfold sv; rw [sc_zero]; cases s <;> rfl
    rcases Int.mul_eq_zero.1 this with h | h
    · exact h0 h
    · have := w_pos; omega
  rw [val_eq h1, val_eq h2] at hv
  have p1 : 0 < sc m e := Nat.mul_pos (Nat.pos_of_ne_zero hm) (Nat.two_pow_pos _)
  have hst : s = t ∧ sc m e = sc n f := by
    unfold sv at hv
    cases s <;> cases t <;> simp at hv <;> first | exact ⟨rfl, by omega⟩ | (exfalso; omega)
  obtain ⟨rfl, hsc⟩ := hst
  have key : d = g ∧ m = n := by
    rcases Nat.lt_trichotomy d g with hlt | heq | hgt
    · exfalso
      obtain ⟨k, hk⟩ : ∃ k : Nat, g = d + (k + 1) := ⟨g - d - 1, by omega⟩
      have := sc_add n e (k + 1) (by omega)
      rw [show e + ((k + 1 : Nat) : Int) = f by omega, ← hsc] at this
      have hmn : m = n * 2 ^ (k + 1) := Nat.le_antisymm ((sc_le (e := e)).1 (by omega)) ((sc_le (e := e)).1 (by omega))
      have : 2 ≤ 2 ^ (k + 1) := by rw [Nat.pow_succ]; have := Nat.two_pow_pos k; omega
      have := Nat.mul_le_mul_left n this
      omega
    · subst heq
      have hef : e = f := by omega
      subst hef
      exact ⟨rfl, Nat.le_antisymm ((sc_le (e := e)).1 (by omega)) ((sc_le (e := e)).1 (by omega))⟩
    · exfalso
      obtain ⟨k, hk⟩ : ∃ k : Nat, d = g + (k + 1) := ⟨d - g - 1, by omega⟩
      have := sc_add m f (k + 1) (by omega)
      rw [show f + ((k + 1 : Nat) : Int) = e by omega, hsc] at this
      have hmn : n = m * 2 ^ (k + 1) := Nat.le_antisymm ((sc_le (e := f)).1 (by omega)) ((sc_le (e := f)).1 (by omega))
      have : 2 ≤ 2 ^ (k + 1) := by rw [Nat.pow_succ]; have := Nat.two_pow_pos k; omega
      have := Nat.mul_le_mul_left m this
      omega
  rw [a4, b4, key.1, key.2]
theorem fadd64_lt (a b : Nat) : fadd .f64 a b < 18446744073709551616 := by
  unfold fadd
  cases h : FloatKind.f64.format.add a b with
  | none => decide
  | some r => exact Ieee.Format.add_lt FloatKind.f64.format h
theorem fwid_lt (x : Nat) : fwid.sv x < 18446744073709551616 := by
  have hh : ∀ d, FloatKind.f64.encode d < 18446744073709551616 := fun d => Ieee.Format.write_lt FloatKind.f64.format d
  unfold fwid.sv
  split
  · decide
  · exact hh _
theorem nar_lt (x : Nat) : nar.sv x < 4294967296 := by
  have hh : ∀ d, FloatKind.f32.encode d < 4294967296 := fun d => Ieee.Format.write_lt FloatKind.f32.format d
  unfold nar.sv
  split
  · decide
  · exact hh _
/-- The root of a number up to two to the eighteenth. -/
theorem sqrt_big {r : Nat} (hr : fin .f64 r) (h1 : (sc 1 0 : Int) ≤ val .f64 r) (h2 : val .f64 r ≤ (sc 1 18 : Int)) : sqr.ok.sp r = true ∧ nar.ok.sp (sqr.sv r) = true := by
  have hup := u_pos
  have n64 := fin_num hr
  obtain ⟨s, m, i, hd⟩ := hr
  have pl := place_of hd
  have hl := least_ge .f64
  have hmag := mag_of hd
  have hb : 2 * FloatKind.f64.format.binade = 9007199254740992 := by decide
  rw [hb] at hmag
  have ev := val_eq hd
  have hs : s = false := by
    cases s
    · rfl
    · exfalso; rw [ev] at h1; unfold sv at h1; simp at h1; omega
  subst hs
  have ev2 : val .f64 r = (sc m i : Int) := by rw [ev]; unfold sv; simp
  rw [ev2] at h1 h2
  have m0 : m ≠ 0 := by
    intro h; subst h; rw [sc_zero] at h1; omega
  have hi : i ≤ 18 := by
    refine Int.not_lt.1 fun hc => ?_
    have e1 : sc m i ≤ sc 1 18 := by omega
    have e2 : sc 1 19 ≤ sc m i := Nat.le_trans (sc_mono (a := 19) (b := i) (by omega) (by omega)) (sc_le.2 (by omega))
    have e3 : sc 1 19 = 2 * sc 1 18 := sc_double 18 (by omega)
    have e4 : 0 < sc 1 18 := Nat.mul_pos (by omega) (Nat.two_pow_pos _)
    omega
  obtain ⟨more, hmore⟩ : ∃ q : Nat, (2 * (FloatKind.f64.format.fractionBits + 2) - m.log2) + ((i - ((2 * (FloatKind.f64.format.fractionBits + 2) - m.log2 : Nat) : Int)) % 2).toNat = q := ⟨_, rfl⟩
  have hfb : FloatKind.f64.format.fractionBits = 52 := by decide
  have hlog : m.log2 ≤ 52 := by
    have := (Nat.log2_lt m0).2 (show m < 2 ^ 53 by omega)
    omega
  have hm1 : 56 ≤ more ∧ more ≤ 109 := by rw [hfb] at hmore; omega
  obtain ⟨hh, hhh⟩ : ∃ q : Int, (i - (more : Int)) / 2 = q := ⟨_, rfl⟩
  have par : i - (more : Int) = 2 * hh := by rw [hfb] at hmore; omega
  obtain ⟨wh, hwh⟩ : ∃ q, Ieee.Datum.rootFrom (m <<< more) ((m <<< more).log2 / 2 + 1) 0 = q := ⟨_, rfl⟩
  have hw2 : wh * wh ≤ m <<< more := by rw [← hwh]; exact root_sq _ _ _ (by simp)
  have hsq : FloatKind.f64.format.sqrt r = some (FloatKind.f64.encode (.number false (2 * wh + (wh * wh != m <<< more).toNat) (hh - 1))) := by
    have hr' : FloatKind.f64.format.read r = .number false m i := hd
    unfold Ieee.Format.sqrt
    rw [hr']
    simp only [Ieee.Datum.root, if_neg m0, Bool.false_eq_true, if_false, hmore, hhh, hwh]
    rfl
  have e1 : sqr.sv r = FloatKind.f64.encode (.number false (2 * wh + (wh * wh != m <<< more).toNat) (hh - 1)) := by unfold sqr.sv; rw [hsq]; rfl
  have eok : sqr.ok.sp r = true := by unfold sqr.ok.sp; rw [n64, hsq]; rfl
  obtain ⟨P, hP⟩ : ∃ P : Nat, (P : Int) = 1 - hh := ⟨(1 - hh).toNat, by omega⟩
  have hlt : wh < 2 ^ (P + 10) := by
    refine Nat.not_le.1 fun hc => ?_
    have h3 : 2 ^ (P + 10) * 2 ^ (P + 10) ≤ m <<< more := Nat.le_trans (Nat.mul_le_mul hc hc) hw2
    rw [Nat.shiftLeft_eq, ← Nat.pow_add] at h3
    obtain ⟨d, hd2⟩ : ∃ d : Nat, (d : Int) = 22 - i := ⟨(22 - i).toNat, by omega⟩
    have h4 : P + 10 + (P + 10) = d + more := by omega
    rw [h4, Nat.pow_add] at h3
    have h5 : 2 ^ d ≤ m := Nat.le_of_mul_le_mul_right h3 (Nat.two_pow_pos more)
    have h6 : sc (2 ^ d) i ≤ sc m i := sc_le.2 h5
    have h7 : sc 1 22 = sc (2 ^ d) i := by
      have := sc_add 1 i d (by omega)
      rw [show i + (d : Int) = 22 by omega, Nat.one_mul] at this
      exact this
    have h9 : sc 1 18 < sc 1 22 := by
      have e3 : sc 1 19 = 2 * sc 1 18 := sc_double 18 (by omega)
      have e4 : 0 < sc 1 18 := Nat.mul_pos (by omega) (Nat.two_pow_pos _)
      have e5 := sc_mono (a := 19) (b := 22) (by omega) (by omega)
      omega
    omega
  have hplace : -4900 ≤ hh - 1 := by omega
  have hle : sc (2 * wh + (wh * wh != m <<< more).toNat) (hh - 1) ≤ sc 4096 0 := by
    have h3 : sc 4096 0 = sc (4096 * 2 ^ P) (hh - 1) := by
      have := sc_add 4096 (hh - 1) P (by omega)
      rw [show hh - 1 + (P : Int) = 0 by omega] at this
      exact this
    rw [h3, sc_le]
    have h4 : (wh * wh != m <<< more).toNat ≤ 1 := by cases (wh * wh != m <<< more) <;> decide
    rw [Nat.pow_add] at hlt
    have := Nat.two_pow_pos P
    omega
  have R := write_rn (k := .f64) (s := false) hplace (rp 4096 (by omega)) hle
  refine ⟨eok, ?_⟩
  rw [e1]
  refine (nar_rn (M := 4096) (q := 0) R.fin (rep0 (by rw [lim32]; omega)) ?_).1
  have a1 := sv_abs false (2 * wh + (wh * wh != m <<< more).toNat) (hh - 1)
  have a2 := R.le (rp 4096 (by omega)) (by omega)
  have a3 := R.nge (rp 4096 (by omega)) (by omega)
  omega
end fl

namespace cp
open fl
section
variable {A1 A2 B1 B2 : Nat} {a1 a2 b1 b2 : Int}
theorem l24 : (16777216 : Nat) = lim .f32 := lim32.symm
theorem mre_w (h1 : WB .f32 A1 a1 200) (h2 : WB .f32 A2 a2 200) (h3 : WB .f32 B1 b1 200) (h4 : WB .f32 B2 b2 200) : WB .f64 (mre.sv A1 A2 B1 B2) (a1 * b1 - a2 * b2) 80000 :=
  (h1.wide.mul h3.wide (by rw [lim64]; omega)).sub (h2.wide.mul h4.wide (by rw [lim64]; omega)) (by rw [lim64]; omega)
theorem mim_w (h1 : WB .f32 A1 a1 200) (h2 : WB .f32 A2 a2 200) (h3 : WB .f32 B1 b1 200) (h4 : WB .f32 B2 b2 200) : WB .f64 (mim.sv A1 A2 B1 B2) (a1 * b2 + a2 * b1) 80000 :=
  (h1.wide.mul h4.wide (by rw [lim64]; omega)).add (h2.wide.mul h3.wide (by rw [lim64]; omega)) (by rw [lim64]; omega)
theorem pw_w (h1 : WB .f32 A1 a1 200) (h2 : WB .f32 A2 a2 200) : WB .f64 (pw.sv A1 A2) (a1 * a1 + a2 * a2) 80000 :=
  (h1.wide.mul h1.wide (by rw [lim64]; omega)).add (h2.wide.mul h2.wide (by rw [lim64]; omega)) (by rw [lim64]; omega)
theorem qre_w {P1 P2 : Nat} {p1 p2 c : Int} (h1 : WB .f32 P1 p1 80000) (h2 : WB .f32 P2 p2 80000) (h3 : WB .f32 B1 b1 200) (h4 : WB .f32 B2 b2 200) (h0 : b1 * b1 + b2 * b2 ≠ 0) (hc : p1 * b1 - p2 * -b2 = c * (b1 * b1 + b2 * b2)) (hb : c.natAbs ≤ 200) : WB .f64 (qre.sv P1 P2 B1 B2) c 200 := by
  have n1 : WB .f64 (re.sv (fwid.sv P1) (fwid.sv P2) (fwid.sv B1) (Op.negFloat .f64 (fwid.sv B2))) (p1 * b1 - p2 * -b2) 32000000 :=
    (h1.wide.mul h3.wide (by rw [lim64]; omega)).sub (h2.wide.mul h4.wide.neg (by rw [lim64]; omega)) (by rw [lim64]; omega)
  exact ⟨W.div n1.w (pw_w h3 h4).w h0 hc (by rw [lim64]; omega), hb⟩
theorem qim_w {P1 P2 : Nat} {p1 p2 c : Int} (h1 : WB .f32 P1 p1 80000) (h2 : WB .f32 P2 p2 80000) (h3 : WB .f32 B1 b1 200) (h4 : WB .f32 B2 b2 200) (h0 : b1 * b1 + b2 * b2 ≠ 0) (hc : p1 * -b2 + p2 * b1 = c * (b1 * b1 + b2 * b2)) (hb : c.natAbs ≤ 200) : WB .f64 (qim.sv P1 P2 B1 B2) c 200 := by
  have n1 : WB .f64 (im.sv (fwid.sv P1) (fwid.sv P2) (fwid.sv B1) (Op.negFloat .f64 (fwid.sv B2))) (p1 * -b2 + p2 * b1) 32000000 :=
    (h1.wide.mul h4.wide.neg (by rw [lim64]; omega)).add (h2.wide.mul h3.wide (by rw [lim64]; omega)) (by rw [lim64]; omega)
  exact ⟨W.div n1.w (pw_w h3 h4).w h0 hc (by rw [lim64]; omega), hb⟩
theorem sqn (a : Int) : 0 ≤ a * a := by
  rcases Int.le_total 0 a with h | h
  · exact Int.mul_nonneg h h
  · exact Int.mul_nonneg_of_nonpos_of_nonpos h h
theorem sq_pos (h : ¬ (b1 = 0 ∧ b2 = 0)) : 0 < b1 * b1 + b2 * b2 := by
  have n1 := sqn b1
  have n2 := sqn b2
  by_cases c : b1 = 0
  · have c2 : b2 ≠ 0 := fun e => h ⟨c, e⟩
    have : b2 * b2 ≠ 0 := fun e => by rcases Int.mul_eq_zero.1 e with h | h <;> exact c2 h
    omega
  · have : b1 * b1 ≠ 0 := fun e => by rcases Int.mul_eq_zero.1 e with h | h <;> exact c h
    omega
theorem ab_re (a1 a2 b1 b2 : Int) : (a1 * b1 - a2 * b2) * b1 - (a1 * b2 + a2 * b1) * -b2 = a1 * (b1 * b1 + b2 * b2) := by grind
theorem ab_im (a1 a2 b1 b2 : Int) : (a1 * b1 - a2 * b2) * -b2 + (a1 * b2 + a2 * b1) * b1 = a2 * (b1 * b1 + b2 * b2) := by grind
/-- The length of a number, by its power as a single. -/
theorem root_w (h1 : WB .f32 A1 a1 200) (h2 : WB .f32 A2 a2 200) (e1 : A1 = FloatKind.f32.nearest a1) (e2 : A2 = FloatKind.f32.nearest a2) :
    pw.sv A1 A2 = fwid.sv (FloatKind.f32.nearest (a1 * a1 + a2 * a2)) ∧ sqr.ok.sp (pw.sv A1 A2) = true ∧ nar.ok.sp (sqr.sv (pw.sv A1 A2)) = true := by
  have hw := pw_w h1 h2
  by_cases c : a1 = 0 ∧ a2 = 0
  · obtain ⟨rfl, rfl⟩ := c
    subst e1 e2
    refine ⟨?_, ?_, ?_⟩ <;> decide +kernel
  · have hp := sq_pos c
    have hb := hw.b
    have hn : W .f32 (FloatKind.f32.nearest (a1 * a1 + a2 * a2)) (a1 * a1 + a2 * a2) := W.int (by rw [lim32]; omega)
    have hs := w_pos
    refine ⟨same64 (fadd64_lt _ _) (fwid_lt _) hw.w hn.wide (by omega), sqrt_big hw.w.f ?_ ?_⟩
    · rw [hw.w.v]
      have := Int.mul_le_mul_of_nonneg_right (show (1 : Int) ≤ a1 * a1 + a2 * a2 by omega) (show (0 : Int) ≤ (sc 1 0 : Int) by omega)
      omega
    · rw [hw.w.v]
      have e18 : sc 1 18 = 262144 * sc 1 0 := by
        have := sc_add 1 0 18 (by omega)
        rw [show (0 : Int) + ((18 : Nat) : Int) = 18 from rfl] at this
        rw [this, sc_nat]
      have := Int.mul_le_mul_of_nonneg_right (show a1 * a1 + a2 * a2 ≤ (262144 : Int) by omega) (show (0 : Int) ≤ (sc 1 0 : Int) by omega)
      rw [e18]
      omega
theorem two_w : WB .f32 1073741824 2 2 := by
  have e : (1073741824 : Nat) = FloatKind.f32.nearest 2 := by decide +kernel
  rw [e]
  exact WB.int (by decide) (by rw [lim32]; omega)
theorem dbl (h1 : WB .f32 A1 a1 200) : (FloatKind.f32.format.order (fmul .f32 A1 1073741824) (fadd .f32 A1 A1) == some Ordering.eq) = true :=
  (h1.mul two_w (by rw [lim32]; omega)).eq (h1.add h1 (by rw [lim32]; omega)) (by omega)
theorem wr (h1 : WB .f32 A1 a1 200) (h3 : WB .f32 B1 b1 200) : (-40000 ≤ a1 * b1 ∧ a1 * b1 ≤ 40000) := by
  have hb : (a1 * b1).natAbs ≤ 200 * 200 := by rw [Int.natAbs_mul]; exact Nat.mul_le_mul h1.b h3.b
  omega
theorem sm_self (a : Nat) : sm.sp a a = true := by
  unfold sm.sp
  cases nw.nan.sp a <;> simp
theorem addok (h1 : WB .f32 A1 a1 200) (h2 : WB .f32 A2 a2 200) : cadd.ok.sp .f32 A1 A2 A1 A2 = true := by
  unfold cadd.ok.sp
  rw [h1.w.addok h1.w, h2.w.addok h2.w]
  rfl
end
end cp

end Go.Proofs.YtjhofofieiiplaaGreatDoor.Ab
