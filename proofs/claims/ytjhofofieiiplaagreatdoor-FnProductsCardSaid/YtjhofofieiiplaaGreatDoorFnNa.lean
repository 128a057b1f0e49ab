/-
  Functions: bits of numbers, flushed numbers, sums.
-/
import Derived.Test.YtjhofofieiiplaaGreatDoorAbNat
import Derived.Test.YtjhofofieiiplaaGreatDoorFnAU
namespace Go.Proofs.YtjhofofieiiplaaGreatDoor.Ab
open Go
set_option linter.unusedVariables false
set_option linter.unusedSimpArgs false
set_option maxRecDepth 100000

def nats : List (FuncId × Nat) := [(82, 0), (81, 1), (56, 2), (55, 3)]
theorem nat0 : IsBits Tryz.prog 82 (natF 0) := ⟨⟨_, Tryz.func82, by kernel_rfl, by kernel_rfl, by kernel_rfl, by kernel_rfl⟩⟩
theorem nat1 : IsBits Tryz.prog 81 (natF 1) := ⟨⟨_, Tryz.func81, by kernel_rfl, by kernel_rfl, by kernel_rfl, by kernel_rfl⟩⟩
theorem nat2 : IsBits Tryz.prog 56 (natF 2) := ⟨⟨_, Tryz.func56, by kernel_rfl, by kernel_rfl, by kernel_rfl, by kernel_rfl⟩⟩
theorem nat3 : IsBits Tryz.prog 55 (natF 3) := ⟨⟨_, Tryz.func55, by kernel_rfl, by kernel_rfl, by kernel_rfl, by kernel_rfl⟩⟩
theorem natsOk : NatsOk Tryz.prog nats := by
  unfold NatsOk nats
  simp only [List.mem_cons, List.not_mem_nil, or_false, forall_eq_or_imp, forall_eq]
  exact ⟨nat0, nat1, nat2, nat3⟩

namespace nw
/-- Not a number, as the program asks it. -/
def nan.sp (x : Nat) : Bool := FloatKind.f32.format.order x x != some Ordering.eq
theorem order_none {k : FloatKind} {a b : Nat} (h : (k.decode a).isNaN = true) : k.format.order a b = none := by
  obtain ⟨s, q, e⟩ := nan_of h
  unfold Ieee.Format.order
  rw [e]
  cases k.format.read b <;> rfl
theorem nnan_nan (x : Nat) : nnan.sp .f32 x = !(nan.sp x) := by
  unfold nnan.sp nan.sp
  cases h : (FloatKind.f32.decode x).isNaN with
  | true => rw [order_none h]; rfl
  | false => rw [order_self _ _ h]; rfl
def bits.sv (x : Nat) : Int := bif nan.sp x then 2143289344 else IntKind.i64.wrap (x : Int)
def abs.sv (x : Nat) : Nat := x % 9223372036854775808
theorem abs_eq (x : Nat) : (iandn.sv .u64 (x : Int) 9223372036854775808).toNat = abs.sv x := by
  show (IntKind.u64.wrap (((BitVec.ofInt 64 (x : Int) &&& ~~~ BitVec.ofInt 64 9223372036854775808 : BitVec 64).toNat : Nat) : Int)).toNat = x % 9223372036854775808
  have e1 : BitVec.ofInt 64 9223372036854775808 = BitVec.ofNat 64 9223372036854775808 := by decide +kernel
  have e2 : BitVec.ofInt 64 (x : Int) = BitVec.ofNat 64 x := BitVec.ofInt_natCast 64 x
  rw [e1, e2]
  have e3 : (BitVec.ofNat 64 x &&& ~~~ BitVec.ofNat 64 9223372036854775808).toNat = x % 9223372036854775808 := by
    rw [BitVec.toNat_and, BitVec.toNat_not, BitVec.toNat_ofNat, BitVec.toNat_ofNat]
    have := Nat.and_two_pow_sub_one_eq_mod (x % 2 ^ 64) 63
    rw [show (2 ^ 64 - 1 - 9223372036854775808 % 2 ^ 64) = 2 ^ 63 - 1 from rfl, this]
    omega
  rw [e3, IntWalk.u64_in _ (by omega)]
  omega
theorem abs_nan {x : Nat} (h : (FloatKind.f64.decode x).isNaN = true) : (FloatKind.f64.decode (abs.sv x)).isNaN = true := by
  rw [nan_iff] at h ⊢
  have e : FloatKind.f64.format.signWeight = 9223372036854775808 := by decide
  rw [e] at h ⊢
  unfold abs.sv
  rwa [Nat.mod_mod]
def sub.sp (x : Nat) : Bool := (FloatKind.f32.format.order x 0 != some Ordering.eq) && (FloatKind.f64.format.order (abs.sv (fwid.sv x)) 4039728865751334912 == some Ordering.lt)
/-- A zero with the sign of a number. -/
def zs.sv (x : Nat) : Nat := nar.sv (ior.sv .u64 0 (iand.sv .u64 (fwid.sv x : Int) 9223372036854775808)).toNat
def fl.sv (x : Nat) : Nat := bif sub.sp x then zs.sv x else x
end nw

namespace BitsOf
def R : List AVal → Option (Bool × AVal × List Blk)
  | [.flt .f32 x] => some (true, .int .i64 (nw.bits.sv x), [])
  | _ => none
theorem go (x : Nat) :
  runFn Tryz.prog (orcN nats (orc [])) hd0 Dr.std none 0 (bodyOf Tryz.f21) 9 [2] [.flt .f32 x] []
  = (bif FloatKind.f32.format.order x x != some Ordering.eq then some (AVal.int IntKind.i64 (2143289344 : Int), []) else bif nnan.sp FloatKind.f32 x then some (AVal.int IntKind.i64 (IntKind.i64.wrap (↑x : Int)), []) else none) := by kernel_rfl
theorem run : ∀ args v new, R args = some (true, v, new) → ∃ fuel, runFn Tryz.prog (orcN nats (orc [])) hd0 Dr.std none fuel (bodyOf Tryz.f21) 9 [2] args [] = some (v, new) := by
  intro args v new h
  unfold R at h
  split at h
  · rename_i x
    simp only [Option.some.injEq, Prod.mk.injEq] at h
    obtain ⟨_, rfl, rfl⟩ := h
    refine ⟨0, ?_⟩
    rw [go]
    have e := nw.nnan_nan x
    unfold nw.bits.sv
    unfold nw.nan.sp at e ⊢
    cases hb : FloatKind.f32.format.order x x != some Ordering.eq <;> rw [hb] at e <;> simp [e]
  · cases h
theorem ok : EntOk Tryz.prog ⟨21, R⟩ :=
  ent_okA mixed (A := (orcN nats (orc []))) (orcN_ok natsOk (orc_ok (by simp))) Tryz.func21 (by kernel_rfl) (by kernel_rfl) (n := 9) (ts := [2]) (hd := hd0) (dr := Dr.std) (cut := none) (by kernel_rfl) (by kernel_rfl) (by kernel_rfl) run
end BitsOf

namespace l01Bits
def R : List AVal → Option (Bool × AVal × List Blk)
  | [.flt .f32 x] => some (true, .int .i64 (nw.bits.sv x), [])
  | _ => none
theorem go (x : Nat) :
  runFn Tryz.prog (orcN nats (orc [])) hd0 Dr.std none 0 (bodyOf Tryz.f69) 9 [2] [.flt .f32 x] []
  = (bif FloatKind.f32.format.order x x != some Ordering.eq then some (AVal.int IntKind.i64 (2143289344 : Int), []) else bif nnan.sp FloatKind.f32 x then some (AVal.int IntKind.i64 (IntKind.i64.wrap (↑x : Int)), []) else none) := by kernel_rfl
theorem run : ∀ args v new, R args = some (true, v, new) → ∃ fuel, runFn Tryz.prog (orcN nats (orc [])) hd0 Dr.std none fuel (bodyOf Tryz.f69) 9 [2] args [] = some (v, new) := by
  intro args v new h
  unfold R at h
  split at h
  · rename_i x
    simp only [Option.some.injEq, Prod.mk.injEq] at h
    obtain ⟨_, rfl, rfl⟩ := h
    refine ⟨0, ?_⟩
    rw [go]
    have e := nw.nnan_nan x
    unfold nw.bits.sv
    unfold nw.nan.sp at e ⊢
    cases hb : FloatKind.f32.format.order x x != some Ordering.eq <;> rw [hb] at e <;> simp [e]
  · cases h
theorem ok : EntOk Tryz.prog ⟨69, R⟩ :=
  ent_okA mixed (A := (orcN nats (orc []))) (orcN_ok natsOk (orc_ok (by simp))) Tryz.func69 (by kernel_rfl) (by kernel_rfl) (n := 9) (ts := [2]) (hd := hd0) (dr := Dr.std) (cut := none) (by kernel_rfl) (by kernel_rfl) (by kernel_rfl) run
end l01Bits

namespace FromBits
def R : List AVal → Option (Bool × AVal × List Blk)
  | [.int .i64 n] => some (decide (0 ≤ n ∧ n ≤ 4294967295), .tup [.flt .f32 n.toNat, .bool true], [])
  | _ => none
theorem go (n : Int) :
  runFn Tryz.prog (orcN nats (orc [⟨54, within.R⟩])) hd0 Dr.std none 0 (bodyOf Tryz.f20) 10 [2, 3] [.int .i64 n] []
  = (bif true && (true && true || true && true) then bif !(decide ((0 : Int) ≤ n) && decide (n ≤ (4294967295 : Int))) then some (AVal.tup [AVal.flt FloatKind.f32 (0 : Nat), AVal.bool false], []) else some (AVal.tup [AVal.flt FloatKind.f32 (IntKind.u32.wrap n).toNat, AVal.bool true], []) else none) := by kernel_rfl
theorem run : ∀ args v new, R args = some (true, v, new) → ∃ fuel, runFn Tryz.prog (orcN nats (orc [⟨54, within.R⟩])) hd0 Dr.std none fuel (bodyOf Tryz.f20) 10 [2, 3] args [] = some (v, new) := by
  intro args v new h
  unfold R at h
  split at h
  · rename_i n
    simp only [Option.some.injEq, Prod.mk.injEq, decide_eq_true_eq] at h
    obtain ⟨⟨h1, h2⟩, rfl, rfl⟩ := h
    refine ⟨0, ?_⟩
    have w : IntKind.u32.wrap n = n := IntWalk.u32_in _ (by omega)
    rw [go]
    simp -implicitDefEqProofs (disch := omega) only [w, h1, h2, take_one, set_one, decide_eq_true, decide_eq_false, IntWalk.i64_in, beqT, beqF, bneT, bneF, nat_succ, ← Int.natCast_mul, ← Int.natCast_add, Int.toNat_natCast, Int.zero_mul, Int.zero_add, Int.add_zero, Nat.zero_add, Nat.add_zero, Nat.zero_mul, List.length_singleton, List.length_append, List.length_nil, List.length_cons, List.take_length, List.drop_zero, List.replicate_zero, List.take_nil, List.nil_append, Nat.reduceBEq, Nat.reduceMul, Nat.reduceLeDiff, eq_self, and_self, true_and, and_true, decide_true, decide_false, Bool.and_self, Bool.or_self, Bool.and_true, Bool.true_and, Bool.and_false, Bool.false_and, Bool.or_true, Bool.true_or, Bool.or_false, Bool.false_or, Bool.not_true, Bool.not_false, cond_true, cond_false]
  · cases h
theorem ok : EntOk Tryz.prog ⟨20, R⟩ :=
  ent_okA mixed (A := (orcN nats (orc [⟨54, within.R⟩]))) (orcN_ok natsOk (orc_ok (by simp only [List.mem_cons, List.not_mem_nil, or_false, forall_eq_or_imp, forall_eq]; exact within.ok))) Tryz.func20 (by kernel_rfl) (by kernel_rfl) (n := 10) (ts := [2, 3]) (hd := hd0) (dr := Dr.std) (cut := none) (by kernel_rfl) (by kernel_rfl) (by kernel_rfl) run
end FromBits

namespace l01From
def R : List AVal → Option (Bool × AVal × List Blk)
  | [.int .i64 n] => some (decide (0 ≤ n ∧ n ≤ 4294967295), .flt .f32 n.toNat, [])
  | _ => none
theorem go (n : Int) :
  runFn Tryz.prog (orcN nats (orc [])) hd0 Dr.std none 0 (bodyOf Tryz.f52) 6 [2] [.int .i64 n] []
  = (some (AVal.flt FloatKind.f32 (IntKind.u32.wrap n).toNat, [])) := by kernel_rfl
theorem run : ∀ args v new, R args = some (true, v, new) → ∃ fuel, runFn Tryz.prog (orcN nats (orc [])) hd0 Dr.std none fuel (bodyOf Tryz.f52) 6 [2] args [] = some (v, new) := by
  intro args v new h
  unfold R at h
  split at h
  · rename_i n
    simp only [Option.some.injEq, Prod.mk.injEq, decide_eq_true_eq] at h
    obtain ⟨⟨h1, h2⟩, rfl, rfl⟩ := h
    refine ⟨0, ?_⟩
    have w : IntKind.u32.wrap n = n := IntWalk.u32_in _ (by omega)
    rw [go, w]
  · cases h
theorem ok : EntOk Tryz.prog ⟨52, R⟩ :=
  ent_okA mixed (A := (orcN nats (orc []))) (orcN_ok natsOk (orc_ok (by simp))) Tryz.func52 (by kernel_rfl) (by kernel_rfl) (n := 6) (ts := [2]) (hd := hd0) (dr := Dr.std) (cut := none) (by kernel_rfl) (by kernel_rfl) (by kernel_rfl) run
end l01From

namespace l01Same
def R : List AVal → Option (Bool × AVal × List Blk)
  | [.flt .f32 x, .flt .f32 y] => some (true, .bool (nw.bits.sv x == nw.bits.sv y), [])
  | _ => none
theorem go (x y : Nat) :
  runFn Tryz.prog (orc [⟨69, l01Bits.R⟩]) hd0 Dr.std none 0 (bodyOf Tryz.f43) 10 [4] [.flt .f32 x, .flt .f32 y] []
  = (bif true && (true && true || true && true) then bif true && (true && true || true && true) then some (AVal.bool (nw.bits.sv x == nw.bits.sv y), []) else none else none) := by kernel_rfl
theorem run : ∀ args v new, R args = some (true, v, new) → ∃ fuel, runFn Tryz.prog (orc [⟨69, l01Bits.R⟩]) hd0 Dr.std none fuel (bodyOf Tryz.f43) 10 [4] args [] = some (v, new) := by
  intro args v new h
  unfold R at h
  split at h
  · rename_i x y
    simp only [Option.some.injEq, Prod.mk.injEq] at h
    obtain ⟨_, rfl, rfl⟩ := h
    exact ⟨0, by rw [go]; rfl⟩
  · cases h
theorem ok : EntOk Tryz.prog ⟨43, R⟩ :=
  ent_okA mixed (A := (orc [⟨69, l01Bits.R⟩])) (orc_ok (by simp only [List.mem_cons, List.not_mem_nil, or_false, forall_eq_or_imp, forall_eq]; exact l01Bits.ok)) Tryz.func43 (by kernel_rfl) (by kernel_rfl) (n := 10) (ts := [4]) (hd := hd0) (dr := Dr.std) (cut := none) (by kernel_rfl) (by kernel_rfl) (by kernel_rfl) run
end l01Same

namespace sSameNumber
def R : List AVal → Option (Bool × AVal × List Blk)
  | [.flt .f32 x, .flt .f32 y] => some (true, .bool (nw.bits.sv x == nw.bits.sv y), [])
  | _ => none
theorem go (x y : Nat) :
  runFn Tryz.prog (orc [⟨43, l01Same.R⟩]) hd0 Dr.std none 0 (bodyOf Tryz.f10) 8 [4] [.flt .f32 x, .flt .f32 y] []
  = (bif true && (true && (true && true) || true && true) then some (AVal.bool (nw.bits.sv x == nw.bits.sv y), []) else none) := by kernel_rfl
theorem run : ∀ args v new, R args = some (true, v, new) → ∃ fuel, runFn Tryz.prog (orc [⟨43, l01Same.R⟩]) hd0 Dr.std none fuel (bodyOf Tryz.f10) 8 [4] args [] = some (v, new) := by
  intro args v new h
  unfold R at h
  split at h
  · rename_i x y
    simp only [Option.some.injEq, Prod.mk.injEq] at h
    obtain ⟨_, rfl, rfl⟩ := h
    exact ⟨0, by rw [go]; rfl⟩
  · cases h
theorem ok : EntOk Tryz.prog ⟨10, R⟩ :=
  ent_okA mixed (A := (orc [⟨43, l01Same.R⟩])) (orc_ok (by simp only [List.mem_cons, List.not_mem_nil, or_false, forall_eq_or_imp, forall_eq]; exact l01Same.ok)) Tryz.func10 (by kernel_rfl) (by kernel_rfl) (n := 8) (ts := [4]) (hd := hd0) (dr := Dr.std) (cut := none) (by kernel_rfl) (by kernel_rfl) (by kernel_rfl) run
end sSameNumber

namespace nAbs
def R : List AVal → Option (Bool × AVal × List Blk)
  | [.flt .f64 x] => some (true, .flt .f64 (nw.abs.sv x), [])
  | _ => none
def RX : List AVal → Option (Bool × AVal × List Blk)
  | [.fex .f64 x] => some (true, .flt .f64 (nw.abs.sv x), [])
  | _ => none
theorem go (x : Nat) :
  runFn Tryz.prog (orcN nats (orc [])) hd0 Dr.std none 0 (bodyOf Tryz.f65) 7 [2] [.fex .f64 x] []
  = (some (AVal.flt FloatKind.f64 (iandn.sv IntKind.u64 (↑x : Int) (9223372036854775808 : Int)).toNat, [])) := by kernel_rfl
theorem runX : ∀ args v new, RX args = some (true, v, new) → ∃ fuel, runFn Tryz.prog (orcN nats (orc [])) hd0 Dr.std none fuel (bodyOf Tryz.f65) 7 [2] args [] = some (v, new) := by
  intro args v new h
  unfold RX at h
  split at h
  · rename_i x
    simp only [Option.some.injEq, Prod.mk.injEq] at h
    obtain ⟨_, rfl, rfl⟩ := h
    refine ⟨0, ?_⟩
    rw [go, nw.abs_eq]
  · cases h
theorem okX : EntOk Tryz.prog ⟨65, RX⟩ :=
  ent_okA mixed (A := (orcN nats (orc []))) (orcN_ok natsOk (orc_ok (by simp))) Tryz.func65 (by kernel_rfl) (by kernel_rfl) (n := 7) (ts := [2]) (hd := hd0) (dr := Dr.std) (cut := none) (by kernel_rfl) (by kernel_rfl) (by kernel_rfl) runX
theorem ok : EntOk Tryz.prog ⟨65, R⟩ := by
  refine ⟨okX.1, fun args v new h => ?_⟩
  simp only [R] at h
  split at h
  · rename_i x
    simp only [Option.some.injEq, Prod.mk.injEq, true_and] at h
    obtain ⟨rfl, rfl⟩ := h
    refine acalls_fex (v := fun b => .flt .f64 (nw.abs.sv b)) (fun b _ => okX.2 [.fex .f64 b] _ _ rfl) ?_
    intro F b w c hs hv
    cases hv
    rename_i d hd
    refine .flt _ _ _ ?_
    rcases hs with rfl | ⟨h1, h2⟩
    · exact hd
    · rcases hd with rfl | ⟨h3, h4⟩
      · exact .inr ⟨nw.abs_nan h1, nw.abs_nan h2⟩
      · exact .inr ⟨nw.abs_nan h1, h4⟩
  · cases h
end nAbs

namespace IsSubnormal
def R : List AVal → Option (Bool × AVal × List Blk)
  | [.flt .f32 x] => some (true, .bool (nw.sub.sp x), [])
  | _ => none
theorem go (x : Nat) :
  runFn Tryz.prog (orc [⟨65, nAbs.R⟩]) hd0 Dr.std none 0 (bodyOf Tryz.f33) 11 [2] [.flt .f32 x] []
  = (bif FloatKind.f32.format.order x (0 : Nat) != some Ordering.eq then bif true && (true && true || true && true) then some (AVal.bool (FloatKind.f64.format.order (nw.abs.sv (fwid.sv x)) (4039728865751334912 : Nat) == some Ordering.lt), []) else none else some (AVal.bool false, [])) := by kernel_rfl
theorem run : ∀ args v new, R args = some (true, v, new) → ∃ fuel, runFn Tryz.prog (orc [⟨65, nAbs.R⟩]) hd0 Dr.std none fuel (bodyOf Tryz.f33) 11 [2] args [] = some (v, new) := by
  intro args v new h
  unfold R at h
  split at h
  · rename_i x
    simp only [Option.some.injEq, Prod.mk.injEq] at h
    obtain ⟨_, rfl, rfl⟩ := h
    refine ⟨0, ?_⟩
    rw [go]
    unfold nw.sub.sp
    cases FloatKind.f32.format.order x 0 != some Ordering.eq <;> rfl
  · cases h
theorem ok : EntOk Tryz.prog ⟨33, R⟩ :=
  ent_okA mixed (A := (orc [⟨65, nAbs.R⟩])) (orc_ok (by simp only [List.mem_cons, List.not_mem_nil, or_false, forall_eq_or_imp, forall_eq]; exact nAbs.ok)) Tryz.func33 (by kernel_rfl) (by kernel_rfl) (n := 11) (ts := [2]) (hd := hd0) (dr := Dr.std) (cut := none) (by kernel_rfl) (by kernel_rfl) (by kernel_rfl) run
end IsSubnormal

namespace mathCopysign
def R : List AVal → Option (Bool × AVal × List Blk)
  | [.flt .f64 z, .flt .f64 x] => some (nnan.sp .f64 z && nnan.sp .f64 x, .flt .f64 (ior.sv .u64 (iandn.sv .u64 (z : Int) 9223372036854775808) (iand.sv .u64 (x : Int) 9223372036854775808)).toNat, [])
  | _ => none
theorem go (x z : Nat) :
  runFn Tryz.prog (orcN nats (orc [])) hd0 Dr.std none 0 (bodyOf Tryz.f63) 13 [4] [.flt .f64 z, .flt .f64 x] []
  = (bif nnan.sp FloatKind.f64 z then bif nnan.sp FloatKind.f64 x then some (AVal.flt FloatKind.f64 (ior.sv IntKind.u64 (iandn.sv IntKind.u64 (↑z : Int) (9223372036854775808 : Int)) (iand.sv IntKind.u64 (↑x : Int) (9223372036854775808 : Int))).toNat, []) else none else none) := by kernel_rfl
theorem run : ∀ args v new, R args = some (true, v, new) → ∃ fuel, runFn Tryz.prog (orcN nats (orc [])) hd0 Dr.std none fuel (bodyOf Tryz.f63) 13 [4] args [] = some (v, new) := by
  intro args v new h
  unfold R at h
  split at h
  · rename_i z x
    simp only [Option.some.injEq, Prod.mk.injEq, Bool.and_eq_true] at h
    obtain ⟨⟨h1, h2⟩, rfl, rfl⟩ := h
    exact ⟨0, by rw [go]; simp [h1, h2]⟩
  · cases h
theorem ok : EntOk Tryz.prog ⟨63, R⟩ :=
  ent_okA mixed (A := (orcN nats (orc []))) (orcN_ok natsOk (orc_ok (by simp))) Tryz.func63 (by kernel_rfl) (by kernel_rfl) (n := 13) (ts := [4]) (hd := hd0) (dr := Dr.std) (cut := none) (by kernel_rfl) (by kernel_rfl) (by kernel_rfl) run
end mathCopysign

namespace nw
theorem and_sign (x : Nat) : iand.sv .u64 (x : Int) 9223372036854775808 = 0 ∨ iand.sv .u64 (x : Int) 9223372036854775808 = 9223372036854775808 := by
  have e1 : BitVec.ofInt 64 9223372036854775808 = BitVec.twoPow 64 63 := by decide +kernel
  have e : iand.sv .u64 (x : Int) 9223372036854775808 = IntKind.u64.wrap (((BitVec.ofInt 64 (x : Int) &&& BitVec.ofInt 64 9223372036854775808 : BitVec 64).toNat : Nat) : Int) := rfl
  rw [e, e1, BitVec.and_twoPow]
  split
  · right; decide +kernel
  · left; decide +kernel
theorem zs_cases (x : Nat) : (zs.sv x = 0 ∨ zs.sv x = 2147483648) ∧ nar.ok.sp (ior.sv .u64 0 (iand.sv .u64 (fwid.sv x : Int) 9223372036854775808)).toNat = true := by
  unfold zs.sv
  rcases and_sign (fwid.sv x) with e | e <;> rw [e] <;> decide +kernel
theorem fwid_nnan {x : Nat} (h : nan.sp x = false) : nnan.sp .f64 (fwid.sv x) = true := by
  have h1 := nnan_nan x
  rw [h] at h1
  unfold nnan.sp at h1 ⊢
  unfold fwid.sv
  cases hd : FloatKind.f32.decode x with
  | nan s q => rw [hd] at h1; cases h1
  | infinity s => cases s <;> decide +kernel
  | number s m e =>
    simp only []
    rw [write_number_not_nan]
    rfl
theorem sub_nnan {x : Nat} (h : sub.sp x = true) : nan.sp x = false := by
  cases hn : nan.sp x with
  | false => rfl
  | true =>
    exfalso
    have h1 := nnan_nan x
    rw [hn] at h1
    have h2 : (FloatKind.f32.decode x).isNaN = true := by
      unfold nnan.sp at h1
      cases hq : (FloatKind.f32.decode x).isNaN with
      | true => rfl
      | false => rw [hq] at h1; cases h1
    have h3 : fwid.sv x = qnan .f64 := by
      unfold fwid.sv
      cases hd : FloatKind.f32.decode x with
      | nan s q => rfl
      | infinity s => rw [hd] at h2; cases h2
      | number s m e => rw [hd] at h2; cases h2
    unfold sub.sp at h
    rw [h3] at h
    have h4 : FloatKind.f64.format.order (abs.sv (qnan .f64)) 4039728865751334912 = none := by decide +kernel
    rw [h4, Bool.and_eq_true] at h
    exact absurd h.2 (by decide)
end nw

namespace FlushNumber
def R : List AVal → Option (Bool × AVal × List Blk)
  | [.flt .f32 x] => some (true, .flt .f32 (nw.fl.sv x), [])
  | _ => none
theorem go (x : Nat) :
  runFn Tryz.prog (orc [⟨33, IsSubnormal.R⟩, ⟨63, mathCopysign.R⟩]) hd0 Dr.std none 0 (bodyOf Tryz.f28) 10 [2] [.flt .f32 x] []
  = (bif true && (true && true || true && true) then bif nw.sub.sp x then bif nnan.sp FloatKind.f64 (0 : Nat) && nnan.sp FloatKind.f64 (fwid.sv x) && (true && (true && true) || true && true) then bif nar.ok.sp (ior.sv IntKind.u64 (0 : Int) (iand.sv IntKind.u64 (↑(fwid.sv x) : Int) (9223372036854775808 : Int))).toNat then some (AVal.flt FloatKind.f32 (nar.sv (ior.sv IntKind.u64 (0 : Int) (iand.sv IntKind.u64 (↑(fwid.sv x) : Int) (9223372036854775808 : Int))).toNat), []) else none else none else some (AVal.flt FloatKind.f32 x, []) else none) := by kernel_rfl
theorem run : ∀ args v new, R args = some (true, v, new) → ∃ fuel, runFn Tryz.prog (orc [⟨33, IsSubnormal.R⟩, ⟨63, mathCopysign.R⟩]) hd0 Dr.std none fuel (bodyOf Tryz.f28) 10 [2] args [] = some (v, new) := by
  intro args v new h
  unfold R at h
  split at h
  · rename_i x
    simp only [Option.some.injEq, Prod.mk.injEq] at h
    obtain ⟨_, rfl, rfl⟩ := h
    refine ⟨0, ?_⟩
    rw [go]
    unfold nw.fl.sv
    cases hs : nw.sub.sp x with
    | false => rfl
    | true =>
      have h1 := nw.fwid_nnan (nw.sub_nnan hs)
      have h2 := (nw.zs_cases x).2
      have h3 : nnan.sp .f64 0 = true := by decide +kernel
      simp only [cond_true, h1, h3, Bool.and_self]
      first | (rw [h2]; rfl) | (simp only [h2, cond_true]; rfl)
  · cases h
theorem ok : EntOk Tryz.prog ⟨28, R⟩ :=
  ent_okA mixed (A := (orc [⟨33, IsSubnormal.R⟩, ⟨63, mathCopysign.R⟩])) (orc_ok (by simp only [List.mem_cons, List.not_mem_nil, or_false, forall_eq_or_imp, forall_eq]; exact ⟨IsSubnormal.ok, mathCopysign.ok⟩)) Tryz.func28 (by kernel_rfl) (by kernel_rfl) (n := 10) (ts := [2]) (hd := hd0) (dr := Dr.std) (cut := none) (by kernel_rfl) (by kernel_rfl) (by kernel_rfl) run
end FlushNumber

namespace NarrowNumber
def R : List AVal → Option (Bool × AVal × List Blk)
  | [.flt .f64 x] => some (nar.ok.sp x, .flt .f32 (nar.sv x), [])
  | _ => none
theorem go (x : Nat) :
  runFn Tryz.prog (orc []) hd0 Dr.std none 0 (bodyOf Tryz.f36) 5 [2] [.flt .f64 x] []
  = (bif nar.ok.sp x then some (AVal.flt FloatKind.f32 (nar.sv x), []) else none) := by kernel_rfl
theorem run : ∀ args v new, R args = some (true, v, new) → ∃ fuel, runFn Tryz.prog (orc []) hd0 Dr.std none fuel (bodyOf Tryz.f36) 5 [2] args [] = some (v, new) := by
  intro args v new h
  unfold R at h
  split at h
  · rename_i x
    simp only [Option.some.injEq, Prod.mk.injEq] at h
    obtain ⟨h1, rfl, rfl⟩ := h
    exact ⟨0, by rw [go, h1]; rfl⟩
  · cases h
theorem ok : EntOk Tryz.prog ⟨36, R⟩ :=
  ent_okA mixed (A := (orc [])) (orc_ok (by simp)) Tryz.func36 (by kernel_rfl) (by kernel_rfl) (n := 5) (ts := [2]) (hd := hd0) (dr := Dr.std) (cut := none) (by kernel_rfl) (by kernel_rfl) (by kernel_rfl) run
end NarrowNumber

end Go.Proofs.YtjhofofieiiplaaGreatDoor.Ab
