/-
  Functions: arrows of choices, their lengths and angles, told one by one.
-/
import Derived.Test.YtgblgofmdhekiaaFnA1
import Derived.Test.YtgblgofmdhekiaaFnAE
namespace Go.Proofs.Ytgblgofmdhekiaa.Ab
open Go
set_option linter.unusedVariables false
set_option linter.unusedSimpArgs false
set_option maxRecDepth 100000
namespace agr
open Ieee fp
def gap (a b : Nat) : Nat := fmax.sv .f64 (fsub .f64 a b) (fsub .f64 b a)
def gok.sp (a b : Nat) : Bool := ord.sp .f64 (fsub .f64 a b) (fsub .f64 b a)
def gt64.sp (a b : Nat) : Bool := FloatKind.f64.format.order a b == some Ordering.gt
def chkA (n c : Nat) : Bool := match single.read (ar.one.sv n c).1, single.read (ar.one.sv n c).2 with
  | .number _ m i, .number _ m2 i2 => (decide (-149 ≤ i) && decide (-149 ≤ i2)) && decide ((m * 2 ^ (i + 149).toNat) * (m * 2 ^ (i + 149).toNat) + (m2 * 2 ^ (i2 + 149).toNat) * (m2 * 2 ^ (i2 + 149).toNat) ≤ 2 ^ 298 + 2 ^ 298 / 1000000)
  | _, _ => false
def chkL (n c : Nat) : Bool := an.long.ok.sp (ar.one.sv n c).1 (ar.one.sv n c).2 && (gok.sp (fwid.sv (an.long.sv (ar.one.sv n c).1 (ar.one.sv n c).2)) 4607182418800017408 && !gt64.sp (gap (fwid.sv (an.long.sv (ar.one.sv n c).1 (ar.one.sv n c).2)) 4607182418800017408) 4562254508917369340)
def mv (n v : Nat) : Nat × Nat := fl.mean.sv (ar.o.sv [(v : Int), (v : Int), (v : Int)] n)
def va (n v : Nat) : Nat := an.ang.sv (mv n v).2 (mv n v).1
def fa (n v : Nat) : Nat := gap (fwid.sv (va n v)) (fdiv .f64 (FloatKind.f64.nearest (v : Int)) (FloatKind.f64.nearest (n : Int)))
def chkV (n v : Nat) : Bool := (an.ang.ok.sp (mv n v).2 (mv n v).1 && flo.fin.sp (va n v)) && ((gok.sp (fwid.sv (va n v)) (fdiv .f64 (FloatKind.f64.nearest (v : Int)) (FloatKind.f64.nearest (n : Int))) && (gok.sp (fa n v) 0 && gok.sp (fa n v) 4607182418800017408)) && !(gt64.sp (gap (fa n v) 0) 4562254508917369340 && gt64.sp (gap (fa n v) 4607182418800017408) 4562254508917369340))
theorem a_all : ∀ n : Nat, n < 13 → ∀ c : Nat, c < n → chkA n c = true := by decide +kernel
theorem l_all : ∀ n : Nat, n < 13 → ∀ c : Nat, c < n → chkL n c = true := by decide +kernel
theorem v_all : ∀ n : Nat, n < 13 → ∀ c : Nat, c < n → chkV n c = true := by decide +kernel
def tk (k : Nat) : Nat := fdiv .f32 (FloatKind.f32.nearest (k : Int)) 1120403456
theorem s_all : ∀ k : Nat, k < 17 → (FloatKind.f32.format.order (fadd .f32 (tk k) 0) (tk k) == some Ordering.eq) = true ∧ (FloatKind.f32.format.order (fadd .f32 (tk k) 2147483648) (tk k) == some Ordering.eq) = true ∧ flo.fin.sp (fadd .f32 (tk k) 0) = true ∧ flo.fin.sp (fadd .f32 (tk k) 2147483648) = true := by decide +kernel
end agr
end Go.Proofs.Ytgblgofmdhekiaa.Ab
