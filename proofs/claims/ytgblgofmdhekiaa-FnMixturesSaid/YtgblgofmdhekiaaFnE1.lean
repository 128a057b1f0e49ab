/-
  Functions: the best chances of two rows: the closure that tries one.
-/
import Derived.Test.YtgblgofmdhekiaaFnGA
import Derived.Test.YtgblgofmdhekiaaFnGP
import Derived.Test.YtgblgofmdhekiaaFnAU
import Derived.Test.YtgblgofmdhekiaaAbReW
namespace Go.Proofs.Ytgblgofmdhekiaa.Ab
open Go
set_option linter.unusedVariables false
set_option linter.unusedSimpArgs false
set_option maxRecDepth 100000

namespace trv
structure Q4 where
  p : Int
  q : Int
  v : Int
  w : Int
/-- What a chance a of b gains against a column; the least of the first columns. -/
def f.sv (c : Nat) (xs : List Int) (a b : Int) (k : Nat) : Int := a * gz xs k + (b - a) * gz xs (c + k)
def ls.sv (c : Nat) (xs : List Int) (a b : Int) : Nat → Int
  | 0 => 0
  | k + 1 => bif ((k : Int) == 0) || decide (f.sv c xs a b k < ls.sv c xs a b k) then f.sv c xs a b k else ls.sv c xs a b k
def ok.sp (a b : Int) : Bool := (b != 0) && (decide (0 ≤ rd.p.sv a b) && decide (rd.p.sv a b ≤ rd.q.sv a b))
def bt.sp (L a b : Int) (z : Q4) : Bool := (z.q == 0) || (decide (0 < L * z.w - z.v * b) || ((L * z.w - z.v * b == 0) && decide (a * z.q < z.p * b)))
def up (c : Nat) (xs : List Int) (a b : Int) (z : Q4) : Q4 := bif bt.sp (ls.sv c xs a b c) a b z then ⟨a, b, rd.p.sv (ls.sv c xs a b c) b, rd.q.sv (ls.sv c xs a b c) b⟩ else z
/-- What is best behind a try. -/
def s (c : Nat) (xs : List Int) (a b : Int) (z : Q4) : Q4 := bif ok.sp a b then up c xs (rd.p.sv a b) (rd.q.sv a b) z else z
def p.sv (c : Nat) (xs : List Int) (a b p q v w : Int) : Int := (s c xs a b ⟨p, q, v, w⟩).p
def q.sv (c : Nat) (xs : List Int) (a b p q v w : Int) : Int := (s c xs a b ⟨p, q, v, w⟩).q
def v.sv (c : Nat) (xs : List Int) (a b p q v w : Int) : Int := (s c xs a b ⟨p, q, v, w⟩).v
def w.sv (c : Nat) (xs : List Int) (a b p q v w : Int) : Int := (s c xs a b ⟨p, q, v, w⟩).w
def sml.sp (xs : List Int) : Bool := xs.all fun x => decide (-10 ≤ x) && decide (x ≤ 10)
/-- A quotient, reduced. -/
theorem rd_spec {a b : Int} (h : b ≠ 0) : ∃ t : Int, t ≠ 0 ∧ a = rd.p.sv a b * t ∧ b = rd.q.sv a b * t ∧ 0 < rd.q.sv a b ∧ (rd.p.sv a b).natAbs ≤ a.natAbs ∧ (rd.q.sv a b).natAbs ≤ b.natAbs := by
  have hb : (b == 0) = false := by simp [h]
  have hg := rd.gcd_pos (a := a) h
  unfold rd.p.sv rd.q.sv
  rw [hb, cond_false, cond_false]
  have hd1 : (Int.gcd a b : Int) ∣ a := Int.gcd_dvd_left a b
  have hd2 : (Int.gcd a b : Int) ∣ b := Int.gcd_dvd_right a b
  unfold rd.by.sv
  by_cases c : b < 0
  · rw [if_pos c]
    have e1 : a.tdiv (-(Int.gcd a b : Int)) * (-(Int.gcd a b : Int)) = a := Int.tdiv_mul_cancel (Int.neg_dvd.2 hd1)
    have e2 : b.tdiv (-(Int.gcd a b : Int)) * (-(Int.gcd a b : Int)) = b := Int.tdiv_mul_cancel (Int.neg_dvd.2 hd2)
    refine ⟨-(Int.gcd a b : Int), by omega, e1.symm, e2.symm, ?_, ?_, ?_⟩
    · by_cases c2 : 0 < b.tdiv (-(Int.gcd a b : Int))
      · exact c2
      · exfalso
        have := Int.mul_nonneg (show 0 ≤ -(b.tdiv (-(Int.gcd a b : Int))) by omega) (show (0 : Int) ≤ Int.gcd a b by omega)
        rw [Int.neg_mul, ← Int.mul_neg] at this
        omega
    · rw [Int.natAbs_tdiv]; exact Nat.div_le_self _ _
    · rw [Int.natAbs_tdiv]; exact Nat.div_le_self _ _
  · rw [if_neg c]
    have e1 : a.tdiv (Int.gcd a b : Int) * (Int.gcd a b : Int) = a := Int.tdiv_mul_cancel hd1
    have e2 : b.tdiv (Int.gcd a b : Int) * (Int.gcd a b : Int) = b := Int.tdiv_mul_cancel hd2
    refine ⟨(Int.gcd a b : Int), by omega, e1.symm, e2.symm, ?_, ?_, ?_⟩
    · by_cases c2 : 0 < b.tdiv (Int.gcd a b : Int)
      · exact c2
      · exfalso
        have := Int.mul_nonneg (show 0 ≤ -(b.tdiv (Int.gcd a b : Int)) by omega) (show (0 : Int) ≤ Int.gcd a b by omega)
        rw [Int.neg_mul] at this
        omega
    · rw [Int.natAbs_tdiv]; exact Nat.div_le_self _ _
    · rw [Int.natAbs_tdiv]; exact Nat.div_le_self _ _
/-- Small products. -/
theorem mul_in {a b A B : Int} (ha : -A ≤ a ∧ a ≤ A) (hb : -B ≤ b ∧ b ≤ B) : -(A * B) ≤ a * b ∧ a * b ≤ A * B := by
  have h1 : (a * b).natAbs ≤ A.toNat * B.toNat := by rw [Int.natAbs_mul]; exact Nat.mul_le_mul (by omega) (by omega)
  have h2 : ((A.toNat * B.toNat : Nat) : Int) = A * B := by rw [Int.natCast_mul, Int.toNat_of_nonneg (by omega), Int.toNat_of_nonneg (by omega)]
  omega
theorem f_in {c : Nat} {xs : List Int} (hl : xs.length = 2 * c) (hs : sml.sp xs = true) {a b : Int} (ha : 0 ≤ a ∧ a ≤ b) (hb : b ≤ 100) {k : Nat} (hk : k < c) : -1000 ≤ a * gz xs k ∧ a * gz xs k ≤ 1000 ∧ -1000 ≤ (b - a) * gz xs (c + k) ∧ (b - a) * gz xs (c + k) ≤ 1000 := by
  simp only [sml.sp, List.all_eq_true, Bool.and_eq_true, decide_eq_true_eq] at hs
  have h1 := hs _ (gz_mem (l := xs) (j := k) (by omega))
  have h2 := hs _ (gz_mem (l := xs) (j := c + k) (by omega))
  have h3 := mul_in (a := a) (b := gz xs k) (A := 100) (B := 10) (by omega) h1
  have h4 := mul_in (a := b - a) (b := gz xs (c + k)) (A := 100) (B := 10) (by omega) h2
  omega
theorem ls_in {c : Nat} {xs : List Int} (hl : xs.length = 2 * c) (hs : sml.sp xs = true) {a b : Int} (ha : 0 ≤ a ∧ a ≤ b) (hb : b ≤ 100) : ∀ k, k ≤ c → -2000 ≤ ls.sv c xs a b k ∧ ls.sv c xs a b k ≤ 2000
  | 0, _ => by simp [ls.sv]
  | k + 1, hk => by
    have h1 := ls_in hl hs ha hb k (by omega)
    have h2 := f_in hl hs ha hb (k := k) (by omega)
    rw [ls.sv]
    cases ((k : Int) == 0) || decide (f.sv c xs a b k < ls.sv c xs a b k)
    · exact h1
    · rw [cond_true]; unfold f.sv; omega
/-- Small numbers. -/
structure Sm (z : Q4) : Prop where
  p0 : 0 ≤ z.p
  p1 : z.p ≤ 100
  q0 : 0 ≤ z.q
  q1 : z.q ≤ 100
  v0 : -2000 ≤ z.v
  v1 : z.v ≤ 2000
  w0 : 0 ≤ z.w
  w1 : z.w ≤ 100
theorem s_sm {c : Nat} {xs : List Int} (hl : xs.length = 2 * c) (hs : sml.sp xs = true) {a b : Int} (ha : -100 ≤ a ∧ a ≤ 100) (hb : -100 ≤ b ∧ b ≤ 100) {z : Q4} (h : Sm z) : Sm (s c xs a b z) := by
  unfold s
  cases ho : ok.sp a b
  · exact h
  · simp only [ok.sp, Bool.and_eq_true, bne_iff_ne, ne_eq, decide_eq_true_eq] at ho
    obtain ⟨h0, h1, h2⟩ := ho
    obtain ⟨t, _, _, _, g3, g4, g5⟩ := rd_spec (a := a) h0
    rw [cond_true]
    unfold up
    cases bt.sp (ls.sv c xs (rd.p.sv a b) (rd.q.sv a b) c) (rd.p.sv a b) (rd.q.sv a b) z
    · exact h
    · have h3 := ls_in hl hs (a := rd.p.sv a b) (b := rd.q.sv a b) ⟨h1, h2⟩ (by omega) c (Nat.le_refl _)
      obtain ⟨_, _, _, _, k3, k4, k5⟩ := rd_spec (a := ls.sv c xs (rd.p.sv a b) (rd.q.sv a b) c) (b := rd.q.sv a b) (by omega)
      rw [cond_true]
      constructor <;> simp only [] <;> omega
end trv

namespace tryRow
def dr : Nat → Dr := fun i => bif eqN i 6 then ⟨some [0, 1, 2, 5, 6, 7, 8, 9, 3, 4, 10, 11, 12, 13], false⟩ else ⟨none, false⟩
def R : List AVal → Heap → Option (Bool × AVal × Heap)
  | [.int .i64 a, .int .i64 b, .ptr 0 0 0, .ptr 1 0 0, .ptr 2 0 0, .ptr 3 0 0, .ptr 4 0 0], [⟨.cells [.int .i64 r, .int .i64 c, .ro (.ints .i64 xs) mx 1, .ro (.ints .i64 ys) my 1], 0⟩, ⟨.cells [.int .i64 w], 0⟩, ⟨.cells [.int .i64 v], 0⟩, ⟨.cells [.int .i64 q], 0⟩, ⟨.cells [.int .i64 p], 0⟩] => some (decide (mx = xs.length ∧ my = ys.length ∧ r = 2 ∧ 1 ≤ c ∧ c ≤ 6 ∧ (xs.length : Int) = 2 * c ∧ -100 ≤ a ∧ a ≤ 100 ∧ -100 ≤ b ∧ b ≤ 100 ∧ 0 ≤ p ∧ p ≤ 100 ∧ 0 ≤ q ∧ q ≤ 100 ∧ -2000 ≤ v ∧ v ≤ 2000 ∧ 0 ≤ w ∧ w ≤ 100) && trv.sml.sp xs, .tup [], [⟨.cells [.int .i64 r, .int .i64 c, .ro (.ints .i64 xs) mx 1, .ro (.ints .i64 ys) my 1], 0⟩, ⟨.cells [.int .i64 (trv.w.sv c.toNat xs a b p q v w)], 0⟩, ⟨.cells [.int .i64 (trv.v.sv c.toNat xs a b p q v w)], 0⟩, ⟨.cells [.int .i64 (trv.q.sv c.toNat xs a b p q v w)], 0⟩, ⟨.cells [.int .i64 (trv.p.sv c.toNat xs a b p q v w)], 0⟩])
  | _, _ => none
def hd : Nat → Head := fun _ => ⟨[998, 0, 1, 2, 3, 4, 5, 6, 10, 30, 31], none⟩
noncomputable def L (f n : Nat) (s : State) := loopAt Try.prog (orc [⟨56, reduced.R⟩, ⟨40, within.R⟩, ⟨52, gA.R⟩]) hd dr 5 f (bodyOf Try.f55) 0 [true, true, true, false, true] (retK Try.prog [] 5 none) n s
theorem start (c : Nat) (xs ys : List Int) (a b w v q p : Int) (f : Nat) :
  runFn Try.prog (orc [⟨56, reduced.R⟩, ⟨40, within.R⟩, ⟨52, gA.R⟩]) hd dr none f (bodyOf Try.f55) 91 [] [.int .i64 a, .int .i64 b, .ptr 0 0 0, .ptr 1 0 0, .ptr 2 0 0, .ptr 3 0 0, .ptr 4 0 0] [⟨.cells [.int .i64 2, .int .i64 ((c : Nat) : Int), .ro (.ints .i64 xs) xs.length 1, .ro (.ints .i64 ys) ys.length 1], 0⟩, ⟨.cells [.int .i64 w], 0⟩, ⟨.cells [.int .i64 v], 0⟩, ⟨.cells [.int .i64 q], 0⟩, ⟨.cells [.int .i64 p], 0⟩]
  = (bif true && (true && (true && (true && (true && true)))) then bif decide ((-5000 : Int) ≤ a ∧ a ≤ (5000 : Int) ∧ (-5000 : Int) ≤ b ∧ b ≤ (5000 : Int)) && (true && (true && true) || true && (true && (true && true)) && true) then bif !b != (0 : Int) then some (AVal.tup [], [{ c := BC.cells [AVal.int IntKind.i64 (2 : Int), AVal.int IntKind.i64 (↑c : Int), AVal.ro (Cont.ints IntKind.i64 xs) xs.length (1 : Nat), AVal.ro (Cont.ints IntKind.i64 ys) ys.length (1 : Nat)], ver := (0 : Nat) }, { c := BC.cells [AVal.int IntKind.i64 w], ver := (0 : Nat) }, { c := BC.cells [AVal.int IntKind.i64 v], ver := (0 : Nat) }, { c := BC.cells [AVal.int IntKind.i64 q], ver := (0 : Nat) }, { c := BC.cells [AVal.int IntKind.i64 p], ver := (0 : Nat) }]) else bif true && (true && (true && (true && true)) || true && true) then bif !(decide ((0 : Int) ≤ rd.p.sv a b) && decide (rd.p.sv a b ≤ rd.q.sv a b)) then some (AVal.tup [], [{ c := BC.cells [AVal.int IntKind.i64 (2 : Int), AVal.int IntKind.i64 (↑c : Int), AVal.ro (Cont.ints IntKind.i64 xs) xs.length (1 : Nat), AVal.ro (Cont.ints IntKind.i64 ys) ys.length (1 : Nat)], ver := (0 : Nat) }, { c := BC.cells [AVal.int IntKind.i64 w], ver := (0 : Nat) }, { c := BC.cells [AVal.int IntKind.i64 v], ver := (0 : Nat) }, { c := BC.cells [AVal.int IntKind.i64 q], ver := (0 : Nat) }, { c := BC.cells [AVal.int IntKind.i64 p], ver := (0 : Nat) }]) else bif true && true then L f f (mkS (91 : Nat) [((0 : Nat), AVal.int IntKind.i64 (rd.p.sv a b)), ((1 : Nat), AVal.int IntKind.i64 (rd.q.sv a b)), ((2 : Nat), AVal.ptr (0 : Nat) (0 : Nat) (0 : Nat)), ((3 : Nat), AVal.ptr (1 : Nat) (0 : Nat) (0 : Nat)), ((4 : Nat), AVal.ptr (2 : Nat) (0 : Nat) (0 : Nat)), ((5 : Nat), AVal.ptr (3 : Nat) (0 : Nat) (0 : Nat)), ((6 : Nat), AVal.ptr (4 : Nat) (0 : Nat) (0 : Nat)), ((10 : Nat), AVal.int IntKind.i64 (0 : Int)), ((30 : Nat), AVal.int IntKind.i64 (↑c : Int)), ((31 : Nat), AVal.int IntKind.i64 (0 : Int))] [{ c := BC.cells [AVal.int IntKind.i64 (2 : Int), AVal.int IntKind.i64 (↑c : Int), AVal.ro (Cont.ints IntKind.i64 xs) xs.length (1 : Nat), AVal.ro (Cont.ints IntKind.i64 ys) ys.length (1 : Nat)], ver := (0 : Nat) }, { c := BC.cells [AVal.int IntKind.i64 w], ver := (0 : Nat) }, { c := BC.cells [AVal.int IntKind.i64 v], ver := (0 : Nat) }, { c := BC.cells [AVal.int IntKind.i64 q], ver := (0 : Nat) }, { c := BC.cells [AVal.int IntKind.i64 p], ver := (0 : Nat) }]) else none else none else none else none) := by kernel_rfl
theorem round (c : Nat) (xs ys : List Int) (a b w v q p l N : Int) (k f n : Nat) :
  L f (n + 1) (mkS 91 [(0, .int .i64 a), (1, .int .i64 b), (2, .ptr 0 0 0), (3, .ptr 1 0 0), (4, .ptr 2 0 0), (5, .ptr 3 0 0), (6, .ptr 4 0 0), (10, .int .i64 l), (30, .int .i64 N), (31, .int .i64 ((k : Nat) : Int))] [⟨.cells [.int .i64 2, .int .i64 ((c : Nat) : Int), .ro (.ints .i64 xs) xs.length 1, .ro (.ints .i64 ys) ys.length 1], 0⟩, ⟨.cells [.int .i64 w], 0⟩, ⟨.cells [.int .i64 v], 0⟩, ⟨.cells [.int .i64 q], 0⟩, ⟨.cells [.int .i64 p], 0⟩])
  = (bif decide ((↑k : Int) < N) then bif true && true && (true && true && (true && true && (true && true && true))) then bif true && true && (true && true && (true && true && (true && true && true))) then bif decide (xs.length = xs.length ∧ ys.length = ys.length ∧ (0 : Int) ≤ (0 : Int) ∧ (0 : Int) ≤ (↑k : Int) ∧ (0 : Int) ≤ (100 : Int) ∧ (↑k : Int) ≤ (100 : Int) ∧ (0 : Int) ≤ (↑c : Int) ∧ (↑c : Int) ≤ (100 : Int) ∧ (0 : Int) * (↑c : Int) + (↑k : Int) < (↑xs.length : Int)) && (true && (true && (true && (true && true))) && (true && (true && true)) || true && true) then bif decide (xs.length = xs.length ∧ ys.length = ys.length ∧ (0 : Int) ≤ (1 : Int) ∧ (0 : Int) ≤ (↑k : Int) ∧ (1 : Int) ≤ (100 : Int) ∧ (↑k : Int) ≤ (100 : Int) ∧ (0 : Int) ≤ (↑c : Int) ∧ (↑c : Int) ≤ (100 : Int) ∧ (1 : Int) * (↑c : Int) + (↑k : Int) < (↑xs.length : Int)) && (true && (true && (true && (true && true))) && (true && (true && true)) || true && true) then bif (↑k : Int) == (0 : Int) then L f n (mkS (91 : Nat) [((0 : Nat), AVal.int IntKind.i64 a), ((1 : Nat), AVal.int IntKind.i64 b), ((2 : Nat), AVal.ptr (0 : Nat) (0 : Nat) (0 : Nat)), ((3 : Nat), AVal.ptr (1 : Nat) (0 : Nat) (0 : Nat)), ((4 : Nat), AVal.ptr (2 : Nat) (0 : Nat) (0 : Nat)), ((5 : Nat), AVal.ptr (3 : Nat) (0 : Nat) (0 : Nat)), ((6 : Nat), AVal.ptr (4 : Nat) (0 : Nat) (0 : Nat)), ((10 : Nat), AVal.int IntKind.i64 (IntKind.i64.wrap (IntKind.i64.wrap (a * gz xs ((0 : Int) * (↑c : Int) + (↑k : Int)).toNat) + IntKind.i64.wrap (IntKind.i64.wrap (b - a) * gz xs ((1 : Int) * (↑c : Int) + (↑k : Int)).toNat)))), ((30 : Nat), AVal.int IntKind.i64 N), ((31 : Nat), AVal.int IntKind.i64 (IntKind.i64.wrap ((↑k : Int) + (1 : Int))))] [{ c := BC.cells [AVal.int IntKind.i64 (2 : Int), AVal.int IntKind.i64 (↑c : Int), AVal.ro (Cont.ints IntKind.i64 xs) xs.length (1 : Nat), AVal.ro (Cont.ints IntKind.i64 ys) ys.length (1 : Nat)], ver := (0 : Nat) }, { c := BC.cells [AVal.int IntKind.i64 w], ver := (0 : Nat) }, { c := BC.cells [AVal.int IntKind.i64 v], ver := (0 : Nat) }, { c := BC.cells [AVal.int IntKind.i64 q], ver := (0 : Nat) }, { c := BC.cells [AVal.int IntKind.i64 p], ver := (0 : Nat) }]) else bif decide (IntKind.i64.wrap (IntKind.i64.wrap (a * gz xs ((0 : Int) * (↑c : Int) + (↑k : Int)).toNat) + IntKind.i64.wrap (IntKind.i64.wrap (b - a) * gz xs ((1 : Int) * (↑c : Int) + (↑k : Int)).toNat)) < l) then L f n (mkS (91 : Nat) [((0 : Nat), AVal.int IntKind.i64 a), ((1 : Nat), AVal.int IntKind.i64 b), ((2 : Nat), AVal.ptr (0 : Nat) (0 : Nat) (0 : Nat)), ((3 : Nat), AVal.ptr (1 : Nat) (0 : Nat) (0 : Nat)), ((4 : Nat), AVal.ptr (2 : Nat) (0 : Nat) (0 : Nat)), ((5 : Nat), AVal.ptr (3 : Nat) (0 : Nat) (0 : Nat)), ((6 : Nat), AVal.ptr (4 : Nat) (0 : Nat) (0 : Nat)), ((10 : Nat), AVal.int IntKind.i64 (IntKind.i64.wrap (IntKind.i64.wrap (a * gz xs ((0 : Int) * (↑c : Int) + (↑k : Int)).toNat) + IntKind.i64.wrap (IntKind.i64.wrap (b - a) * gz xs ((1 : Int) * (↑c : Int) + (↑k : Int)).toNat)))), ((30 : Nat), AVal.int IntKind.i64 N), ((31 : Nat), AVal.int IntKind.i64 (IntKind.i64.wrap ((↑k : Int) + (1 : Int))))] [{ c := BC.cells [AVal.int IntKind.i64 (2 : Int), AVal.int IntKind.i64 (↑c : Int), AVal.ro (Cont.ints IntKind.i64 xs) xs.length (1 : Nat), AVal.ro (Cont.ints IntKind.i64 ys) ys.length (1 : Nat)], ver := (0 : Nat) }, { c := BC.cells [AVal.int IntKind.i64 w], ver := (0 : Nat) }, { c := BC.cells [AVal.int IntKind.i64 v], ver := (0 : Nat) }, { c := BC.cells [AVal.int IntKind.i64 q], ver := (0 : Nat) }, { c := BC.cells [AVal.int IntKind.i64 p], ver := (0 : Nat) }]) else L f n (mkS (91 : Nat) [((0 : Nat), AVal.int IntKind.i64 a), ((1 : Nat), AVal.int IntKind.i64 b), ((2 : Nat), AVal.ptr (0 : Nat) (0 : Nat) (0 : Nat)), ((3 : Nat), AVal.ptr (1 : Nat) (0 : Nat) (0 : Nat)), ((4 : Nat), AVal.ptr (2 : Nat) (0 : Nat) (0 : Nat)), ((5 : Nat), AVal.ptr (3 : Nat) (0 : Nat) (0 : Nat)), ((6 : Nat), AVal.ptr (4 : Nat) (0 : Nat) (0 : Nat)), ((10 : Nat), AVal.int IntKind.i64 l), ((30 : Nat), AVal.int IntKind.i64 N), ((31 : Nat), AVal.int IntKind.i64 (IntKind.i64.wrap ((↑k : Int) + (1 : Int))))] [{ c := BC.cells [AVal.int IntKind.i64 (2 : Int), AVal.int IntKind.i64 (↑c : Int), AVal.ro (Cont.ints IntKind.i64 xs) xs.length (1 : Nat), AVal.ro (Cont.ints IntKind.i64 ys) ys.length (1 : Nat)], ver := (0 : Nat) }, { c := BC.cells [AVal.int IntKind.i64 w], ver := (0 : Nat) }, { c := BC.cells [AVal.int IntKind.i64 v], ver := (0 : Nat) }, { c := BC.cells [AVal.int IntKind.i64 q], ver := (0 : Nat) }, { c := BC.cells [AVal.int IntKind.i64 p], ver := (0 : Nat) }]) else none else none else none else none else bif true && true then bif true && true then bif true && true then bif q == (0 : Int) then bif decide ((-5000 : Int) ≤ l ∧ l ≤ (5000 : Int) ∧ (-5000 : Int) ≤ b ∧ b ≤ (5000 : Int)) && (true && (true && true) || true && (true && (true && true)) && true) then some (AVal.tup [], [{ c := BC.cells [AVal.int IntKind.i64 (2 : Int), AVal.int IntKind.i64 (↑c : Int), AVal.ro (Cont.ints IntKind.i64 xs) xs.length (1 : Nat), AVal.ro (Cont.ints IntKind.i64 ys) ys.length (1 : Nat)], ver := (0 : Nat) }, { c := BC.cells [AVal.int IntKind.i64 (rd.q.sv l b)], ver := (0 : Nat) }, { c := BC.cells [AVal.int IntKind.i64 (rd.p.sv l b)], ver := (0 : Nat) }, { c := BC.cells [AVal.int IntKind.i64 b], ver := (0 : Nat) }, { c := BC.cells [AVal.int IntKind.i64 a], ver := (0 : Nat) }]) else none else bif decide ((0 : Int) < IntKind.i64.wrap (IntKind.i64.wrap (l * w) - IntKind.i64.wrap (v * b))) then bif decide ((-5000 : Int) ≤ l ∧ l ≤ (5000 : Int) ∧ (-5000 : Int) ≤ b ∧ b ≤ (5000 : Int)) && (true && (true && true) || true && (true && (true && true)) && true) then some (AVal.tup [], [{ c := BC.cells [AVal.int IntKind.i64 (2 : Int), AVal.int IntKind.i64 (↑c : Int), AVal.ro (Cont.ints IntKind.i64 xs) xs.length (1 : Nat), AVal.ro (Cont.ints IntKind.i64 ys) ys.length (1 : Nat)], ver := (0 : Nat) }, { c := BC.cells [AVal.int IntKind.i64 (rd.q.sv l b)], ver := (0 : Nat) }, { c := BC.cells [AVal.int IntKind.i64 (rd.p.sv l b)], ver := (0 : Nat) }, { c := BC.cells [AVal.int IntKind.i64 b], ver := (0 : Nat) }, { c := BC.cells [AVal.int IntKind.i64 a], ver := (0 : Nat) }]) else none else bif IntKind.i64.wrap (IntKind.i64.wrap (l * w) - IntKind.i64.wrap (v * b)) == (0 : Int) then bif true && true then bif true && true then bif decide (IntKind.i64.wrap (a * q) < IntKind.i64.wrap (p * b)) then bif decide ((-5000 : Int) ≤ l ∧ l ≤ (5000 : Int) ∧ (-5000 : Int) ≤ b ∧ b ≤ (5000 : Int)) && (true && (true && true) || true && (true && (true && true)) && true) then some (AVal.tup [], [{ c := BC.cells [AVal.int IntKind.i64 (2 : Int), AVal.int IntKind.i64 (↑c : Int), AVal.ro (Cont.ints IntKind.i64 xs) xs.length (1 : Nat), AVal.ro (Cont.ints IntKind.i64 ys) ys.length (1 : Nat)], ver := (0 : Nat) }, { c := BC.cells [AVal.int IntKind.i64 (rd.q.sv l b)], ver := (0 : Nat) }, { c := BC.cells [AVal.int IntKind.i64 (rd.p.sv l b)], ver := (0 : Nat) }, { c := BC.cells [AVal.int IntKind.i64 b], ver := (0 : Nat) }, { c := BC.cells [AVal.int IntKind.i64 a], ver := (0 : Nat) }]) else none else some (AVal.tup [], [{ c := BC.cells [AVal.int IntKind.i64 (2 : Int), AVal.int IntKind.i64 (↑c : Int), AVal.ro (Cont.ints IntKind.i64 xs) xs.length (1 : Nat), AVal.ro (Cont.ints IntKind.i64 ys) ys.length (1 : Nat)], ver := (0 : Nat) }, { c := BC.cells [AVal.int IntKind.i64 w], ver := (0 : Nat) }, { c := BC.cells [AVal.int IntKind.i64 v], ver := (0 : Nat) }, { c := BC.cells [AVal.int IntKind.i64 q], ver := (0 : Nat) }, { c := BC.cells [AVal.int IntKind.i64 p], ver := (0 : Nat) }]) else none else none else some (AVal.tup [], [{ c := BC.cells [AVal.int IntKind.i64 (2 : Int), AVal.int IntKind.i64 (↑c : Int), AVal.ro (Cont.ints IntKind.i64 xs) xs.length (1 : Nat), AVal.ro (Cont.ints IntKind.i64 ys) ys.length (1 : Nat)], ver := (0 : Nat) }, { c := BC.cells [AVal.int IntKind.i64 w], ver := (0 : Nat) }, { c := BC.cells [AVal.int IntKind.i64 v], ver := (0 : Nat) }, { c := BC.cells [AVal.int IntKind.i64 q], ver := (0 : Nat) }, { c := BC.cells [AVal.int IntKind.i64 p], ver := (0 : Nat) }]) else none else none else none) := by kernel_rfl
theorem loop (c : Nat) (xs ys : List Int) (a b w v q p : Int) (f : Nat) (Z : trv.Q4) (hc : 1 ≤ c ∧ c ≤ 6) (hl : xs.length = 2 * c) (hs : trv.sml.sp xs = true) (ha : 0 ≤ a ∧ a ≤ b) (hb : b ≤ 100) (hz : trv.Sm ⟨p, q, v, w⟩) (hZ : trv.up c xs a b ⟨p, q, v, w⟩ = Z) : ∀ (d k n : Nat), k + d = c → d < n →
    L f n (mkS 91 [(0, .int .i64 a), (1, .int .i64 b), (2, .ptr 0 0 0), (3, .ptr 1 0 0), (4, .ptr 2 0 0), (5, .ptr 3 0 0), (6, .ptr 4 0 0), (10, .int .i64 (trv.ls.sv c xs a b k)), (30, .int .i64 ((c : Nat) : Int)), (31, .int .i64 ((k : Nat) : Int))] [⟨.cells [.int .i64 2, .int .i64 ((c : Nat) : Int), .ro (.ints .i64 xs) xs.length 1, .ro (.ints .i64 ys) ys.length 1], 0⟩, ⟨.cells [.int .i64 w], 0⟩, ⟨.cells [.int .i64 v], 0⟩, ⟨.cells [.int .i64 q], 0⟩, ⟨.cells [.int .i64 p], 0⟩]) = some (.tup [], [⟨.cells [.int .i64 2, .int .i64 ((c : Nat) : Int), .ro (.ints .i64 xs) xs.length 1, .ro (.ints .i64 ys) ys.length 1], 0⟩, ⟨.cells [.int .i64 Z.w], 0⟩, ⟨.cells [.int .i64 Z.v], 0⟩, ⟨.cells [.int .i64 Z.q], 0⟩, ⟨.cells [.int .i64 Z.p], 0⟩]) := by
  intro d
  induction d with
  | zero =>
    intro k n hk hn
    obtain ⟨n, rfl⟩ : ∃ k, n = k + 1 := ⟨n - 1, by omega⟩
    obtain rfl : k = c := by omega
    obtain ⟨p0, p1, q0, q1, v0, v1, w0, w1⟩ := hz
    simp only [] at p0 p1 q0 q1 v0 v1 w0 w1
    have hls := trv.ls_in hl hs ha hb k (Nat.le_refl _)
    unfold trv.up trv.bt.sp at hZ
    simp only [] at hZ
    generalize trv.ls.sv k xs a b k = l at *
    rw [round]
    have m1 := trv.mul_in (a := l) (b := w) (A := 2000) (B := 100) hls (by omega)
    have m2 := trv.mul_in (a := v) (b := b) (A := 2000) (B := 100) ⟨v0, v1⟩ (by omega)
    have m3 := trv.mul_in (a := a) (b := q) (A := 100) (B := 100) (by omega) (by omega)
    have m4 := trv.mul_in (a := p) (b := b) (A := 100) (B := 100) (by omega) (by omega)
    generalize l * w = M1 at *
    generalize v * b = M2 at *
    generalize a * q = M3 at *
    generalize p * b = M4 at *
    by_cases e1 : q = 0
    · have e1' : (q == 0) = true := beq_iff_eq.2 e1
      rw [e1', Bool.true_or, cond_true] at hZ
      subst hZ
      simp -implicitDefEqProofs (disch := omega) only [e1', take_one, set_one, decide_eq_true, decide_eq_false, IntWalk.i64_in, beqT, beqF, bneT, bneF, nat_succ, ← Int.natCast_mul, ← Int.natCast_add, Int.toNat_natCast, Int.zero_mul, Int.zero_add, Int.add_zero, Nat.zero_add, Nat.add_zero, Nat.zero_mul, List.length_singleton, List.length_append, List.length_nil, List.length_cons, List.take_length, List.drop_zero, List.replicate_zero, List.take_nil, List.nil_append, Nat.reduceBEq, Nat.reduceMul, Nat.reduceLeDiff, eq_self, and_self, true_and, and_true, decide_true, decide_false, Bool.and_self, Bool.or_self, Bool.and_true, Bool.true_and, Bool.and_false, Bool.false_and, Bool.or_true, Bool.true_or, Bool.or_false, Bool.false_or, Bool.not_true, Bool.not_false, cond_true, cond_false]
    · have e1' : (q == 0) = false := beq_eq_false_iff_ne.2 e1
      rw [e1', Bool.false_or] at hZ
      by_cases e2 : 0 < M1 - M2
      · rw [decide_eq_true e2, Bool.true_or, cond_true] at hZ
        subst hZ
        simp -implicitDefEqProofs (disch := omega) only [e1', take_one, set_one, decide_eq_true, decide_eq_false, IntWalk.i64_in, beqT, beqF, bneT, bneF, nat_succ, ← Int.natCast_mul, ← Int.natCast_add, Int.toNat_natCast, Int.zero_mul, Int.zero_add, Int.add_zero, Nat.zero_add, Nat.add_zero, Nat.zero_mul, List.length_singleton, List.length_append, List.length_nil, List.length_cons, List.take_length, List.drop_zero, List.replicate_zero, List.take_nil, List.nil_append, Nat.reduceBEq, Nat.reduceMul, Nat.reduceLeDiff, eq_self, and_self, true_and, and_true, decide_true, decide_false, Bool.and_self, Bool.or_self, Bool.and_true, Bool.true_and, Bool.and_false, Bool.false_and, Bool.or_true, Bool.true_or, Bool.or_false, Bool.false_or, Bool.not_true, Bool.not_false, cond_true, cond_false]
      · rw [decide_eq_false e2, Bool.false_or] at hZ
        by_cases e3 : M1 - M2 = 0
        · have e3' : (M1 - M2 == 0) = true := beq_iff_eq.2 e3
          rw [e3', Bool.true_and] at hZ
          by_cases e4 : M3 < M4
          · rw [decide_eq_true e4, cond_true] at hZ
            subst hZ
            simp -implicitDefEqProofs (disch := omega) only [e1', e3', take_one, set_one, decide_eq_true, decide_eq_false, IntWalk.i64_in, beqT, beqF, bneT, bneF, nat_succ, ← Int.natCast_mul, ← Int.natCast_add, Int.toNat_natCast, Int.zero_mul, Int.zero_add, Int.add_zero, Nat.zero_add, Nat.add_zero, Nat.zero_mul, List.length_singleton, List.length_append, List.length_nil, List.length_cons, List.take_length, List.drop_zero, List.replicate_zero, List.take_nil, List.nil_append, Nat.reduceBEq, Nat.reduceMul, Nat.reduceLeDiff, eq_self, and_self, true_and, and_true, decide_true, decide_false, Bool.and_self, Bool.or_self, Bool.and_true, Bool.true_and, Bool.and_false, Bool.false_and, Bool.or_true, Bool.true_or, Bool.or_false, Bool.false_or, Bool.not_true, Bool.not_false, cond_true, cond_false]
          · rw [decide_eq_false e4, cond_false] at hZ
            subst hZ
            simp -implicitDefEqProofs (disch := omega) only [e1', e3', take_one, set_one, decide_eq_true, decide_eq_false, IntWalk.i64_in, beqT, beqF, bneT, bneF, nat_succ, ← Int.natCast_mul, ← Int.natCast_add, Int.toNat_natCast, Int.zero_mul, Int.zero_add, Int.add_zero, Nat.zero_add, Nat.add_zero, Nat.zero_mul, List.length_singleton, List.length_append, List.length_nil, List.length_cons, List.take_length, List.drop_zero, List.replicate_zero, List.take_nil, List.nil_append, Nat.reduceBEq, Nat.reduceMul, Nat.reduceLeDiff, eq_self, and_self, true_and, and_true, decide_true, decide_false, Bool.and_self, Bool.or_self, Bool.and_true, Bool.true_and, Bool.and_false, Bool.false_and, Bool.or_true, Bool.true_or, Bool.or_false, Bool.false_or, Bool.not_true, Bool.not_false, cond_true, cond_false]
        · have e3' : (M1 - M2 == 0) = false := beq_eq_false_iff_ne.2 e3
          rw [e3', Bool.false_and, cond_false] at hZ
          subst hZ
          simp -implicitDefEqProofs (disch := omega) only [e1', e3', take_one, set_one, decide_eq_true, decide_eq_false, IntWalk.i64_in, beqT, beqF, bneT, bneF, nat_succ, ← Int.natCast_mul, ← Int.natCast_add, Int.toNat_natCast, Int.zero_mul, Int.zero_add, Int.add_zero, Nat.zero_add, Nat.add_zero, Nat.zero_mul, List.length_singleton, List.length_append, List.length_nil, List.length_cons, List.take_length, List.drop_zero, List.replicate_zero, List.take_nil, List.nil_append, Nat.reduceBEq, Nat.reduceMul, Nat.reduceLeDiff, eq_self, and_self, true_and, and_true, decide_true, decide_false, Bool.and_self, Bool.or_self, Bool.and_true, Bool.true_and, Bool.and_false, Bool.false_and, Bool.or_true, Bool.true_or, Bool.or_false, Bool.false_or, Bool.not_true, Bool.not_false, cond_true, cond_false]
  | succ d ih =>
    intro k n hk hn
    obtain ⟨n, rfl⟩ : ∃ k, n = k + 1 := ⟨n - 1, by omega⟩
    have g := ih (k + 1) n (by omega) (by omega)
    have fi := trv.f_in hl hs ha hb (k := k) (by omega)
    have z0 : (0 * ((c : Nat) : Int) + ((k : Nat) : Int)).toNat = k := by omega
    have z1 : (1 * ((c : Nat) : Int) + ((k : Nat) : Int)).toNat = c + k := by omega
    rw [trv.ls.sv] at g
    unfold trv.f.sv at g
    rw [round, z0, z1]
    have wb : IntKind.i64.wrap (b - a) = b - a := IntWalk.i64_in _ (by omega)
    rw [wb]
    generalize a * gz xs k = M1 at *
    generalize (b - a) * gz xs (c + k) = M2 at *
    by_cases e1 : ((k : Nat) : Int) = 0
    · have e1' : (((k : Nat) : Int) == 0) = true := beq_iff_eq.2 e1
      rw [e1', Bool.true_or, cond_true] at g
      simp -implicitDefEqProofs (disch := omega) only [e1', take_one, set_one, decide_eq_true, decide_eq_false, IntWalk.i64_in, beqT, beqF, bneT, bneF, nat_succ, ← Int.natCast_mul, ← Int.natCast_add, Int.toNat_natCast, Int.zero_mul, Int.zero_add, Int.add_zero, Nat.zero_add, Nat.add_zero, Nat.zero_mul, List.length_singleton, List.length_append, List.length_nil, List.length_cons, List.take_length, List.drop_zero, List.replicate_zero, List.take_nil, List.nil_append, Nat.reduceBEq, Nat.reduceMul, Nat.reduceLeDiff, eq_self, and_self, true_and, and_true, decide_true, decide_false, Bool.and_self, Bool.or_self, Bool.and_true, Bool.true_and, Bool.and_false, Bool.false_and, Bool.or_true, Bool.true_or, Bool.or_false, Bool.false_or, Bool.not_true, Bool.not_false, cond_true, cond_false]
      exact g
    · have e1' : (((k : Nat) : Int) == 0) = false := beq_eq_false_iff_ne.2 e1
      rw [e1', Bool.false_or] at g
      by_cases e2 : M1 + M2 < trv.ls.sv c xs a b k
      · rw [decide_eq_true e2, cond_true] at g
        simp -implicitDefEqProofs (disch := omega) only [e1', take_one, set_one, decide_eq_true, decide_eq_false, IntWalk.i64_in, beqT, beqF, bneT, bneF, nat_succ, ← Int.natCast_mul, ← Int.natCast_add, Int.toNat_natCast, Int.zero_mul, Int.zero_add, Int.add_zero, Nat.zero_add, Nat.add_zero, Nat.zero_mul, List.length_singleton, List.length_append, List.length_nil, List.length_cons, List.take_length, List.drop_zero, List.replicate_zero, List.take_nil, List.nil_append, Nat.reduceBEq, Nat.reduceMul, Nat.reduceLeDiff, eq_self, and_self, true_and, and_true, decide_true, decide_false, Bool.and_self, Bool.or_self, Bool.and_true, Bool.true_and, Bool.and_false, Bool.false_and, Bool.or_true, Bool.true_or, Bool.or_false, Bool.false_or, Bool.not_true, Bool.not_false, cond_true, cond_false]
        exact g
      · rw [decide_eq_false e2, cond_false] at g
        simp -implicitDefEqProofs (disch := omega) only [e1', take_one, set_one, decide_eq_true, decide_eq_false, IntWalk.i64_in, beqT, beqF, bneT, bneF, nat_succ, ← Int.natCast_mul, ← Int.natCast_add, Int.toNat_natCast, Int.zero_mul, Int.zero_add, Int.add_zero, Nat.zero_add, Nat.add_zero, Nat.zero_mul, List.length_singleton, List.length_append, List.length_nil, List.length_cons, List.take_length, List.drop_zero, List.replicate_zero, List.take_nil, List.nil_append, Nat.reduceBEq, Nat.reduceMul, Nat.reduceLeDiff, eq_self, and_self, true_and, and_true, decide_true, decide_false, Bool.and_self, Bool.or_self, Bool.and_true, Bool.true_and, Bool.and_false, Bool.false_and, Bool.or_true, Bool.true_or, Bool.or_false, Bool.false_or, Bool.not_true, Bool.not_false, cond_true, cond_false]
        exact g
theorem run : ∀ args H v new, R args H = some (true, v, new) → ∃ fuel, runFn Try.prog (orc [⟨56, reduced.R⟩, ⟨40, within.R⟩, ⟨52, gA.R⟩]) hd dr none fuel (bodyOf Try.f55) 91 [] args H = some (v, new) := by
  intro args H v new h
  unfold R at h
  split at h
  · rename_i a b r c xs mx ys my w v q p
    simp only [Option.some.injEq, Prod.mk.injEq, decide_eq_true_eq, Bool.and_eq_true] at h
    obtain ⟨⟨⟨rfl, rfl, rfl, c1, c6, hl, a0, a1, b0, b1, p0, p1, q0, q1, v0, v1, w0, w1⟩, hs⟩, rfl, rfl⟩ := h
    obtain ⟨c, rfl⟩ : ∃ k : Nat, c = k := ⟨c.toNat, by omega⟩
    obtain ⟨F, hF⟩ : ∃ F : Nat, F = 100 := ⟨100, rfl⟩
    refine ⟨F, ?_⟩
    rw [start, Int.toNat_natCast]
    unfold trv.w.sv trv.v.sv trv.q.sv trv.p.sv trv.s
    by_cases e0 : b = 0
    · have e0' : (b != 0) = false := by simp [e0]
      have ho : trv.ok.sp a b = false := by unfold trv.ok.sp; rw [e0', Bool.false_and]
      rw [ho, cond_false]
      simp -implicitDefEqProofs (disch := omega) only [e0', take_one, set_one, decide_eq_true, decide_eq_false, IntWalk.i64_in, beqT, beqF, bneT, bneF, nat_succ, ← Int.natCast_mul, ← Int.natCast_add, Int.toNat_natCast, Int.zero_mul, Int.zero_add, Int.add_zero, Nat.zero_add, Nat.add_zero, Nat.zero_mul, List.length_singleton, List.length_append, List.length_nil, List.length_cons, List.take_length, List.drop_zero, List.replicate_zero, List.take_nil, List.nil_append, Nat.reduceBEq, Nat.reduceMul, Nat.reduceLeDiff, eq_self, and_self, true_and, and_true, decide_true, decide_false, Bool.and_self, Bool.or_self, Bool.and_true, Bool.true_and, Bool.and_false, Bool.false_and, Bool.or_true, Bool.true_or, Bool.or_false, Bool.false_or, Bool.not_true, Bool.not_false, cond_true, cond_false]
    · have e0' : (b != 0) = true := by simp [e0]
      obtain ⟨t, _, _, _, g3, g4, g5⟩ := trv.rd_spec (a := a) e0
      by_cases e1 : 0 ≤ rd.p.sv a b
      · by_cases e2 : rd.p.sv a b ≤ rd.q.sv a b
        · have g := loop c xs ys (rd.p.sv a b) (rd.q.sv a b) w v q p F _ ⟨by omega, by omega⟩ (by omega) hs ⟨e1, e2⟩ (by omega) ⟨p0, p1, q0, q1, v0, v1, w0, w1⟩ rfl c 0 F (by omega) (by omega)
          rw [trv.ls.sv] at g
          have ho : trv.ok.sp a b = true := by unfold trv.ok.sp; rw [e0', decide_eq_true e1, decide_eq_true e2, Bool.and_self, Bool.and_self]
          rw [ho, cond_true]
          simp -implicitDefEqProofs (disch := omega) only [e0', take_one, set_one, decide_eq_true, decide_eq_false, IntWalk.i64_in, beqT, beqF, bneT, bneF, nat_succ, ← Int.natCast_mul, ← Int.natCast_add, Int.toNat_natCast, Int.zero_mul, Int.zero_add, Int.add_zero, Nat.zero_add, Nat.add_zero, Nat.zero_mul, List.length_singleton, List.length_append, List.length_nil, List.length_cons, List.take_length, List.drop_zero, List.replicate_zero, List.take_nil, List.nil_append, Nat.reduceBEq, Nat.reduceMul, Nat.reduceLeDiff, eq_self, and_self, true_and, and_true, decide_true, decide_false, Bool.and_self, Bool.or_self, Bool.and_true, Bool.true_and, Bool.and_false, Bool.false_and, Bool.or_true, Bool.true_or, Bool.or_false, Bool.false_or, Bool.not_true, Bool.not_false, cond_true, cond_false]
          exact g
        · have ho : trv.ok.sp a b = false := by unfold trv.ok.sp; rw [decide_eq_false e2, Bool.and_false, Bool.and_false]
          rw [ho, cond_false]
          simp -implicitDefEqProofs (disch := omega) only [e0', take_one, set_one, decide_eq_true, decide_eq_false, IntWalk.i64_in, beqT, beqF, bneT, bneF, nat_succ, ← Int.natCast_mul, ← Int.natCast_add, Int.toNat_natCast, Int.zero_mul, Int.zero_add, Int.add_zero, Nat.zero_add, Nat.add_zero, Nat.zero_mul, List.length_singleton, List.length_append, List.length_nil, List.length_cons, List.take_length, List.drop_zero, List.replicate_zero, List.take_nil, List.nil_append, Nat.reduceBEq, Nat.reduceMul, Nat.reduceLeDiff, eq_self, and_self, true_and, and_true, decide_true, decide_false, Bool.and_self, Bool.or_self, Bool.and_true, Bool.true_and, Bool.and_false, Bool.false_and, Bool.or_true, Bool.true_or, Bool.or_false, Bool.false_or, Bool.not_true, Bool.not_false, cond_true, cond_false]
      · have ho : trv.ok.sp a b = false := by unfold trv.ok.sp; rw [decide_eq_false e1, Bool.false_and, Bool.and_false]
        rw [ho, cond_false]
        simp -implicitDefEqProofs (disch := omega) only [e0', take_one, set_one, decide_eq_true, decide_eq_false, IntWalk.i64_in, beqT, beqF, bneT, bneF, nat_succ, ← Int.natCast_mul, ← Int.natCast_add, Int.toNat_natCast, Int.zero_mul, Int.zero_add, Int.add_zero, Nat.zero_add, Nat.add_zero, Nat.zero_mul, List.length_singleton, List.length_append, List.length_nil, List.length_cons, List.take_length, List.drop_zero, List.replicate_zero, List.take_nil, List.nil_append, Nat.reduceBEq, Nat.reduceMul, Nat.reduceLeDiff, eq_self, and_self, true_and, and_true, decide_true, decide_false, Bool.and_self, Bool.or_self, Bool.and_true, Bool.true_and, Bool.and_false, Bool.false_and, Bool.or_true, Bool.true_or, Bool.or_false, Bool.false_or, Bool.not_true, Bool.not_false, cond_true, cond_false]
  · cases h
theorem ok : EntWOk Try.prog ⟨55, R⟩ :=
  entw_ok mixed (A := (orc [⟨56, reduced.R⟩, ⟨40, within.R⟩, ⟨52, gA.R⟩])) (orc_ok (by simp only [List.mem_cons, List.not_mem_nil, or_false, forall_eq_or_imp, forall_eq]; exact ⟨reduced.ok, within.ok, gA.ok⟩)) Try.func55 (by kernel_rfl) (by kernel_rfl) (n := 91) (ts := []) (hd := hd) (dr := dr) (cut := none) (by kernel_rfl) (by kernel_rfl) (by kernel_rfl) run
end tryRow


namespace trv
/-- The lines of two columns cross at n of d. -/
def N (c : Nat) (xs : List Int) (k l : Nat) : Int := gz xs (c + l) - gz xs (c + k)
def D (c : Nat) (xs : List Int) (k l : Nat) : Int := gz xs k - gz xs (c + k) - gz xs l + gz xs (c + l)
def z0 (c : Nat) (xs : List Int) : Q4 := s c xs 1 1 (s c xs 0 1 ⟨0, 0, 0, 0⟩)
def il (c : Nat) (xs : List Int) (k : Nat) : Nat → Q4 → Q4
  | 0, z => z
  | l + 1, z => s c xs (N c xs k l) (D c xs k l) (il c xs k l z)
def ol (c : Nat) (xs : List Int) : Nat → Q4
  | 0 => z0 c xs
  | k + 1 => il c xs k k (ol c xs k)
theorem A_in {c : Nat} {xs : List Int} (hl : xs.length = 2 * c) (hs : sml.sp xs = true) {k : Nat} (hk : k < 2 * c) : -10 ≤ gz xs k ∧ gz xs k ≤ 10 := by
  simp only [sml.sp, List.all_eq_true, Bool.and_eq_true, decide_eq_true_eq] at hs
  exact hs _ (gz_mem (l := xs) (j := k) (by omega))
theorem il_sm {c : Nat} {xs : List Int} (hl : xs.length = 2 * c) (hs : sml.sp xs = true) {k : Nat} (hk : k < c) : ∀ (l : Nat) {z : Q4}, l ≤ k → Sm z → Sm (il c xs k l z)
  | 0, _, _, h => h
  | l + 1, z, hlk, h => by
    have a1 := A_in hl hs (k := k) (by omega)
    have a2 := A_in hl hs (k := c + k) (by omega)
    have a3 := A_in hl hs (k := l) (by omega)
    have a4 := A_in hl hs (k := c + l) (by omega)
    exact s_sm hl hs (by unfold N; omega) (by unfold D; omega) (il_sm hl hs hk l (by omega) h)
theorem z0_sm {c : Nat} {xs : List Int} (hl : xs.length = 2 * c) (hs : sml.sp xs = true) : Sm (z0 c xs) :=
  s_sm hl hs (by omega) (by omega) (s_sm hl hs (by omega) (by omega) ⟨by decide, by decide, by decide, by decide, by decide, by decide, by decide, by decide⟩)
theorem ol_sm {c : Nat} {xs : List Int} (hl : xs.length = 2 * c) (hs : sml.sp xs = true) : ∀ k, k ≤ c → Sm (ol c xs k)
  | 0, _ => z0_sm hl hs
  | k + 1, h => il_sm hl hs (by omega) k (Nat.le_refl _) (ol_sm hl hs k (by omega))
end trv

namespace iTwoRowValue
def dr : Nat → Dr := fun i => bif eqN i 13 then ⟨some [995, 52, 0, 1, 2, 4, 5, 8, 9, 11, 12, 15, 16, 19, 20, 3, 6, 7, 10, 13, 14, 17, 18, 21, 22, 23], true⟩ else bif eqN i 13 then ⟨some [0, 1, 2, 4, 5, 8, 9, 11, 12, 15, 16, 19, 20, 3, 6, 7, 10, 13, 14, 17, 18, 21, 22, 23], false⟩ else ⟨none, false⟩
def R : List AVal → Option (Bool × AVal × List Blk)
  | [.agg [.int .i64 r, .int .i64 c, .ro (.ints .i64 xs) ma 1, .ro (.ints .i64 ys) mb 1]] => some (decide (ma = xs.length ∧ mb = ys.length ∧ r = 2 ∧ 1 ≤ c ∧ c ≤ 6 ∧ (xs.length : Int) = 2 * c ∧ ys.length ≤ 4611686018427387904) && (trv.sml.sp xs && gm.sp r c xs ys), .tup [.int .i64 (trv.ol c.toNat xs c.toNat).p, .int .i64 (trv.ol c.toNat xs c.toNat).q, .int .i64 (trv.ol c.toNat xs c.toNat).v, .int .i64 (trv.ol c.toNat xs c.toNat).w, .bool true], [])
  | _ => none
def hd : Nat → Head := fun i => bif eqN i 0 then ⟨[998, 1, 7, 8, 9, 10, 11, 28, 29], none⟩ else ⟨[998, 1, 7, 8, 9, 10, 11, 12, 28, 29, 32, 33], none⟩
noncomputable def L0 (f n : Nat) (s : State) := loopAt Try.prog (orcW [⟨55, tryRow.R⟩] [⟨43, iValidGame.R⟩, ⟨52, gA.R⟩]) hd dr 0 f (bodyOf Try.f20) 0 [true, true, true, true, true, true, false, true] (retK Try.prog [2, 3, 4, 5, 6] 0 none) n s
noncomputable def L2 (f n n2 : Nat) (s : State) := loopAt Try.prog (orcW [⟨55, tryRow.R⟩] [⟨43, iValidGame.R⟩, ⟨52, gA.R⟩]) hd dr 0 f (bodyAt (bodyOf Try.f20) [true, true, true, true, true, true, false, true]) (curAt (bodyOf Try.f20) 0 [true, true, true, true, true, true, false, true]) [true, true, false, true, true] (iterK (normE 0 (hd (curAt (bodyOf Try.f20) 0 [true, true, true, true, true, true, false, true]))) (L0 f n) (contAt Try.prog (orcW [⟨55, tryRow.R⟩] [⟨43, iValidGame.R⟩, ⟨52, gA.R⟩]) hd dr 0 f (bodyOf Try.f20) 0 [true, true, true, true, true, true, false, true] (retK Try.prog [2, 3, 4, 5, 6] 0 none))) n2 s
theorem start (c : Nat) (xs ys : List Int) (f : Nat) :
  runFn Try.prog (orcW [⟨55, tryRow.R⟩] [⟨43, iValidGame.R⟩, ⟨52, gA.R⟩]) hd dr none f (bodyOf Try.f20) 66 [2, 3, 4, 5, 6] [.agg [.int .i64 2, .int .i64 ((c : Nat) : Int), .ro (.ints .i64 xs) xs.length 1, .ro (.ints .i64 ys) ys.length 1]] []
  = (bif true && true && (true && true && (true && true && (true && true && true))) then bif decide (xs.length = xs.length ∧ ys.length = ys.length ∧ xs.length ≤ (4611686018427387904 : Nat) ∧ ys.length ≤ (4611686018427387904 : Nat)) && (true && (true && (true && (true && true))) && true || true && true) then bif !gm.sp (2 : Int) (↑c : Int) xs ys then some (AVal.tup [AVal.int IntKind.i64 (0 : Int), AVal.int IntKind.i64 (0 : Int), AVal.int IntKind.i64 (0 : Int), AVal.int IntKind.i64 (0 : Int), AVal.bool false], [{ c := BC.cells [AVal.int IntKind.i64 (2 : Int), AVal.int IntKind.i64 (↑c : Int), AVal.ro (Cont.ints IntKind.i64 xs) xs.length (1 : Nat), AVal.ro (Cont.ints IntKind.i64 ys) ys.length (1 : Nat)], ver := (0 : Nat) }]) else bif true && true then bif decide (xs.length = xs.length ∧ ys.length = ys.length ∧ (2 : Int) = (2 : Int) ∧ (1 : Int) ≤ (↑c : Int) ∧ (↑c : Int) ≤ (6 : Int) ∧ (↑xs.length : Int) = (2 : Int) * (↑c : Int) ∧ (-100 : Int) ≤ (0 : Int) ∧ (0 : Int) ≤ (100 : Int) ∧ (-100 : Int) ≤ (1 : Int) ∧ (1 : Int) ≤ (100 : Int) ∧ (0 : Int) ≤ (0 : Int) ∧ (0 : Int) ≤ (100 : Int) ∧ (0 : Int) ≤ (0 : Int) ∧ (0 : Int) ≤ (100 : Int) ∧ (-2000 : Int) ≤ (0 : Int) ∧ (0 : Int) ≤ (2000 : Int) ∧ (0 : Int) ≤ (0 : Int) ∧ (0 : Int) ≤ (100 : Int)) && trv.sml.sp xs && (true && (true && true)) then bif decide (xs.length = xs.length ∧ ys.length = ys.length ∧ (2 : Int) = (2 : Int) ∧ (1 : Int) ≤ (↑c : Int) ∧ (↑c : Int) ≤ (6 : Int) ∧ (↑xs.length : Int) = (2 : Int) * (↑c : Int) ∧ (-100 : Int) ≤ (1 : Int) ∧ (1 : Int) ≤ (100 : Int) ∧ (-100 : Int) ≤ (1 : Int) ∧ (1 : Int) ≤ (100 : Int) ∧ (0 : Int) ≤ trv.p.sv (↑c : Int).toNat xs (0 : Int) (1 : Int) (0 : Int) (0 : Int) (0 : Int) (0 : Int) ∧ trv.p.sv (↑c : Int).toNat xs (0 : Int) (1 : Int) (0 : Int) (0 : Int) (0 : Int) (0 : Int) ≤ (100 : Int) ∧ (0 : Int) ≤ trv.q.sv (↑c : Int).toNat xs (0 : Int) (1 : Int) (0 : Int) (0 : Int) (0 : Int) (0 : Int) ∧ trv.q.sv (↑c : Int).toNat xs (0 : Int) (1 : Int) (0 : Int) (0 : Int) (0 : Int) (0 : Int) ≤ (100 : Int) ∧ (-2000 : Int) ≤ trv.v.sv (↑c : Int).toNat xs (0 : Int) (1 : Int) (0 : Int) (0 : Int) (0 : Int) (0 : Int) ∧ trv.v.sv (↑c : Int).toNat xs (0 : Int) (1 : Int) (0 : Int) (0 : Int) (0 : Int) (0 : Int) ≤ (2000 : Int) ∧ (0 : Int) ≤ trv.w.sv (↑c : Int).toNat xs (0 : Int) (1 : Int) (0 : Int) (0 : Int) (0 : Int) (0 : Int) ∧ trv.w.sv (↑c : Int).toNat xs (0 : Int) (1 : Int) (0 : Int) (0 : Int) (0 : Int) (0 : Int) ≤ (100 : Int)) && trv.sml.sp xs && (true && (true && (true && (true && (true && (true && true)))))) then bif true && true then L0 f f (mkS (66 : Nat) [((1 : Nat), AVal.ptr (0 : Nat) (0 : Nat) (0 : Nat)), ((7 : Nat), AVal.ptr (1 : Nat) (0 : Nat) (0 : Nat)), ((8 : Nat), AVal.ptr (2 : Nat) (0 : Nat) (0 : Nat)), ((9 : Nat), AVal.ptr (3 : Nat) (0 : Nat) (0 : Nat)), ((10 : Nat), AVal.ptr (4 : Nat) (0 : Nat) (0 : Nat)), ((11 : Nat), AVal.fn (55 : Nat) [AVal.ptr (0 : Nat) (0 : Nat) (0 : Nat), AVal.ptr (4 : Nat) (0 : Nat) (0 : Nat), AVal.ptr (3 : Nat) (0 : Nat) (0 : Nat), AVal.ptr (2 : Nat) (0 : Nat) (0 : Nat), AVal.ptr (1 : Nat) (0 : Nat) (0 : Nat)]), ((28 : Nat), AVal.int IntKind.i64 (↑c : Int)), ((29 : Nat), AVal.int IntKind.i64 (0 : Int))] [{ c := BC.cells [AVal.int IntKind.i64 (2 : Int), AVal.int IntKind.i64 (↑c : Int), AVal.ro (Cont.ints IntKind.i64 xs) xs.length (1 : Nat), AVal.ro (Cont.ints IntKind.i64 ys) ys.length (1 : Nat)], ver := (0 : Nat) }, { c := BC.cells [AVal.int IntKind.i64 (trv.p.sv (↑c : Int).toNat xs (1 : Int) (1 : Int) (trv.p.sv (↑c : Int).toNat xs (0 : Int) (1 : Int) (0 : Int) (0 : Int) (0 : Int) (0 : Int)) (trv.q.sv (↑c : Int).toNat xs (0 : Int) (1 : Int) (0 : Int) (0 : Int) (0 : Int) (0 : Int)) (trv.v.sv (↑c : Int).toNat xs (0 : Int) (1 : Int) (0 : Int) (0 : Int) (0 : Int) (0 : Int)) (trv.w.sv (↑c : Int).toNat xs (0 : Int) (1 : Int) (0 : Int) (0 : Int) (0 : Int) (0 : Int)))], ver := (0 : Nat) }, { c := BC.cells [AVal.int IntKind.i64 (trv.q.sv (↑c : Int).toNat xs (1 : Int) (1 : Int) (trv.p.sv (↑c : Int).toNat xs (0 : Int) (1 : Int) (0 : Int) (0 : Int) (0 : Int) (0 : Int)) (trv.q.sv (↑c : Int).toNat xs (0 : Int) (1 : Int) (0 : Int) (0 : Int) (0 : Int) (0 : Int)) (trv.v.sv (↑c : Int).toNat xs (0 : Int) (1 : Int) (0 : Int) (0 : Int) (0 : Int) (0 : Int)) (trv.w.sv (↑c : Int).toNat xs (0 : Int) (1 : Int) (0 : Int) (0 : Int) (0 : Int) (0 : Int)))], ver := (0 : Nat) }, { c := BC.cells [AVal.int IntKind.i64 (trv.v.sv (↑c : Int).toNat xs (1 : Int) (1 : Int) (trv.p.sv (↑c : Int).toNat xs (0 : Int) (1 : Int) (0 : Int) (0 : Int) (0 : Int) (0 : Int)) (trv.q.sv (↑c : Int).toNat xs (0 : Int) (1 : Int) (0 : Int) (0 : Int) (0 : Int) (0 : Int)) (trv.v.sv (↑c : Int).toNat xs (0 : Int) (1 : Int) (0 : Int) (0 : Int) (0 : Int) (0 : Int)) (trv.w.sv (↑c : Int).toNat xs (0 : Int) (1 : Int) (0 : Int) (0 : Int) (0 : Int) (0 : Int)))], ver := (0 : Nat) }, { c := BC.cells [AVal.int IntKind.i64 (trv.w.sv (↑c : Int).toNat xs (1 : Int) (1 : Int) (trv.p.sv (↑c : Int).toNat xs (0 : Int) (1 : Int) (0 : Int) (0 : Int) (0 : Int) (0 : Int)) (trv.q.sv (↑c : Int).toNat xs (0 : Int) (1 : Int) (0 : Int) (0 : Int) (0 : Int) (0 : Int)) (trv.v.sv (↑c : Int).toNat xs (0 : Int) (1 : Int) (0 : Int) (0 : Int) (0 : Int) (0 : Int)) (trv.w.sv (↑c : Int).toNat xs (0 : Int) (1 : Int) (0 : Int) (0 : Int) (0 : Int) (0 : Int)))], ver := (0 : Nat) }]) else none else none else none else none else none else none) := by kernel_rfl
theorem round0 (c : Nat) (xs ys : List Int) (N k p q v w : Int) (f n : Nat) :
  L0 f (n + 1) (mkS 66 [(1, .ptr 0 0 0), (7, .ptr 1 0 0), (8, .ptr 2 0 0), (9, .ptr 3 0 0), (10, .ptr 4 0 0), (11, .fn 55 [.ptr 0 0 0, .ptr 4 0 0, .ptr 3 0 0, .ptr 2 0 0, .ptr 1 0 0]), (28, .int .i64 N), (29, .int .i64 k)] [⟨.cells [.int .i64 2, .int .i64 ((c : Nat) : Int), .ro (.ints .i64 xs) xs.length 1, .ro (.ints .i64 ys) ys.length 1], 0⟩, ⟨.cells [.int .i64 p], 0⟩, ⟨.cells [.int .i64 q], 0⟩, ⟨.cells [.int .i64 v], 0⟩, ⟨.cells [.int .i64 w], 0⟩])
  = (bif decide (k < N) then L2 f n f (mkS (66 : Nat) [((1 : Nat), AVal.ptr (0 : Nat) (0 : Nat) (0 : Nat)), ((7 : Nat), AVal.ptr (1 : Nat) (0 : Nat) (0 : Nat)), ((8 : Nat), AVal.ptr (2 : Nat) (0 : Nat) (0 : Nat)), ((9 : Nat), AVal.ptr (3 : Nat) (0 : Nat) (0 : Nat)), ((10 : Nat), AVal.ptr (4 : Nat) (0 : Nat) (0 : Nat)), ((11 : Nat), AVal.fn (55 : Nat) [AVal.ptr (0 : Nat) (0 : Nat) (0 : Nat), AVal.ptr (4 : Nat) (0 : Nat) (0 : Nat), AVal.ptr (3 : Nat) (0 : Nat) (0 : Nat), AVal.ptr (2 : Nat) (0 : Nat) (0 : Nat), AVal.ptr (1 : Nat) (0 : Nat) (0 : Nat)]), ((12 : Nat), AVal.int IntKind.i64 k), ((28 : Nat), AVal.int IntKind.i64 N), ((29 : Nat), AVal.int IntKind.i64 k), ((32 : Nat), AVal.int IntKind.i64 k), ((33 : Nat), AVal.int IntKind.i64 (0 : Int))] [{ c := BC.cells [AVal.int IntKind.i64 (2 : Int), AVal.int IntKind.i64 (↑c : Int), AVal.ro (Cont.ints IntKind.i64 xs) xs.length (1 : Nat), AVal.ro (Cont.ints IntKind.i64 ys) ys.length (1 : Nat)], ver := (0 : Nat) }, { c := BC.cells [AVal.int IntKind.i64 p], ver := (0 : Nat) }, { c := BC.cells [AVal.int IntKind.i64 q], ver := (0 : Nat) }, { c := BC.cells [AVal.int IntKind.i64 v], ver := (0 : Nat) }, { c := BC.cells [AVal.int IntKind.i64 w], ver := (0 : Nat) }]) else bif true && true then bif true && true then bif true && true then bif true && true then some (AVal.tup [AVal.int IntKind.i64 p, AVal.int IntKind.i64 q, AVal.int IntKind.i64 v, AVal.int IntKind.i64 w, AVal.bool true], [{ c := BC.cells [AVal.int IntKind.i64 (2 : Int), AVal.int IntKind.i64 (↑c : Int), AVal.ro (Cont.ints IntKind.i64 xs) xs.length (1 : Nat), AVal.ro (Cont.ints IntKind.i64 ys) ys.length (1 : Nat)], ver := (0 : Nat) }, { c := BC.cells [AVal.int IntKind.i64 p], ver := (0 : Nat) }, { c := BC.cells [AVal.int IntKind.i64 q], ver := (0 : Nat) }, { c := BC.cells [AVal.int IntKind.i64 v], ver := (0 : Nat) }, { c := BC.cells [AVal.int IntKind.i64 w], ver := (0 : Nat) }]) else none else none else none else none) := by kernel_rfl
theorem round2 (c : Nat) (xs ys : List Int) (N k m l p q v w : Int) (f n n2 : Nat) :
  L2 f n (n2 + 1) (mkS 66 [(1, .ptr 0 0 0), (7, .ptr 1 0 0), (8, .ptr 2 0 0), (9, .ptr 3 0 0), (10, .ptr 4 0 0), (11, .fn 55 [.ptr 0 0 0, .ptr 4 0 0, .ptr 3 0 0, .ptr 2 0 0, .ptr 1 0 0]), (12, .int .i64 k), (28, .int .i64 N), (29, .int .i64 k), (32, .int .i64 m), (33, .int .i64 l)] [⟨.cells [.int .i64 2, .int .i64 ((c : Nat) : Int), .ro (.ints .i64 xs) xs.length 1, .ro (.ints .i64 ys) ys.length 1], 0⟩, ⟨.cells [.int .i64 p], 0⟩, ⟨.cells [.int .i64 q], 0⟩, ⟨.cells [.int .i64 v], 0⟩, ⟨.cells [.int .i64 w], 0⟩])
  = (bif decide (l < m) then bif true && true && (true && true && (true && true && (true && true && true))) then bif true && true && (true && true && (true && true && (true && true && true))) then bif true && true && (true && true && (true && true && (true && true && true))) then bif true && true && (true && true && (true && true && (true && true && true))) then bif true && true && (true && true && (true && true && (true && true && true))) then bif true && true && (true && true && (true && true && (true && true && true))) then bif decide (xs.length = xs.length ∧ ys.length = ys.length ∧ (0 : Int) ≤ (1 : Int) ∧ (0 : Int) ≤ l ∧ (1 : Int) ≤ (100 : Int) ∧ l ≤ (100 : Int) ∧ (0 : Int) ≤ (↑c : Int) ∧ (↑c : Int) ≤ (100 : Int) ∧ (1 : Int) * (↑c : Int) + l < (↑xs.length : Int)) && (true && (true && (true && (true && true))) && (true && (true && true)) || true && true) then bif decide (xs.length = xs.length ∧ ys.length = ys.length ∧ (0 : Int) ≤ (1 : Int) ∧ (0 : Int) ≤ k ∧ (1 : Int) ≤ (100 : Int) ∧ k ≤ (100 : Int) ∧ (0 : Int) ≤ (↑c : Int) ∧ (↑c : Int) ≤ (100 : Int) ∧ (1 : Int) * (↑c : Int) + k < (↑xs.length : Int)) && (true && (true && (true && (true && true))) && (true && (true && true)) || true && true) then bif decide (xs.length = xs.length ∧ ys.length = ys.length ∧ (0 : Int) ≤ (0 : Int) ∧ (0 : Int) ≤ k ∧ (0 : Int) ≤ (100 : Int) ∧ k ≤ (100 : Int) ∧ (0 : Int) ≤ (↑c : Int) ∧ (↑c : Int) ≤ (100 : Int) ∧ (0 : Int) * (↑c : Int) + k < (↑xs.length : Int)) && (true && (true && (true && (true && true))) && (true && (true && true)) || true && true) then bif decide (xs.length = xs.length ∧ ys.length = ys.length ∧ (0 : Int) ≤ (1 : Int) ∧ (0 : Int) ≤ k ∧ (1 : Int) ≤ (100 : Int) ∧ k ≤ (100 : Int) ∧ (0 : Int) ≤ (↑c : Int) ∧ (↑c : Int) ≤ (100 : Int) ∧ (1 : Int) * (↑c : Int) + k < (↑xs.length : Int)) && (true && (true && (true && (true && true))) && (true && (true && true)) || true && true) then bif decide (xs.length = xs.length ∧ ys.length = ys.length ∧ (0 : Int) ≤ (0 : Int) ∧ (0 : Int) ≤ l ∧ (0 : Int) ≤ (100 : Int) ∧ l ≤ (100 : Int) ∧ (0 : Int) ≤ (↑c : Int) ∧ (↑c : Int) ≤ (100 : Int) ∧ (0 : Int) * (↑c : Int) + l < (↑xs.length : Int)) && (true && (true && (true && (true && true))) && (true && (true && true)) || true && true) then bif decide (xs.length = xs.length ∧ ys.length = ys.length ∧ (0 : Int) ≤ (1 : Int) ∧ (0 : Int) ≤ l ∧ (1 : Int) ≤ (100 : Int) ∧ l ≤ (100 : Int) ∧ (0 : Int) ≤ (↑c : Int) ∧ (↑c : Int) ≤ (100 : Int) ∧ (1 : Int) * (↑c : Int) + l < (↑xs.length : Int)) && (true && (true && (true && (true && true))) && (true && (true && true)) || true && true) then bif decide (xs.length = xs.length ∧ ys.length = ys.length ∧ (2 : Int) = (2 : Int) ∧ (1 : Int) ≤ (↑c : Int) ∧ (↑c : Int) ≤ (6 : Int) ∧ (↑xs.length : Int) = (2 : Int) * (↑c : Int) ∧ (-100 : Int) ≤ IntKind.i64.wrap (gz xs ((1 : Int) * (↑c : Int) + l).toNat - gz xs ((1 : Int) * (↑c : Int) + k).toNat) ∧ IntKind.i64.wrap (gz xs ((1 : Int) * (↑c : Int) + l).toNat - gz xs ((1 : Int) * (↑c : Int) + k).toNat) ≤ (100 : Int) ∧ (-100 : Int) ≤ IntKind.i64.wrap (IntKind.i64.wrap (IntKind.i64.wrap (gz xs ((0 : Int) * (↑c : Int) + k).toNat - gz xs ((1 : Int) * (↑c : Int) + k).toNat) - gz xs ((0 : Int) * (↑c : Int) + l).toNat) + gz xs ((1 : Int) * (↑c : Int) + l).toNat) ∧ IntKind.i64.wrap (IntKind.i64.wrap (IntKind.i64.wrap (gz xs ((0 : Int) * (↑c : Int) + k).toNat - gz xs ((1 : Int) * (↑c : Int) + k).toNat) - gz xs ((0 : Int) * (↑c : Int) + l).toNat) + gz xs ((1 : Int) * (↑c : Int) + l).toNat) ≤ (100 : Int) ∧ (0 : Int) ≤ p ∧ p ≤ (100 : Int) ∧ (0 : Int) ≤ q ∧ q ≤ (100 : Int) ∧ (-2000 : Int) ≤ v ∧ v ≤ (2000 : Int) ∧ (0 : Int) ≤ w ∧ w ≤ (100 : Int)) && trv.sml.sp xs && (true && (true && (true && (true && (true && (true && true)))))) then L2 f n n2 (mkS (66 : Nat) [((1 : Nat), AVal.ptr (0 : Nat) (0 : Nat) (0 : Nat)), ((7 : Nat), AVal.ptr (1 : Nat) (0 : Nat) (0 : Nat)), ((8 : Nat), AVal.ptr (2 : Nat) (0 : Nat) (0 : Nat)), ((9 : Nat), AVal.ptr (3 : Nat) (0 : Nat) (0 : Nat)), ((10 : Nat), AVal.ptr (4 : Nat) (0 : Nat) (0 : Nat)), ((11 : Nat), AVal.fn (55 : Nat) [AVal.ptr (0 : Nat) (0 : Nat) (0 : Nat), AVal.ptr (4 : Nat) (0 : Nat) (0 : Nat), AVal.ptr (3 : Nat) (0 : Nat) (0 : Nat), AVal.ptr (2 : Nat) (0 : Nat) (0 : Nat), AVal.ptr (1 : Nat) (0 : Nat) (0 : Nat)]), ((12 : Nat), AVal.int IntKind.i64 k), ((28 : Nat), AVal.int IntKind.i64 N), ((29 : Nat), AVal.int IntKind.i64 k), ((32 : Nat), AVal.int IntKind.i64 m), ((33 : Nat), AVal.int IntKind.i64 (IntKind.i64.wrap (l + (1 : Int))))] [{ c := BC.cells [AVal.int IntKind.i64 (2 : Int), AVal.int IntKind.i64 (↑c : Int), AVal.ro (Cont.ints IntKind.i64 xs) xs.length (1 : Nat), AVal.ro (Cont.ints IntKind.i64 ys) ys.length (1 : Nat)], ver := (0 : Nat) }, { c := BC.cells [AVal.int IntKind.i64 (trv.p.sv (↑c : Int).toNat xs (IntKind.i64.wrap (gz xs ((1 : Int) * (↑c : Int) + l).toNat - gz xs ((1 : Int) * (↑c : Int) + k).toNat)) (IntKind.i64.wrap (IntKind.i64.wrap (IntKind.i64.wrap (gz xs ((0 : Int) * (↑c : Int) + k).toNat - gz xs ((1 : Int) * (↑c : Int) + k).toNat) - gz xs ((0 : Int) * (↑c : Int) + l).toNat) + gz xs ((1 : Int) * (↑c : Int) + l).toNat)) p q v w)], ver := (0 : Nat) }, { c := BC.cells [AVal.int IntKind.i64 (trv.q.sv (↑c : Int).toNat xs (IntKind.i64.wrap (gz xs ((1 : Int) * (↑c : Int) + l).toNat - gz xs ((1 : Int) * (↑c : Int) + k).toNat)) (IntKind.i64.wrap (IntKind.i64.wrap (IntKind.i64.wrap (gz xs ((0 : Int) * (↑c : Int) + k).toNat - gz xs ((1 : Int) * (↑c : Int) + k).toNat) - gz xs ((0 : Int) * (↑c : Int) + l).toNat) + gz xs ((1 : Int) * (↑c : Int) + l).toNat)) p q v w)], ver := (0 : Nat) }, { c := BC.cells [AVal.int IntKind.i64 (trv.v.sv (↑c : Int).toNat xs (IntKind.i64.wrap (gz xs ((1 : Int) * (↑c : Int) + l).toNat - gz xs ((1 : Int) * (↑c : Int) + k).toNat)) (IntKind.i64.wrap (IntKind.i64.wrap (IntKind.i64.wrap (gz xs ((0 : Int) * (↑c : Int) + k).toNat - gz xs ((1 : Int) * (↑c : Int) + k).toNat) - gz xs ((0 : Int) * (↑c : Int) + l).toNat) + gz xs ((1 : Int) * (↑c : Int) + l).toNat)) p q v w)], ver := (0 : Nat) }, { c := BC.cells [AVal.int IntKind.i64 (trv.w.sv (↑c : Int).toNat xs (IntKind.i64.wrap (gz xs ((1 : Int) * (↑c : Int) + l).toNat - gz xs ((1 : Int) * (↑c : Int) + k).toNat)) (IntKind.i64.wrap (IntKind.i64.wrap (IntKind.i64.wrap (gz xs ((0 : Int) * (↑c : Int) + k).toNat - gz xs ((1 : Int) * (↑c : Int) + k).toNat) - gz xs ((0 : Int) * (↑c : Int) + l).toNat) + gz xs ((1 : Int) * (↑c : Int) + l).toNat)) p q v w)], ver := (0 : Nat) }]) else none else none else none else none else none else none else none else none else none else none else none else none else none else L0 f n (mkS (66 : Nat) [((1 : Nat), AVal.ptr (0 : Nat) (0 : Nat) (0 : Nat)), ((7 : Nat), AVal.ptr (1 : Nat) (0 : Nat) (0 : Nat)), ((8 : Nat), AVal.ptr (2 : Nat) (0 : Nat) (0 : Nat)), ((9 : Nat), AVal.ptr (3 : Nat) (0 : Nat) (0 : Nat)), ((10 : Nat), AVal.ptr (4 : Nat) (0 : Nat) (0 : Nat)), ((11 : Nat), AVal.fn (55 : Nat) [AVal.ptr (0 : Nat) (0 : Nat) (0 : Nat), AVal.ptr (4 : Nat) (0 : Nat) (0 : Nat), AVal.ptr (3 : Nat) (0 : Nat) (0 : Nat), AVal.ptr (2 : Nat) (0 : Nat) (0 : Nat), AVal.ptr (1 : Nat) (0 : Nat) (0 : Nat)]), ((28 : Nat), AVal.int IntKind.i64 N), ((29 : Nat), AVal.int IntKind.i64 (IntKind.i64.wrap (k + (1 : Int))))] [{ c := BC.cells [AVal.int IntKind.i64 (2 : Int), AVal.int IntKind.i64 (↑c : Int), AVal.ro (Cont.ints IntKind.i64 xs) xs.length (1 : Nat), AVal.ro (Cont.ints IntKind.i64 ys) ys.length (1 : Nat)], ver := (0 : Nat) }, { c := BC.cells [AVal.int IntKind.i64 p], ver := (0 : Nat) }, { c := BC.cells [AVal.int IntKind.i64 q], ver := (0 : Nat) }, { c := BC.cells [AVal.int IntKind.i64 v], ver := (0 : Nat) }, { c := BC.cells [AVal.int IntKind.i64 w], ver := (0 : Nat) }])) := by kernel_rfl
theorem loop2 (c : Nat) (xs ys : List Int) (k : Nat) (z : trv.Q4) (f n : Nat) (hc : 1 ≤ c ∧ c ≤ 6) (hl : xs.length = 2 * c) (hs : trv.sml.sp xs = true) (hk0 : k < c) (hz : trv.Sm z) : ∀ (d l n2 : Nat), l + d = k → d < n2 →
    L2 f n n2 (mkS 66 [(1, .ptr 0 0 0), (7, .ptr 1 0 0), (8, .ptr 2 0 0), (9, .ptr 3 0 0), (10, .ptr 4 0 0), (11, .fn 55 [.ptr 0 0 0, .ptr 4 0 0, .ptr 3 0 0, .ptr 2 0 0, .ptr 1 0 0]), (12, .int .i64 ((k : Nat) : Int)), (28, .int .i64 ((c : Nat) : Int)), (29, .int .i64 ((k : Nat) : Int)), (32, .int .i64 ((k : Nat) : Int)), (33, .int .i64 ((l : Nat) : Int))] [⟨.cells [.int .i64 2, .int .i64 ((c : Nat) : Int), .ro (.ints .i64 xs) xs.length 1, .ro (.ints .i64 ys) ys.length 1], 0⟩, ⟨.cells [.int .i64 (trv.il c xs k l z).p], 0⟩, ⟨.cells [.int .i64 (trv.il c xs k l z).q], 0⟩, ⟨.cells [.int .i64 (trv.il c xs k l z).v], 0⟩, ⟨.cells [.int .i64 (trv.il c xs k l z).w], 0⟩]) = L0 f n (mkS 66 [(1, .ptr 0 0 0), (7, .ptr 1 0 0), (8, .ptr 2 0 0), (9, .ptr 3 0 0), (10, .ptr 4 0 0), (11, .fn 55 [.ptr 0 0 0, .ptr 4 0 0, .ptr 3 0 0, .ptr 2 0 0, .ptr 1 0 0]), (28, .int .i64 ((c : Nat) : Int)), (29, .int .i64 (((k + 1) : Nat) : Int))] [⟨.cells [.int .i64 2, .int .i64 ((c : Nat) : Int), .ro (.ints .i64 xs) xs.length 1, .ro (.ints .i64 ys) ys.length 1], 0⟩, ⟨.cells [.int .i64 (trv.il c xs k k z).p], 0⟩, ⟨.cells [.int .i64 (trv.il c xs k k z).q], 0⟩, ⟨.cells [.int .i64 (trv.il c xs k k z).v], 0⟩, ⟨.cells [.int .i64 (trv.il c xs k k z).w], 0⟩]) := by
  intro d
  induction d with
  | zero =>
    intro l n2 hk hn
    obtain ⟨n2, rfl⟩ : ∃ k, n2 = k + 1 := ⟨n2 - 1, by omega⟩
    obtain rfl : l = k := by omega
    rw [round2]
    simp -implicitDefEqProofs (disch := omega) only [take_one, set_one, decide_eq_true, decide_eq_false, IntWalk.i64_in, beqT, beqF, bneT, bneF, nat_succ, ← Int.natCast_mul, ← Int.natCast_add, Int.toNat_natCast, Int.zero_mul, Int.zero_add, Int.add_zero, Nat.zero_add, Nat.add_zero, Nat.zero_mul, List.length_singleton, List.length_append, List.length_nil, List.length_cons, List.take_length, List.drop_zero, List.replicate_zero, List.take_nil, List.nil_append, Nat.reduceBEq, Nat.reduceMul, Nat.reduceLeDiff, eq_self, and_self, true_and, and_true, decide_true, decide_false, Bool.and_self, Bool.or_self, Bool.and_true, Bool.true_and, Bool.and_false, Bool.false_and, Bool.or_true, Bool.true_or, Bool.or_false, Bool.false_or, Bool.not_true, Bool.not_false, cond_true, cond_false]
  | succ d ih =>
    intro l n2 hk hn
    obtain ⟨n2, rfl⟩ : ∃ k, n2 = k + 1 := ⟨n2 - 1, by omega⟩
    have g := ih (l + 1) n2 (by omega) (by omega)
    have a1 := trv.A_in hl hs (k := k) (by omega)
    have a2 := trv.A_in hl hs (k := c + k) (by omega)
    have a3 := trv.A_in hl hs (k := l) (by omega)
    have a4 := trv.A_in hl hs (k := c + l) (by omega)
    obtain ⟨p0, p1, q0, q1, v0, v1, w0, w1⟩ := trv.il_sm hl hs hk0 l (by omega) hz
    rw [trv.il] at g
    unfold trv.N trv.D at g
    generalize trv.il c xs k l z = y at *
    have z1 : (1 * ((c : Nat) : Int) + ((l : Nat) : Int)).toNat = c + l := by omega
    have z2 : (1 * ((c : Nat) : Int) + ((k : Nat) : Int)).toNat = c + k := by omega
    have z3 : (0 * ((c : Nat) : Int) + ((k : Nat) : Int)).toNat = k := by omega
    have z4 : (0 * ((c : Nat) : Int) + ((l : Nat) : Int)).toNat = l := by omega
    rw [round2]
    rw [z1, z2, z3, z4]
    have w1 : IntKind.i64.wrap (gz xs (c + l) - gz xs (c + k)) = gz xs (c + l) - gz xs (c + k) := IntWalk.i64_in _ (by omega)
    have w2 : IntKind.i64.wrap (gz xs k - gz xs (c + k)) = gz xs k - gz xs (c + k) := IntWalk.i64_in _ (by omega)
    have w3 : IntKind.i64.wrap (gz xs k - gz xs (c + k) - gz xs l) = gz xs k - gz xs (c + k) - gz xs l := IntWalk.i64_in _ (by omega)
    have w4 : IntKind.i64.wrap (gz xs k - gz xs (c + k) - gz xs l + gz xs (c + l)) = gz xs k - gz xs (c + k) - gz xs l + gz xs (c + l) := IntWalk.i64_in _ (by omega)
    rw [w1, w2, w3, w4]
    simp -implicitDefEqProofs (disch := omega) only [hs, take_one, set_one, decide_eq_true, decide_eq_false, IntWalk.i64_in, beqT, beqF, bneT, bneF, nat_succ, ← Int.natCast_mul, ← Int.natCast_add, Int.toNat_natCast, Int.zero_mul, Int.zero_add, Int.add_zero, Nat.zero_add, Nat.add_zero, Nat.zero_mul, List.length_singleton, List.length_append, List.length_nil, List.length_cons, List.take_length, List.drop_zero, List.replicate_zero, List.take_nil, List.nil_append, Nat.reduceBEq, Nat.reduceMul, Nat.reduceLeDiff, eq_self, and_self, true_and, and_true, decide_true, decide_false, Bool.and_self, Bool.or_self, Bool.and_true, Bool.true_and, Bool.and_false, Bool.false_and, Bool.or_true, Bool.true_or, Bool.or_false, Bool.false_or, Bool.not_true, Bool.not_false, cond_true, cond_false]
    exact g
theorem loop0 (c : Nat) (xs ys : List Int) (f : Nat) (hc : 1 ≤ c ∧ c ≤ 6) (hl : xs.length = 2 * c) (hs : trv.sml.sp xs = true) (hf : 6 < f) : ∀ (d k n : Nat), k + d = c → d < n →
    L0 f n (mkS 66 [(1, .ptr 0 0 0), (7, .ptr 1 0 0), (8, .ptr 2 0 0), (9, .ptr 3 0 0), (10, .ptr 4 0 0), (11, .fn 55 [.ptr 0 0 0, .ptr 4 0 0, .ptr 3 0 0, .ptr 2 0 0, .ptr 1 0 0]), (28, .int .i64 ((c : Nat) : Int)), (29, .int .i64 ((k : Nat) : Int))] [⟨.cells [.int .i64 2, .int .i64 ((c : Nat) : Int), .ro (.ints .i64 xs) xs.length 1, .ro (.ints .i64 ys) ys.length 1], 0⟩, ⟨.cells [.int .i64 (trv.ol c xs k).p], 0⟩, ⟨.cells [.int .i64 (trv.ol c xs k).q], 0⟩, ⟨.cells [.int .i64 (trv.ol c xs k).v], 0⟩, ⟨.cells [.int .i64 (trv.ol c xs k).w], 0⟩]) = some (.tup [.int .i64 (trv.ol c xs c).p, .int .i64 (trv.ol c xs c).q, .int .i64 (trv.ol c xs c).v, .int .i64 (trv.ol c xs c).w, .bool true], [⟨.cells [.int .i64 2, .int .i64 ((c : Nat) : Int), .ro (.ints .i64 xs) xs.length 1, .ro (.ints .i64 ys) ys.length 1], 0⟩, ⟨.cells [.int .i64 (trv.ol c xs c).p], 0⟩, ⟨.cells [.int .i64 (trv.ol c xs c).q], 0⟩, ⟨.cells [.int .i64 (trv.ol c xs c).v], 0⟩, ⟨.cells [.int .i64 (trv.ol c xs c).w], 0⟩]) := by
  intro d
  induction d with
  | zero =>
    intro k n hk hn
    obtain ⟨n, rfl⟩ : ∃ k, n = k + 1 := ⟨n - 1, by omega⟩
    obtain rfl : k = c := by omega
    rw [round0]
    simp -implicitDefEqProofs (disch := omega) only [take_one, set_one, decide_eq_true, decide_eq_false, IntWalk.i64_in, beqT, beqF, bneT, bneF, nat_succ, ← Int.natCast_mul, ← Int.natCast_add, Int.toNat_natCast, Int.zero_mul, Int.zero_add, Int.add_zero, Nat.zero_add, Nat.add_zero, Nat.zero_mul, List.length_singleton, List.length_append, List.length_nil, List.length_cons, List.take_length, List.drop_zero, List.replicate_zero, List.take_nil, List.nil_append, Nat.reduceBEq, Nat.reduceMul, Nat.reduceLeDiff, eq_self, and_self, true_and, and_true, decide_true, decide_false, Bool.and_self, Bool.or_self, Bool.and_true, Bool.true_and, Bool.and_false, Bool.false_and, Bool.or_true, Bool.true_or, Bool.or_false, Bool.false_or, Bool.not_true, Bool.not_false, cond_true, cond_false]
  | succ d ih =>
    intro k n hk hn
    obtain ⟨n, rfl⟩ : ∃ k, n = k + 1 := ⟨n - 1, by omega⟩
    have g := ih (k + 1) n (by omega) (by omega)
    have g2 := loop2 c xs ys k (trv.ol c xs k) f n hc hl hs (by omega) (trv.ol_sm hl hs k (by omega)) k 0 f (by omega) (by omega)
    rw [round0]
    simp -implicitDefEqProofs (disch := omega) only [take_one, set_one, decide_eq_true, decide_eq_false, IntWalk.i64_in, beqT, beqF, bneT, bneF, nat_succ, ← Int.natCast_mul, ← Int.natCast_add, Int.toNat_natCast, Int.zero_mul, Int.zero_add, Int.add_zero, Nat.zero_add, Nat.add_zero, Nat.zero_mul, List.length_singleton, List.length_append, List.length_nil, List.length_cons, List.take_length, List.drop_zero, List.replicate_zero, List.take_nil, List.nil_append, Nat.reduceBEq, Nat.reduceMul, Nat.reduceLeDiff, eq_self, and_self, true_and, and_true, decide_true, decide_false, Bool.and_self, Bool.or_self, Bool.and_true, Bool.true_and, Bool.and_false, Bool.false_and, Bool.or_true, Bool.true_or, Bool.or_false, Bool.false_or, Bool.not_true, Bool.not_false, cond_true, cond_false]
    exact g2.trans g
theorem run : ∀ args v new, R args = some (true, v, new) → ∃ fuel, regc [] (runFn Try.prog (orcW [⟨55, tryRow.R⟩] [⟨43, iValidGame.R⟩, ⟨52, gA.R⟩]) hd dr none fuel (bodyOf Try.f20) 66 [2, 3, 4, 5, 6] args []) = some (v, new) := by
  intro args v new h
  unfold R at h
  split at h
  · rename_i r c xs ma ys mb
    simp only [Option.some.injEq, Prod.mk.injEq, decide_eq_true_eq, Bool.and_eq_true] at h
    obtain ⟨⟨⟨rfl, rfl, rfl, c1, c6, hl, hy⟩, hs, hg⟩, rfl, rfl⟩ := h
    obtain ⟨c, rfl⟩ : ∃ k : Nat, c = k := ⟨c.toNat, by omega⟩
    obtain ⟨F, hF⟩ : ∃ F : Nat, F = 100 := ⟨100, rfl⟩
    have g := loop0 c xs ys F ⟨by omega, by omega⟩ (by omega) hs (by omega) c 0 F (by omega) (by omega)
    refine ⟨F, ?_⟩
    rw [start]
    rw [trv.ol] at g
    unfold trv.z0 at g
    have h0 := trv.s_sm (c := c) (xs := xs) (by omega) hs (a := 0) (b := 1) (by omega) (by omega) (z := ⟨0, 0, 0, 0⟩) ⟨by decide, by decide, by decide, by decide, by decide, by decide, by decide, by decide⟩
    obtain ⟨p0, p1, q0, q1, v0, v1, w0, w1⟩ := h0
    rw [Int.toNat_natCast]
    rw [show trv.p.sv c xs 0 1 0 0 0 0 = (trv.s c xs 0 1 ⟨0, 0, 0, 0⟩).p from rfl, show trv.q.sv c xs 0 1 0 0 0 0 = (trv.s c xs 0 1 ⟨0, 0, 0, 0⟩).q from rfl, show trv.v.sv c xs 0 1 0 0 0 0 = (trv.s c xs 0 1 ⟨0, 0, 0, 0⟩).v from rfl, show trv.w.sv c xs 0 1 0 0 0 0 = (trv.s c xs 0 1 ⟨0, 0, 0, 0⟩).w from rfl]
    generalize trv.s c xs 0 1 ⟨0, 0, 0, 0⟩ = y at *
    simp -implicitDefEqProofs (disch := omega) only [hs, hg, take_one, set_one, decide_eq_true, decide_eq_false, IntWalk.i64_in, beqT, beqF, bneT, bneF, nat_succ, ← Int.natCast_mul, ← Int.natCast_add, Int.toNat_natCast, Int.zero_mul, Int.zero_add, Int.add_zero, Nat.zero_add, Nat.add_zero, Nat.zero_mul, List.length_singleton, List.length_append, List.length_nil, List.length_cons, List.take_length, List.drop_zero, List.replicate_zero, List.take_nil, List.nil_append, Nat.reduceBEq, Nat.reduceMul, Nat.reduceLeDiff, eq_self, and_self, true_and, and_true, decide_true, decide_false, Bool.and_self, Bool.or_self, Bool.and_true, Bool.true_and, Bool.and_false, Bool.false_and, Bool.or_true, Bool.true_or, Bool.or_false, Bool.false_or, Bool.not_true, Bool.not_false, cond_true, cond_false]
    exact congrArg (regc []) g
  · cases h
theorem ok : EntOk Try.prog ⟨20, R⟩ :=
  ent_okAG (ks := []) mixed (A := (orcW [⟨55, tryRow.R⟩] [⟨43, iValidGame.R⟩, ⟨52, gA.R⟩])) (orcW_ok (by simp only [List.mem_cons, List.not_mem_nil, or_false, forall_eq_or_imp, forall_eq]; exact tryRow.ok) (by simp only [List.mem_cons, List.not_mem_nil, or_false, forall_eq_or_imp, forall_eq]; exact ⟨iValidGame.ok, gA.ok⟩)) Try.func20 (by kernel_rfl) (by kernel_rfl) (n := 66) (ts := [2, 3, 4, 5, 6]) (hd := hd) (dr := dr) (cut := none) (by kernel_rfl) (by kernel_rfl) (by kernel_rfl) run
end iTwoRowValue

end Go.Proofs.Ytgblgofmdhekiaa.Ab
