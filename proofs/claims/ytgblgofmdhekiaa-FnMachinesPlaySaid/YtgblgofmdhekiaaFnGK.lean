/-
  Functions: rows that are learnt.
-/
import Derived.Test.YtgblgofmdhekiaaFnGF
namespace Go.Proofs.Ytgblgofmdhekiaa.Ab
open Go
set_option linter.unusedVariables false
set_option linter.unusedSimpArgs false
set_option maxRecDepth 100000

namespace an
def fs (c : Nat) (xs zs : List Int) (i : Nat) (l : List Nat) (s : Int) : Int := l.foldl (fun s k => IntKind.i64.wrap (s + IntKind.i64.wrap (gz zs k * br.col c xs k i))) s
def go (c : Nat) (xs zs : List Int) : List Nat → Int → Int → Int
  | [], b, _ => b
  | i :: t, b, m => bif ((i : Int) == 0) || decide (m < fs c xs zs i (List.range c) 0) then go c xs zs t i (fs c xs zs i (List.range c) 0) else go c xs zs t b m
/-- The first row with the greatest sum. -/
def sv (r c : Nat) (xs zs : List Int) : Int := go c xs zs (List.range r) 0 0
theorem go_in (c : Nat) (xs zs : List Int) (r : Nat) : ∀ (l : List Nat) (b m : Int), (∀ i ∈ l, i < r) → 0 ≤ b ∧ b < (r : Int) → 0 ≤ go c xs zs l b m ∧ go c xs zs l b m < (r : Int) := by
  intro l
  induction l with
  | nil => intro b m _ hb; exact hb
  | cons i t ih =>
    intro b m hl hb
    have hi := hl i List.mem_cons_self
    have ht : ∀ i ∈ t, i < r := fun j hj => hl j (List.mem_cons_of_mem _ hj)
    simp only [go]
    cases ((i : Int) == 0) || decide (m < fs c xs zs i (List.range c) 0)
    · exact ih b m ht hb
    · exact ih _ _ ht ⟨by omega, by omega⟩
theorem sv_in {r : Nat} (c : Nat) (xs zs : List Int) (h : 0 < r) : ∃ q : Nat, sv r c xs zs = q ∧ q < r := by
  obtain ⟨h1, h2⟩ := go_in c xs zs r (List.range r) 0 0 (fun i hi => List.mem_range.1 hi) ⟨by omega, by omega⟩
  exact ⟨(sv r c xs zs).toNat, by unfold sv; omega, by unfold sv; omega⟩
end an
namespace lr
def bump (l : List Int) (i : Int) : List Int := l.set i.toNat (IntKind.i64.wrap (gz l i.toNat + 1))
theorem bump_length (l : List Int) (i : Int) : (bump l i).length = l.length := by simp [bump]
def go (r c : Nat) (xs ys : List Int) : Nat → List Int → List Int → List Int × List Int
  | 0, p, q => (p, q)
  | n + 1, p, q => go r c xs ys n (bump p (an.sv r c xs q)) (bump q (an.sv c r (tn.sv r c ys) p))
def one (n : Nat) : List Int := (List.replicate n 0).set 0 1
theorem one_length (n : Nat) : (one n).length = n := by simp [one]
def rows.sv (r c : Nat) (xs ys : List Int) (n : Nat) : List Int := (lr.go r c xs ys (n - 1) (lr.one r) (lr.one c)).1
def cols.sv (r c : Nat) (xs ys : List Int) (n : Nat) : List Int := (lr.go r c xs ys (n - 1) (lr.one r) (lr.one c)).2
theorem go_length (r c : Nat) (xs ys : List Int) : ∀ (n : Nat) (p q : List Int), (go r c xs ys n p q).1.length = p.length ∧ (go r c xs ys n p q).2.length = q.length := by
  intro n
  induction n with
  | zero => intro p q; exact ⟨rfl, rfl⟩
  | succ n ih => intro p q; have := ih (bump p (an.sv r c xs q)) (bump q (an.sv c r (tn.sv r c ys) p)); simpa only [go, bump_length] using this
theorem rows_length (r c : Nat) (xs ys : List Int) (n : Nat) : (rows.sv r c xs ys n).length = r := by
  unfold rows.sv; rw [(go_length r c xs ys _ _ _).1, one_length]
theorem cols_length (r c : Nat) (xs ys : List Int) (n : Nat) : (cols.sv r c xs ys n).length = c := by
  unfold cols.sv; rw [(go_length r c xs ys _ _ _).2, one_length]
def sp (r c : Int) (xs ys : List Int) (n : Int) : Bool := gm.sp r c xs ys && (decide (1 ≤ n) && decide (n ≤ 1000))
theorem sp_valid {r c : Int} {xs ys : List Int} {n : Int} (h : sp r c xs ys n = true) : gm.sp r c xs ys = true := by
  simp only [sp, Bool.and_eq_true] at h; exact h.1
end lr

namespace gAnswer
def R : List AVal → Option (Bool × AVal × List Blk)
  | [.agg [.int .i64 r, .int .i64 c, .ro (.ints .i64 xs) ma 1, .ro (.ints .i64 ys) mb 1], .ro (.ints .i64 zs) mz 1] => some (decide (ma = xs.length ∧ mb = ys.length ∧ mz = zs.length ∧ (mz : Int) = c) && gm.sp r c xs ys, .int .i64 (an.sv r.toNat c.toNat xs zs), [])
  | _ => none
def hd : Nat → Head := fun i => bif eqN i 2 then ⟨[1, 2, 5, 6, 7, 8, 12, 13, 16, 17, 18], some 1⟩ else ⟨[1, 2, 5, 6, 12, 13], some 1⟩
noncomputable def L1 (f n : Nat) (s : State) := loopAt Try.prog (orc [⟨52, gA.R⟩]) hd Dr.std 0 f (bodyOf Try.f45) 0 [true, true, false, true] (retK Try.prog [4] 0 (some 0)) n s
noncomputable def L2 (f n n2 : Nat) (s : State) := loopAt Try.prog (orc [⟨52, gA.R⟩]) hd Dr.std 0 f (bodyAt (bodyOf Try.f45) [true, true, false, true]) (curAt (bodyOf Try.f45) 0 [true, true, false, true]) [true, true, false, true, true, false, true] (iterK (normE 0 (hd (curAt (bodyOf Try.f45) 0 [true, true, false, true]))) (L1 f n) (contAt Try.prog (orc [⟨52, gA.R⟩]) hd Dr.std 0 f (bodyOf Try.f45) 0 [true, true, false, true] (retK Try.prog [4] 0 (some 0)))) n2 s
theorem start (r c : Nat) (xs ys : List Int) (zs : List Int) (f : Nat) :
  runFn Try.prog (orc [⟨52, gA.R⟩]) hd Dr.std (some 0) f (bodyOf Try.f45) 43 [4] [.agg [.int .i64 r, .int .i64 c, .ro (.ints .i64 xs) xs.length 1, .ro (.ints .i64 ys) ys.length 1], .ro (.ints .i64 zs) zs.length 1] []
  = (bif true && true then L1 f f (mkS (43 : Nat) [((1 : Nat), AVal.ro (Cont.ints IntKind.i64 zs) zs.length (1 : Nat)), ((2 : Nat), AVal.ptr (0 : Nat) (0 : Nat) (0 : Nat)), ((5 : Nat), AVal.int IntKind.i64 (0 : Int)), ((6 : Nat), AVal.int IntKind.i64 (0 : Int)), ((12 : Nat), AVal.int IntKind.i64 (↑r : Int)), ((13 : Nat), AVal.int IntKind.i64 (0 : Int))] [{ c := BC.cells [AVal.int IntKind.i64 (↑r : Int), AVal.int IntKind.i64 (↑c : Int), AVal.ro (Cont.ints IntKind.i64 xs) xs.length (1 : Nat), AVal.ro (Cont.ints IntKind.i64 ys) ys.length (1 : Nat)], ver := (0 : Nat) }]) else none) := by kernel_rfl
theorem round1 (r c : Nat) (xs ys : List Int) (zs : List Int) (b m : Int) (i f n : Nat) :
  L1 f (n + 1) (mkS 43 [(1, .ro (.ints .i64 zs) zs.length 1), (2, .ptr 0 0 0), (5, .int .i64 b), (6, .int .i64 m), (12, .int .i64 r), (13, .int .i64 i)] [⟨.cells [.int .i64 r, .int .i64 c, .ro (.ints .i64 xs) xs.length 1, .ro (.ints .i64 ys) ys.length 1], 0⟩])
  = (bif decide ((↑i : Int) < (↑r : Int)) then L2 f n f (mkS (43 : Nat) [((1 : Nat), AVal.ro (Cont.ints IntKind.i64 zs) zs.length (1 : Nat)), ((2 : Nat), AVal.ptr (0 : Nat) (0 : Nat) (0 : Nat)), ((5 : Nat), AVal.int IntKind.i64 b), ((6 : Nat), AVal.int IntKind.i64 m), ((7 : Nat), AVal.int IntKind.i64 (↑i : Int)), ((8 : Nat), AVal.int IntKind.i64 (0 : Int)), ((12 : Nat), AVal.int IntKind.i64 (↑r : Int)), ((13 : Nat), AVal.int IntKind.i64 (↑i : Int)), ((16 : Nat), AVal.ro (Cont.ints IntKind.i64 zs) zs.length (1 : Nat)), ((17 : Nat), AVal.int IntKind.i64 (↑zs.length : Int)), ((18 : Nat), AVal.int IntKind.i64 (0 : Int))] [{ c := BC.cells [AVal.int IntKind.i64 (↑r : Int), AVal.int IntKind.i64 (↑c : Int), AVal.ro (Cont.ints IntKind.i64 xs) xs.length (1 : Nat), AVal.ro (Cont.ints IntKind.i64 ys) ys.length (1 : Nat)], ver := (0 : Nat) }]) else some (AVal.int IntKind.i64 b, [])) := by kernel_rfl
theorem round2 (r c : Nat) (xs ys : List Int) (zs : List Int) (b m s : Int) (i k f n n2 : Nat) :
  L2 f n (n2 + 1) (mkS 43 [(1, .ro (.ints .i64 zs) zs.length 1), (2, .ptr 0 0 0), (5, .int .i64 b), (6, .int .i64 m), (7, .int .i64 i), (8, .int .i64 s), (12, .int .i64 r), (13, .int .i64 i), (16, .ro (.ints .i64 zs) zs.length 1), (17, .int .i64 zs.length), (18, .int .i64 k)] [⟨.cells [.int .i64 r, .int .i64 c, .ro (.ints .i64 xs) xs.length 1, .ro (.ints .i64 ys) ys.length 1], 0⟩])
  = (bif decide ((↑k : Int) < (↑zs.length : Int)) then bif true && (decide ((0 : Int) ≤ (↑k : Int)) && decide ((↑k : Int) < (↑zs.length : Int))) then bif decide ((↑k : Int).toNat < zs.length) then bif true && true && (true && true && (true && true && (true && true && true))) then bif decide (xs.length = xs.length ∧ ys.length = ys.length ∧ (0 : Int) ≤ (↑i : Int) ∧ (0 : Int) ≤ (↑k : Int) ∧ (↑i : Int) ≤ (100 : Int) ∧ (↑k : Int) ≤ (100 : Int) ∧ (0 : Int) ≤ (↑c : Int) ∧ (↑c : Int) ≤ (100 : Int) ∧ (↑i : Int) * (↑c : Int) + (↑k : Int) < (↑xs.length : Int)) && (true && (true && (true && (true && true))) && (true && (true && true)) || true && true) then L2 f n n2 (mkS (43 : Nat) [((1 : Nat), AVal.ro (Cont.ints IntKind.i64 zs) zs.length (1 : Nat)), ((2 : Nat), AVal.ptr (0 : Nat) (0 : Nat) (0 : Nat)), ((5 : Nat), AVal.int IntKind.i64 b), ((6 : Nat), AVal.int IntKind.i64 m), ((7 : Nat), AVal.int IntKind.i64 (↑i : Int)), ((8 : Nat), AVal.int IntKind.i64 (IntKind.i64.wrap (s + IntKind.i64.wrap (gz zs (↑k : Int).toNat * gz xs ((↑i : Int) * (↑c : Int) + (↑k : Int)).toNat)))), ((12 : Nat), AVal.int IntKind.i64 (↑r : Int)), ((13 : Nat), AVal.int IntKind.i64 (↑i : Int)), ((16 : Nat), AVal.ro (Cont.ints IntKind.i64 zs) zs.length (1 : Nat)), ((17 : Nat), AVal.int IntKind.i64 (↑zs.length : Int)), ((18 : Nat), AVal.int IntKind.i64 (IntKind.i64.wrap ((↑k : Int) + (1 : Int))))] [{ c := BC.cells [AVal.int IntKind.i64 (↑r : Int), AVal.int IntKind.i64 (↑c : Int), AVal.ro (Cont.ints IntKind.i64 xs) xs.length (1 : Nat), AVal.ro (Cont.ints IntKind.i64 ys) ys.length (1 : Nat)], ver := (0 : Nat) }]) else none else none else none else none else bif (↑i : Int) == (0 : Int) then L1 f n (mkS (43 : Nat) [((1 : Nat), AVal.ro (Cont.ints IntKind.i64 zs) zs.length (1 : Nat)), ((2 : Nat), AVal.ptr (0 : Nat) (0 : Nat) (0 : Nat)), ((5 : Nat), AVal.int IntKind.i64 (↑i : Int)), ((6 : Nat), AVal.int IntKind.i64 s), ((12 : Nat), AVal.int IntKind.i64 (↑r : Int)), ((13 : Nat), AVal.int IntKind.i64 (IntKind.i64.wrap ((↑i : Int) + (1 : Int))))] [{ c := BC.cells [AVal.int IntKind.i64 (↑r : Int), AVal.int IntKind.i64 (↑c : Int), AVal.ro (Cont.ints IntKind.i64 xs) xs.length (1 : Nat), AVal.ro (Cont.ints IntKind.i64 ys) ys.length (1 : Nat)], ver := (0 : Nat) }]) else bif decide (m < s) then L1 f n (mkS (43 : Nat) [((1 : Nat), AVal.ro (Cont.ints IntKind.i64 zs) zs.length (1 : Nat)), ((2 : Nat), AVal.ptr (0 : Nat) (0 : Nat) (0 : Nat)), ((5 : Nat), AVal.int IntKind.i64 (↑i : Int)), ((6 : Nat), AVal.int IntKind.i64 s), ((12 : Nat), AVal.int IntKind.i64 (↑r : Int)), ((13 : Nat), AVal.int IntKind.i64 (IntKind.i64.wrap ((↑i : Int) + (1 : Int))))] [{ c := BC.cells [AVal.int IntKind.i64 (↑r : Int), AVal.int IntKind.i64 (↑c : Int), AVal.ro (Cont.ints IntKind.i64 xs) xs.length (1 : Nat), AVal.ro (Cont.ints IntKind.i64 ys) ys.length (1 : Nat)], ver := (0 : Nat) }]) else L1 f n (mkS (43 : Nat) [((1 : Nat), AVal.ro (Cont.ints IntKind.i64 zs) zs.length (1 : Nat)), ((2 : Nat), AVal.ptr (0 : Nat) (0 : Nat) (0 : Nat)), ((5 : Nat), AVal.int IntKind.i64 b), ((6 : Nat), AVal.int IntKind.i64 m), ((12 : Nat), AVal.int IntKind.i64 (↑r : Int)), ((13 : Nat), AVal.int IntKind.i64 (IntKind.i64.wrap ((↑i : Int) + (1 : Int))))] [{ c := BC.cells [AVal.int IntKind.i64 (↑r : Int), AVal.int IntKind.i64 (↑c : Int), AVal.ro (Cont.ints IntKind.i64 xs) xs.length (1 : Nat), AVal.ro (Cont.ints IntKind.i64 ys) ys.length (1 : Nat)], ver := (0 : Nat) }])) := by kernel_rfl
theorem inner (r c : Nat) (xs ys : List Int) (zs : List Int) (b m : Int) (f n i : Nat) (hr : 1 ≤ r ∧ r ≤ 6) (hc : 1 ≤ c ∧ c ≤ 6) (hx : xs.length = r * c) (hy : ys.length = r * c) (hz : zs.length = c) (hi : i < r) : ∀ (d k n2 : Nat) (s : Int), k + d = c → d < n2 →
    L2 f n n2 (mkS 43 [(1, .ro (.ints .i64 zs) zs.length 1), (2, .ptr 0 0 0), (5, .int .i64 b), (6, .int .i64 m), (7, .int .i64 i), (8, .int .i64 s), (12, .int .i64 r), (13, .int .i64 i), (16, .ro (.ints .i64 zs) zs.length 1), (17, .int .i64 zs.length), (18, .int .i64 k)] [⟨.cells [.int .i64 r, .int .i64 c, .ro (.ints .i64 xs) xs.length 1, .ro (.ints .i64 ys) ys.length 1], 0⟩]) = bif ((i : Int) == 0) || decide (m < an.fs c xs zs i ((List.range c).drop k) s) then L1 f n (mkS 43 [(1, .ro (.ints .i64 zs) zs.length 1), (2, .ptr 0 0 0), (5, .int .i64 (i : Int)), (6, .int .i64 (an.fs c xs zs i ((List.range c).drop k) s)), (12, .int .i64 r), (13, .int .i64 ((i + 1 : Nat) : Int))] [⟨.cells [.int .i64 r, .int .i64 c, .ro (.ints .i64 xs) xs.length 1, .ro (.ints .i64 ys) ys.length 1], 0⟩]) else L1 f n (mkS 43 [(1, .ro (.ints .i64 zs) zs.length 1), (2, .ptr 0 0 0), (5, .int .i64 b), (6, .int .i64 m), (12, .int .i64 r), (13, .int .i64 ((i + 1 : Nat) : Int))] [⟨.cells [.int .i64 r, .int .i64 c, .ro (.ints .i64 xs) xs.length 1, .ro (.ints .i64 ys) ys.length 1], 0⟩]) := by
  have wi : IntKind.i64.wrap ((i : Int) + 1) = ((i + 1 : Nat) : Int) := wrap_nat i (by omega)
  have h36 := gm.le_36 hr.2 hc.2
  have hr2 : (0 : Int) ≤ (r : Int) := Int.natCast_nonneg _
  have hr3 : (r : Int) ≤ 100 := by omega
  intro d
  induction d with
  | zero =>
    intro k n2 s hk hn
    obtain ⟨n2, rfl⟩ : ∃ k, n2 = k + 1 := ⟨n2 - 1, by omega⟩
    obtain rfl : k = c := by omega
    rw [round2]
    have e : (List.range k).drop k = [] := List.drop_of_length_le (by simp)
    have e2 : an.fs k xs zs i [] s = s := rfl
    rw [e, e2]
    simp -implicitDefEqProofs only [hz, wi, Int.lt_irrefl, decide_true, decide_false, Bool.and_self, Bool.or_self, Bool.and_true, Bool.true_and, Bool.and_false, Bool.false_and, Bool.or_true, Bool.true_or, Bool.or_false, Bool.false_or, Bool.not_true, Bool.not_false, cond_true, cond_false]
    generalize ((i : Int) == 0) = b1
    generalize decide (m < s) = b2
    cases b1 <;> cases b2 <;> simp -implicitDefEqProofs only [decide_true, decide_false, Bool.and_self, Bool.or_self, Bool.and_true, Bool.true_and, Bool.and_false, Bool.false_and, Bool.or_true, Bool.true_or, Bool.or_false, Bool.false_or, Bool.not_true, Bool.not_false, cond_true, cond_false]
  | succ d ih =>
    intro k n2 s hk' hn
    obtain ⟨n2, rfl⟩ : ∃ k, n2 = k + 1 := ⟨n2 - 1, by omega⟩
    have hk : k < c := by omega
    have hlt := gm.ix_lt (R := r) (C := c) hi hk
    have i0 : (0 : Int) ≤ (i : Int) := Int.natCast_nonneg _
    have i1 : (i : Int) ≤ 100 := by omega
    have i2 : (i : Int) < (r : Int) := by omega
    have k0 : (0 : Int) ≤ (k : Int) := Int.natCast_nonneg _
    have k1 : (k : Int) ≤ 100 := by omega
    have k2 : (k : Int) < (c : Int) := by omega
    have em : (i : Int) * (c : Int) = ((i * c : Nat) : Int) := by simp
    have ee : ((i * c : Nat) : Int) + (k : Int) = ((i * c + k : Nat) : Int) := by simp
    have lx : ((i * c + k : Nat) : Int) < (xs.length : Int) := by omega
    have lx2 : i * c + k < xs.length := by omega
    have p0 : (0 : Int) ≤ ((i * c + k : Nat) : Int) := Int.natCast_nonneg _
    have w1 : IntKind.i64.wrap ((i * c : Nat) : Int) = ((i * c : Nat) : Int) := IntWalk.i64_in _ (by omega)
    have w2 : IntKind.i64.wrap ((i * c + k : Nat) : Int) = ((i * c + k : Nat) : Int) := IntWalk.i64_in _ (by omega)
    have cx : gz xs (i * c + k) = br.col c xs k i := rfl
    have c0 : (0 : Int) ≤ (c : Int) := Int.natCast_nonneg _
    have c1 : (c : Int) ≤ 100 := by omega
    have zl : k < zs.length := by omega
    have wk : IntKind.i64.wrap ((k : Int) + 1) = ((k + 1 : Nat) : Int) := wrap_nat k (by omega)
    have hkz : (k : Int) < (zs.length : Int) := by omega
    have hih := ih (k + 1) n2 (IntKind.i64.wrap (s + IntKind.i64.wrap (gz zs k * br.col c xs k i))) (by omega) (by omega)
    have e : an.fs c xs zs i ((List.range c).drop k) s = an.fs c xs zs i ((List.range c).drop (k + 1)) (IntKind.i64.wrap (s + IntKind.i64.wrap (gz zs k * br.col c xs k i))) := by
      rw [br.drop_range hk]; rfl
    rw [round2, e]
    simp -implicitDefEqProofs only [hkz, hr2, hr3, em, ee, w1, w2, lx, lx2, p0, i0, i1, i2, k0, k1, k2, c0, c1, zl, wk, cx, Int.toNat_natCast, and_self, eq_self, decide_true, decide_false, Bool.and_self, Bool.or_self, Bool.and_true, Bool.true_and, Bool.and_false, Bool.false_and, Bool.or_true, Bool.true_or, Bool.or_false, Bool.false_or, Bool.not_true, Bool.not_false, cond_true, cond_false]
    exact hih
theorem outer (r c : Nat) (xs ys : List Int) (zs : List Int) (f : Nat) (hr : 1 ≤ r ∧ r ≤ 6) (hc : 1 ≤ c ∧ c ≤ 6) (hx : xs.length = r * c) (hy : ys.length = r * c) (hz : zs.length = c) (hf : c < f) : ∀ (d i n : Nat) (b m : Int), i + d = r → d < n →
    L1 f n (mkS 43 [(1, .ro (.ints .i64 zs) zs.length 1), (2, .ptr 0 0 0), (5, .int .i64 b), (6, .int .i64 m), (12, .int .i64 r), (13, .int .i64 i)] [⟨.cells [.int .i64 r, .int .i64 c, .ro (.ints .i64 xs) xs.length 1, .ro (.ints .i64 ys) ys.length 1], 0⟩]) = some (.int .i64 (an.go c xs zs ((List.range r).drop i) b m), []) := by
  intro d
  induction d with
  | zero =>
    intro i n b m hi hn
    obtain ⟨n, rfl⟩ : ∃ k, n = k + 1 := ⟨n - 1, by omega⟩
    obtain rfl : i = r := by omega
    rw [round1]
    have e : (List.range i).drop i = [] := List.drop_of_length_le (by simp)
    rw [e]
    simp -implicitDefEqProofs only [an.go, Int.lt_irrefl, decide_true, decide_false, Bool.and_self, Bool.or_self, Bool.and_true, Bool.true_and, Bool.and_false, Bool.false_and, Bool.or_true, Bool.true_or, Bool.or_false, Bool.false_or, Bool.not_true, Bool.not_false, cond_true, cond_false]
  | succ d ih =>
    intro i n b m hi' hn
    obtain ⟨n, rfl⟩ : ∃ k, n = k + 1 := ⟨n - 1, by omega⟩
    have hi : i < r := by omega
    have hi5 : (i : Int) < (r : Int) := by omega
    have hin := inner r c xs ys zs b m f n i hr hc hx hy hz hi c 0 f 0 (by omega) hf
    rw [List.drop_zero] at hin
    rw [round1, br.drop_range hi]
    simp -implicitDefEqProofs only [an.go, hi5, decide_true, cond_true]
    refine hin.trans ?_
    cases ((i : Int) == 0) || decide (m < an.fs c xs zs i (List.range c) 0)
    · exact ih (i + 1) n b m (by omega) (by omega)
    · exact ih (i + 1) n _ _ (by omega) (by omega)
theorem run : ∀ args v new, R args = some (true, v, new) → ∃ fuel, runFn Try.prog (orc [⟨52, gA.R⟩]) hd Dr.std (some 0) fuel (bodyOf Try.f45) 43 [4] args [] = some (v, new) := by
  intro args v new h
  unfold R at h
  split at h
  · rename_i r c xs ma ys mb zs mz
    simp only [Option.some.injEq, Prod.mk.injEq, Bool.and_eq_true, decide_eq_true_eq, Bool.not_eq_true'] at h
    obtain ⟨⟨⟨rfl, rfl, rfl, hz⟩, hv⟩, rfl, rfl⟩ := h
    obtain ⟨r, c, rfl, rfl, hr, hc, hx, hy, vx, vy⟩ := gm.valid hv
    obtain ⟨F, hF⟩ : ∃ F : Nat, F = 100 := ⟨100, rfl⟩
    refine ⟨F, ?_⟩
    rw [start]
    have hl := outer r c xs ys zs F hr hc hx hy (by omega) (by omega) r 0 F 0 0 (by omega) (by omega)
    rw [List.drop_zero] at hl
    exact hl
  · cases h
theorem ok : EntOk Try.prog ⟨45, R⟩ :=
  ent_okA mixed (A := (orc [⟨52, gA.R⟩])) (orc_ok (by simp only [List.mem_cons, List.not_mem_nil, or_false, forall_eq_or_imp, forall_eq]; exact gA.ok)) Try.func45 (by kernel_rfl) (by kernel_rfl) (n := 43) (ts := [4]) (hd := hd) (dr := Dr.std) (cut := (some 0)) (by kernel_rfl) (by kernel_rfl) (by kernel_rfl) run
end gAnswer


end Go.Proofs.Ytgblgofmdhekiaa.Ab
