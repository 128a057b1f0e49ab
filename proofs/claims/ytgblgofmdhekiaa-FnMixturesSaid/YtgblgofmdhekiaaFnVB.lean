/-
  Functions: safe rows, zero sums, potentials.
-/
import Derived.Test.YtgblgofmdhekiaaFnGE
import Derived.Test.YtgblgofmdhekiaaFnVA
namespace Go.Proofs.Ytgblgofmdhekiaa.Ab
open Go
set_option linter.unusedVariables false
set_option linter.unusedSimpArgs false
set_option maxRecDepth 100000

theorem beqT {a b : Int} (h : a = b) : (a == b) = true := by simp [h]
theorem beqF {a b : Int} (h : ¬ a = b) : (a == b) = false := by simp [h]
theorem bneT {a b : Int} (h : ¬ a = b) : (a != b) = true := by simp [h]
theorem bneF {a b : Int} (h : a = b) : (a != b) = false := by simp [h]
theorem take_one {α : Type} (x : α) : List.take 1 [x] = [x] := rfl
theorem set_one {α : Type} (z x : α) : (List.replicate 1 z).set 0 x = [x] := rfl
theorem nat_succ (i : Nat) : (i : Int) + 1 = ((i + 1 : Nat) : Int) := rfl

namespace lo
def imin (a b : Int) : Int := if b < a then b else a
def sv : List Int → Int
  | [] => 0
  | x :: r => r.foldl imin x
end lo
namespace pk
/-- The first place that no later one betters, and what is there. -/
def go (bt : Int → Int → Bool) (f : Nat → Int) : Nat → Nat → Nat → Int → Nat × Int
  | 0, _, w, v => (w, v)
  | d + 1, i, w, v => bif ((i : Int) == 0) || bt (f i) v then go bt f d (i + 1) i (f i) else go bt f d (i + 1) w v
end pk
namespace sr
def f.sv (c : Nat) (xs : List Int) (i : Nat) : Int := lo.sv ((xs.drop (i * c)).take c)
def gt (a b : Int) : Bool := decide (b < a)
def lt (a b : Int) : Bool := decide (a < b)
def w.sv (r c : Nat) (xs : List Int) : Int := ((pk.go gt (f.sv c xs) r 0 0 0).1 : Nat)
def m.sv (r c : Nat) (xs : List Int) : Int := (pk.go gt (f.sv c xs) r 0 0 0).2
end sr
namespace sc
def f.sv (r c : Nat) (xs : List Int) (k : Nat) : Int := gz xs ((gz (br.sv r c xs k) 0).toNat * c + k)
def w.sv (r c : Nat) (xs : List Int) : Int := ((pk.go sr.lt (f.sv r c xs) c 0 0 0).1 : Nat)
def m.sv (r c : Nat) (xs : List Int) : Int := (pk.go sr.lt (f.sv r c xs) c 0 0 0).2
end sc
namespace po
def cell (c : Nat) (xs ys : List Int) (p : Nat) : Int := gz ys (p % c) - gz ys 0 + gz xs p - gz xs (p % c)
def sv (c : Nat) (xs ys : List Int) (N : Nat) : List Int := (List.range N).map (cell c xs ys)
theorem sv_length (c : Nat) (xs ys : List Int) (N : Nat) : (sv c xs ys N).length = N := by simp [sv]
theorem sv_succ (c : Nat) (xs ys : List Int) (N : Nat) : sv c xs ys N ++ [cell c xs ys N] = sv c xs ys (N + 1) := by simp [sv, List.range_succ]
theorem sv_get {c : Nat} {xs ys : List Int} {N p : Nat} (h : p < N) : gz (sv c xs ys N) p = cell c xs ys p := by rw [gz_eq (by rw [sv_length]; exact h)]; simp [sv]
def b (c : Nat) (xs ys : List Int) (p : Nat) : Bool := cell c xs ys p - cell c xs ys (p - p % c) == gz ys p - gz ys (p - p % c)
def chk (c : Nat) (xs ys : List Int) : Nat → Nat → Bool
  | 0, _ => true
  | d + 1, p => b c xs ys p && chk c xs ys d (p + 1)
theorem chk_add (c : Nat) (xs ys : List Int) (e : Nat) : ∀ d p, chk c xs ys (d + e) p = (chk c xs ys d p && chk c xs ys e (p + d)) := by
  intro d
  induction d with
  | zero => intro p; simp [chk]
  | succ d ih =>
    intro p
    rw [show d + 1 + e = d + e + 1 from by omega, chk, chk, ih, Bool.and_assoc, show p + (d + 1) = p + 1 + d from by omega]
theorem chk_b {c : Nat} {xs ys : List Int} : ∀ {d p}, chk c xs ys d p = true → ∀ q, p ≤ q → q < p + d → b c xs ys q = true := by
  intro d
  induction d with
  | zero => intro p _ q h1 h2; omega
  | succ d ih =>
    intro p h q h1 h2
    simp only [chk, Bool.and_eq_true] at h
    by_cases e : q = p
    · subst e; exact h.1
    · exact ih h.2 q (by omega) (by omega)
/-- Is there a potential? -/
def sp (r c : Nat) (xs ys : List Int) : Bool := chk c xs ys (r * c) 0
theorem mod_ix {i c k : Nat} (h : k < c) : (i * c + k) % c = k := by rw [Nat.add_comm, Nat.add_mul_mod_self_right, Nat.mod_eq_of_lt h]
theorem bd {n : Nat} {xs : List Int} (hx : xs.length = n) (v : ∀ x ∈ xs, -1000 ≤ x ∧ x ≤ 1000) (i : Nat) : -1000 ≤ gz xs i ∧ gz xs i ≤ 1000 := by
  by_cases h : i < xs.length
  · rw [gz_eq h]; exact v _ (List.getElem_mem h)
  · unfold gz
    rw [List.getD_eq_getElem?_getD, List.getElem?_eq_none (by omega)]
    exact ⟨by decide, by decide⟩
end po

namespace slMinG
def R : List AVal → Option (Bool × AVal × List Blk)
  | [.ro (.ints .i64 xs) m 1] => some (decide (0 < m ∧ m ≤ xs.length ∧ m ≤ 4611686018427387904), .int .i64 (lo.sv (xs.take m)), [])
  | _ => none
def hd : Nat → Head := fun _ => ⟨[0, 3, 4], none⟩
noncomputable def L (f n : Nat) (s : State) := loopAt Try.prog (orc []) hd Dr.std 0 f (bodyOf Try.f83) 0 [true, true, true, false, true] (retK Try.prog [2] 0 none) n s
theorem start (xs : List Int) (m : Nat) (f : Nat) :
  runFn Try.prog (orc []) hd Dr.std none f (bodyOf Try.f83) 25 [2] [.ro (.ints .i64 xs) m 1] []
  = (bif decide ((↑m : Int) < (1 : Int)) then none else bif decide ((0 : Int) < (↑m : Int)) then bif decide ((0 : Nat) < xs.length) then L f f (mkS (25 : Nat) [((0 : Nat), AVal.ro (Cont.ints IntKind.i64 xs) m (1 : Nat)), ((3 : Nat), AVal.int IntKind.i64 (gz xs (0 : Nat))), ((4 : Nat), AVal.int IntKind.i64 (1 : Int))] []) else none else none) := by kernel_rfl
theorem round (xs : List Int) (m : Nat) (a : Int) (i : Nat) (f n : Nat) :
  L f (n + 1) (mkS 25 [(0, .ro (.ints .i64 xs) m 1), (3, .int .i64 a), (4, .int .i64 i)] [])
  = (bif decide ((↑i : Int) < (↑m : Int)) then bif true && (decide ((0 : Int) ≤ (↑i : Int)) && decide ((↑i : Int) < (↑m : Int))) then bif decide ((↑i : Int).toNat < xs.length) then L f n (mkS (25 : Nat) [((0 : Nat), AVal.ro (Cont.ints IntKind.i64 xs) m (1 : Nat)), ((3 : Nat), AVal.int IntKind.i64 (if gz xs (↑i : Int).toNat < a then gz xs (↑i : Int).toNat else a)), ((4 : Nat), AVal.int IntKind.i64 (IntKind.i64.wrap ((↑i : Int) + (1 : Int))))] []) else none else none else some (AVal.int IntKind.i64 a, [])) := by kernel_rfl
theorem loop (xs : List Int) (m : Nat) (f : Nat) (hx : m ≤ xs.length) (hb : m ≤ 4611686018427387904) : ∀ (d i n : Nat) (a : Int), i + d = m → d < n →
    L f n (mkS 25 [(0, .ro (.ints .i64 xs) m 1), (3, .int .i64 a), (4, .int .i64 i)] []) = some (.int .i64 (((xs.take m).drop i).foldl lo.imin a), []) := by
  intro d
  induction d with
  | zero =>
    intro i n a hi hn 
    obtain ⟨n, rfl⟩ : ∃ k, n = k + 1 := ⟨n - 1, by omega⟩
    obtain rfl : i = m := by omega
    rw [round]
    have e : (xs.take i).drop i = [] := by simp
    rw [e]
    simp
  | succ d ih =>
    intro i n a hi hn 
    obtain ⟨n, rfl⟩ : ∃ k, n = k + 1 := ⟨n - 1, by omega⟩
    have h1 : i < m := by omega
    have h4 : (0 : Int) ≤ (i : Int) := Int.natCast_nonneg _
    have h5 : (i : Int) < (m : Int) := by omega
    have h2 : i < xs.length := by omega
    rw [round]
    rw [drop_take_cons hx h1, List.foldl_cons]
    simp only [h4, h5, h2, gz_eq h2, decide_true, Bool.and_self, Bool.or_self, Bool.and_true, Bool.true_and, cond_true, Int.toNat_natCast, wrap_nat i (by omega)]
    exact ih (i + 1) n (lo.imin a xs[i]) (by omega) (by omega)
theorem run : ∀ args v new, R args = some (true, v, new) → ∃ fuel, runFn Try.prog (orc []) hd Dr.std none fuel (bodyOf Try.f83) 25 [2] args [] = some (v, new) := by
  intro args v new h
  unfold R at h
  split at h
  · rename_i xs m
    simp only [Option.some.injEq, Prod.mk.injEq, decide_eq_true_eq] at h
    obtain ⟨⟨h0, h1, h2⟩, rfl, rfl⟩ := h
    refine ⟨m + 1, ?_⟩
    rw [start]
    have c1 : ¬ ((m : Int) < 1) := by omega
    have c2 : (0 : Int) < (m : Int) := by omega
    have l0 : 0 < xs.length := by omega
    have hl := loop xs m (m + 1) h1 h2 (m - 1) 1 (m + 1) xs[0] (by omega) (by omega)
    have e : xs.take m = xs[0] :: (xs.take m).drop 1 := by
      have := drop_take_cons h1 h0
      rwa [List.drop_zero] at this
    simp only [c1, c2, l0, gz_eq l0, Int.lt_irrefl, decide_true, decide_false, Bool.and_self, Bool.or_self, Bool.and_true, Bool.true_and, Bool.and_false, Bool.false_and, Bool.or_true, Bool.true_or, Bool.or_false, Bool.false_or, Bool.not_true, Bool.not_false, cond_true, cond_false]
    rw [e]
    exact hl
  · cases h
theorem ok : EntOk Try.prog ⟨83, R⟩ :=
  ent_okA mixed (A := (orc [])) (orc_ok (by simp)) Try.func83 (by kernel_rfl) (by kernel_rfl) (n := 25) (ts := [2]) (hd := hd) (dr := Dr.std) (cut := none) (by kernel_rfl) (by kernel_rfl) (by kernel_rfl) run
end slMinG

namespace gSafe
def R : List AVal → Option (Bool × AVal × List Blk)
  | [.agg [.int .i64 r, .int .i64 c, .ro (.ints .i64 xs) ma 1, .ro (.ints .i64 ys) mb 1]] => some (decide (ma = xs.length ∧ mb = ys.length ∧ ma ≤ 4611686018427387904 ∧ mb ≤ 4611686018427387904) && gm.sp r c xs ys, .tup [.int .i64 (sr.w.sv r.toNat c.toNat xs), .int .i64 (sr.m.sv r.toNat c.toNat xs)], [])
  | _ => none
def hd : Nat → Head := fun _ => ⟨[1, 4, 5, 9, 10], some 1⟩
noncomputable def L (f n : Nat) (s : State) := loopAt Try.prog (orc [⟨83, slMinG.R⟩]) hd Dr.std 0 f (bodyOf Try.f57) 0 [true, true, false, true] (retK Try.prog [2, 3] 0 (some 0)) n s
theorem start (r c : Nat) (xs ys : List Int) (f : Nat) :
  runFn Try.prog (orc [⟨83, slMinG.R⟩]) hd Dr.std (some 0) f (bodyOf Try.f57) 38 [2, 3] [.agg [.int .i64 r, .int .i64 c, .ro (.ints .i64 xs) xs.length 1, .ro (.ints .i64 ys) ys.length 1]] []
  = (bif true && true then L f f (mkS (38 : Nat) [((1 : Nat), AVal.ptr (0 : Nat) (0 : Nat) (0 : Nat)), ((4 : Nat), AVal.int IntKind.i64 (0 : Int)), ((5 : Nat), AVal.int IntKind.i64 (0 : Int)), ((9 : Nat), AVal.int IntKind.i64 (↑r : Int)), ((10 : Nat), AVal.int IntKind.i64 (0 : Int))] [{ c := BC.cells [AVal.int IntKind.i64 (↑r : Int), AVal.int IntKind.i64 (↑c : Int), AVal.ro (Cont.ints IntKind.i64 xs) xs.length (1 : Nat), AVal.ro (Cont.ints IntKind.i64 ys) ys.length (1 : Nat)], ver := (0 : Nat) }]) else none) := by kernel_rfl
theorem round (r c : Nat) (xs ys : List Int) (w : Nat) (v : Int) (i f n : Nat) :
  L f (n + 1) (mkS 38 [(1, .ptr 0 0 0), (4, .int .i64 (w : Int)), (5, .int .i64 v), (9, .int .i64 r), (10, .int .i64 i)] [⟨.cells [.int .i64 r, .int .i64 c, .ro (.ints .i64 xs) xs.length 1, .ro (.ints .i64 ys) ys.length 1], 0⟩])
  = (bif decide ((↑i : Int) < (↑r : Int)) then bif true && true then bif true && true then bif true && true then bif true && (decide ((0 : Int) ≤ IntKind.i64.wrap (IntKind.i64.wrap ((↑i : Int) + (1 : Int)) * (↑c : Int))) && decide (IntKind.i64.wrap (IntKind.i64.wrap ((↑i : Int) + (1 : Int)) * (↑c : Int)) ≤ (↑xs.length : Int)) && (decide ((0 : Int) ≤ IntKind.i64.wrap ((↑i : Int) * (↑c : Int))) && decide (IntKind.i64.wrap ((↑i : Int) * (↑c : Int)) ≤ (↑(IntKind.i64.wrap (IntKind.i64.wrap ((↑i : Int) + (1 : Int)) * (↑c : Int))).toNat : Int)))) then bif decide ((0 : Nat) < (IntKind.i64.wrap (IntKind.i64.wrap ((↑i : Int) + (1 : Int)) * (↑c : Int))).toNat - (IntKind.i64.wrap ((↑i : Int) * (↑c : Int))).toNat ∧ (IntKind.i64.wrap (IntKind.i64.wrap ((↑i : Int) + (1 : Int)) * (↑c : Int))).toNat - (IntKind.i64.wrap ((↑i : Int) * (↑c : Int))).toNat ≤ (List.take ((IntKind.i64.wrap (IntKind.i64.wrap ((↑i : Int) + (1 : Int)) * (↑c : Int))).toNat - (IntKind.i64.wrap ((↑i : Int) * (↑c : Int))).toNat) (List.drop (IntKind.i64.wrap ((↑i : Int) * (↑c : Int))).toNat xs)).length ∧ (IntKind.i64.wrap (IntKind.i64.wrap ((↑i : Int) + (1 : Int)) * (↑c : Int))).toNat - (IntKind.i64.wrap ((↑i : Int) * (↑c : Int))).toNat ≤ (4611686018427387904 : Nat)) && (true && true || true && true) then bif (↑i : Int) == (0 : Int) then L f n (mkS (38 : Nat) [((1 : Nat), AVal.ptr (0 : Nat) (0 : Nat) (0 : Nat)), ((4 : Nat), AVal.int IntKind.i64 (↑i : Int)), ((5 : Nat), AVal.int IntKind.i64 (lo.sv (List.take ((IntKind.i64.wrap (IntKind.i64.wrap ((↑i : Int) + (1 : Int)) * (↑c : Int))).toNat - (IntKind.i64.wrap ((↑i : Int) * (↑c : Int))).toNat) (List.take ((IntKind.i64.wrap (IntKind.i64.wrap ((↑i : Int) + (1 : Int)) * (↑c : Int))).toNat - (IntKind.i64.wrap ((↑i : Int) * (↑c : Int))).toNat) (List.drop (IntKind.i64.wrap ((↑i : Int) * (↑c : Int))).toNat xs))))), ((9 : Nat), AVal.int IntKind.i64 (↑r : Int)), ((10 : Nat), AVal.int IntKind.i64 (IntKind.i64.wrap ((↑i : Int) + (1 : Int))))] [{ c := BC.cells [AVal.int IntKind.i64 (↑r : Int), AVal.int IntKind.i64 (↑c : Int), AVal.ro (Cont.ints IntKind.i64 xs) xs.length (1 : Nat), AVal.ro (Cont.ints IntKind.i64 ys) ys.length (1 : Nat)], ver := (0 : Nat) }]) else bif decide (v < lo.sv (List.take ((IntKind.i64.wrap (IntKind.i64.wrap ((↑i : Int) + (1 : Int)) * (↑c : Int))).toNat - (IntKind.i64.wrap ((↑i : Int) * (↑c : Int))).toNat) (List.take ((IntKind.i64.wrap (IntKind.i64.wrap ((↑i : Int) + (1 : Int)) * (↑c : Int))).toNat - (IntKind.i64.wrap ((↑i : Int) * (↑c : Int))).toNat) (List.drop (IntKind.i64.wrap ((↑i : Int) * (↑c : Int))).toNat xs)))) then L f n (mkS (38 : Nat) [((1 : Nat), AVal.ptr (0 : Nat) (0 : Nat) (0 : Nat)), ((4 : Nat), AVal.int IntKind.i64 (↑i : Int)), ((5 : Nat), AVal.int IntKind.i64 (lo.sv (List.take ((IntKind.i64.wrap (IntKind.i64.wrap ((↑i : Int) + (1 : Int)) * (↑c : Int))).toNat - (IntKind.i64.wrap ((↑i : Int) * (↑c : Int))).toNat) (List.take ((IntKind.i64.wrap (IntKind.i64.wrap ((↑i : Int) + (1 : Int)) * (↑c : Int))).toNat - (IntKind.i64.wrap ((↑i : Int) * (↑c : Int))).toNat) (List.drop (IntKind.i64.wrap ((↑i : Int) * (↑c : Int))).toNat xs))))), ((9 : Nat), AVal.int IntKind.i64 (↑r : Int)), ((10 : Nat), AVal.int IntKind.i64 (IntKind.i64.wrap ((↑i : Int) + (1 : Int))))] [{ c := BC.cells [AVal.int IntKind.i64 (↑r : Int), AVal.int IntKind.i64 (↑c : Int), AVal.ro (Cont.ints IntKind.i64 xs) xs.length (1 : Nat), AVal.ro (Cont.ints IntKind.i64 ys) ys.length (1 : Nat)], ver := (0 : Nat) }]) else L f n (mkS (38 : Nat) [((1 : Nat), AVal.ptr (0 : Nat) (0 : Nat) (0 : Nat)), ((4 : Nat), AVal.int IntKind.i64 (↑w : Int)), ((5 : Nat), AVal.int IntKind.i64 v), ((9 : Nat), AVal.int IntKind.i64 (↑r : Int)), ((10 : Nat), AVal.int IntKind.i64 (IntKind.i64.wrap ((↑i : Int) + (1 : Int))))] [{ c := BC.cells [AVal.int IntKind.i64 (↑r : Int), AVal.int IntKind.i64 (↑c : Int), AVal.ro (Cont.ints IntKind.i64 xs) xs.length (1 : Nat), AVal.ro (Cont.ints IntKind.i64 ys) ys.length (1 : Nat)], ver := (0 : Nat) }]) else none else none else none else none else none else some (AVal.tup [AVal.int IntKind.i64 (↑w : Int), AVal.int IntKind.i64 v], [])) := by kernel_rfl
theorem loop (r c : Nat) (xs ys : List Int) (f : Nat) (hr : 1 ≤ r ∧ r ≤ 6) (hc : 1 ≤ c ∧ c ≤ 6) (hx : xs.length = r * c) (hy : ys.length = r * c) : ∀ (d i n w : Nat) (v : Int), i + d = r → d < n →
    L f n (mkS 38 [(1, .ptr 0 0 0), (4, .int .i64 (w : Int)), (5, .int .i64 v), (9, .int .i64 r), (10, .int .i64 i)] [⟨.cells [.int .i64 r, .int .i64 c, .ro (.ints .i64 xs) xs.length 1, .ro (.ints .i64 ys) ys.length 1], 0⟩]) = some (.tup [.int .i64 ((pk.go sr.gt (sr.f.sv c xs) d i w v).1 : Nat), .int .i64 (pk.go sr.gt (sr.f.sv c xs) d i w v).2], []) := by
  intro d
  induction d with
  | zero =>
    intro i n w v hi hn
    obtain ⟨n, rfl⟩ : ∃ k, n = k + 1 := ⟨n - 1, by omega⟩
    rw [round]
    simp -implicitDefEqProofs (disch := omega) only [take_one, set_one, decide_eq_true, decide_eq_false, IntWalk.i64_in, beqT, beqF, bneT, bneF, nat_succ, ← Int.natCast_mul, ← Int.natCast_add, Int.toNat_natCast, Int.zero_mul, Int.zero_add, Int.add_zero, Nat.zero_add, Nat.add_zero, Nat.zero_mul, List.length_singleton, List.length_append, List.length_nil, List.length_cons, List.take_length, List.drop_zero, List.replicate_zero, List.take_nil, List.nil_append, Nat.reduceBEq, Nat.reduceMul, Nat.reduceLeDiff, eq_self, and_self, true_and, and_true, decide_true, decide_false, Bool.and_self, Bool.or_self, Bool.and_true, Bool.true_and, Bool.and_false, Bool.false_and, Bool.or_true, Bool.true_or, Bool.or_false, Bool.false_or, Bool.not_true, Bool.not_false, cond_true, cond_false]
    rfl
  | succ d ih =>
    intro i n w v hi hn
    obtain ⟨n, rfl⟩ : ∃ k, n = k + 1 := ⟨n - 1, by omega⟩
    have hir : i < r := by omega
    have h36 := gm.le_36 hr.2 hc.2
    have hm : (i + 1) * c = i * c + c := Nat.succ_mul i c
    have hle : (i + 1) * c ≤ r * c := Nat.mul_le_mul_right c hir
    have e1 : (i + 1) * c - i * c = c := by omega
    have e2 : ((xs.drop (i * c)).take c).length = c := by rw [List.length_take, List.length_drop]; omega
    have e3 : lo.sv ((xs.drop (i * c)).take c) = sr.f.sv c xs i := rfl
    have e4 : ∀ l : List Int, (l.take c).take c = l.take c := fun l => by rw [List.take_take, Nat.min_self]
    have g := ih (i + 1) n i (sr.f.sv c xs i) (by omega) (by omega)
    have g2 := ih (i + 1) n w v (by omega) (by omega)
    rw [round]
    simp -implicitDefEqProofs (disch := omega) only [e1, e2, e3, e4, take_one, set_one, decide_eq_true, decide_eq_false, IntWalk.i64_in, beqT, beqF, bneT, bneF, nat_succ, ← Int.natCast_mul, ← Int.natCast_add, Int.toNat_natCast, Int.zero_mul, Int.zero_add, Int.add_zero, Nat.zero_add, Nat.add_zero, Nat.zero_mul, List.length_singleton, List.length_append, List.length_nil, List.length_cons, List.take_length, List.drop_zero, List.replicate_zero, List.take_nil, List.nil_append, Nat.reduceBEq, Nat.reduceMul, Nat.reduceLeDiff, eq_self, and_self, true_and, and_true, decide_true, decide_false, Bool.and_self, Bool.or_self, Bool.and_true, Bool.true_and, Bool.and_false, Bool.false_and, Bool.or_true, Bool.true_or, Bool.or_false, Bool.false_or, Bool.not_true, Bool.not_false, cond_true, cond_false]
    simp only [pk.go]
    cases hz : ((i : Int) == 0)
    · cases hb : sr.gt (sr.f.sv c xs i) v
      · have hb2 := hb
        unfold sr.gt at hb2
        rw [hb2]
        exact g2
      · have hb2 := hb
        unfold sr.gt at hb2
        rw [hb2]
        exact g
    · exact g
theorem run : ∀ args v new, R args = some (true, v, new) → ∃ fuel, runFn Try.prog (orc [⟨83, slMinG.R⟩]) hd Dr.std (some 0) fuel (bodyOf Try.f57) 38 [2, 3] args [] = some (v, new) := by
  intro args v new h
  unfold R at h
  split at h
  · rename_i r c xs ma ys mb
    simp only [Option.some.injEq, Prod.mk.injEq, Bool.and_eq_true, decide_eq_true_eq, Bool.not_eq_true'] at h
    obtain ⟨⟨⟨rfl, rfl, h3, h4⟩, hv⟩, rfl, rfl⟩ := h
    obtain ⟨r, c, rfl, rfl, hr, hc, hx, hy, vx, vy⟩ := gm.valid hv
    obtain ⟨F, hF⟩ : ∃ F : Nat, F = 100 := ⟨100, rfl⟩
    refine ⟨F, ?_⟩
    rw [start]
    exact loop r c xs ys F hr hc hx hy r 0 F 0 0 (by omega) (by omega)
  · cases h
theorem ok : EntOk Try.prog ⟨57, R⟩ :=
  ent_okA mixed (A := (orc [⟨83, slMinG.R⟩])) (orc_ok (by simp only [List.mem_cons, List.not_mem_nil, or_false, forall_eq_or_imp, forall_eq]; exact slMinG.ok)) Try.func57 (by kernel_rfl) (by kernel_rfl) (n := 38) (ts := [2, 3]) (hd := hd) (dr := Dr.std) (cut := (some 0)) (by kernel_rfl) (by kernel_rfl) (by kernel_rfl) run
end gSafe

namespace iSafeRow
def R : List AVal → Option (Bool × AVal × List Blk)
  | [.agg [.int .i64 r, .int .i64 c, .ro (.ints .i64 xs) ma 1, .ro (.ints .i64 ys) mb 1]] => some (decide (ma = xs.length ∧ mb = ys.length ∧ ma ≤ 4611686018427387904 ∧ mb ≤ 4611686018427387904) && gm.sp r c xs ys, .tup [.int .i64 (sr.w.sv r.toNat c.toNat xs), .int .i64 (sr.m.sv r.toNat c.toNat xs), .bool true], [])
  | _ => none
theorem go (r c : Int) (xs ys : List Int) (ma mb : Nat) :
  runFn Try.prog (orc [⟨43, iValidGame.R⟩, ⟨57, gSafe.R⟩]) hd0 Dr.std (some 0) 0 (bodyOf Try.f21) 17 [2, 3, 4] [.agg [.int .i64 r, .int .i64 c, .ro (.ints .i64 xs) ma 1, .ro (.ints .i64 ys) mb 1]] []
  = (bif true && true && (true && true && (true && true && (true && true && true))) then bif decide (ma = xs.length ∧ mb = ys.length ∧ ma ≤ (4611686018427387904 : Nat) ∧ mb ≤ (4611686018427387904 : Nat)) && (true && (true && (true && (true && true))) && true || true && true) then bif !gm.sp r c xs ys then some (AVal.tup [AVal.int IntKind.i64 (0 : Int), AVal.int IntKind.i64 (0 : Int), AVal.bool false], []) else bif true && true && (true && true && (true && true && (true && true && true))) then bif decide (ma = xs.length ∧ mb = ys.length ∧ ma ≤ (4611686018427387904 : Nat) ∧ mb ≤ (4611686018427387904 : Nat)) && gm.sp r c xs ys && (true && (true && (true && (true && true))) && true || true && (true && true) && true) then some (AVal.tup [AVal.int IntKind.i64 (sr.w.sv r.toNat c.toNat xs), AVal.int IntKind.i64 (sr.m.sv r.toNat c.toNat xs), AVal.bool true], []) else none else none else none else none) := by kernel_rfl
theorem run : ∀ args v new, R args = some (true, v, new) → ∃ fuel, runFn Try.prog (orc [⟨43, iValidGame.R⟩, ⟨57, gSafe.R⟩]) hd0 Dr.std (some 0) fuel (bodyOf Try.f21) 17 [2, 3, 4] args [] = some (v, new) := by
  intro args v new h
  unfold R at h
  split at h
  · rename_i r c xs ma ys mb
    simp only [Option.some.injEq, Prod.mk.injEq, Bool.and_eq_true, decide_eq_true_eq, Bool.not_eq_true'] at h
    obtain ⟨⟨⟨rfl, rfl, h3, h4⟩, hv⟩, rfl, rfl⟩ := h
    refine ⟨0, ?_⟩
    rw [go]
    simp -implicitDefEqProofs (disch := omega) only [hv, take_one, set_one, decide_eq_true, decide_eq_false, IntWalk.i64_in, beqT, beqF, bneT, bneF, nat_succ, ← Int.natCast_mul, ← Int.natCast_add, Int.toNat_natCast, Int.zero_mul, Int.zero_add, Int.add_zero, Nat.zero_add, Nat.add_zero, Nat.zero_mul, List.length_singleton, List.length_append, List.length_nil, List.length_cons, List.take_length, List.drop_zero, List.replicate_zero, List.take_nil, List.nil_append, Nat.reduceBEq, Nat.reduceMul, Nat.reduceLeDiff, eq_self, and_self, true_and, and_true, decide_true, decide_false, Bool.and_self, Bool.or_self, Bool.and_true, Bool.true_and, Bool.and_false, Bool.false_and, Bool.or_true, Bool.true_or, Bool.or_false, Bool.false_or, Bool.not_true, Bool.not_false, cond_true, cond_false]
  · cases h
theorem ok : EntOk Try.prog ⟨21, R⟩ :=
  ent_okA mixed (A := (orc [⟨43, iValidGame.R⟩, ⟨57, gSafe.R⟩])) (orc_ok (by simp only [List.mem_cons, List.not_mem_nil, or_false, forall_eq_or_imp, forall_eq]; exact ⟨iValidGame.ok, gSafe.ok⟩)) Try.func21 (by kernel_rfl) (by kernel_rfl) (n := 17) (ts := [2, 3, 4]) (hd := hd0) (dr := Dr.std) (cut := (some 0)) (by kernel_rfl) (by kernel_rfl) (by kernel_rfl) run
end iSafeRow

namespace iSafeColumn
def dr : Nat → Dr := fun i => bif eqN i 7 then ⟨some [0, 1, 2, 6, 3, 4, 5, 7, 8], false⟩ else ⟨none, false⟩
def R : List AVal → Option (Bool × AVal × List Blk)
  | [.agg [.int .i64 r, .int .i64 c, .ro (.ints .i64 xs) ma 1, .ro (.ints .i64 ys) mb 1]] => some (decide (ma = xs.length ∧ mb = ys.length ∧ ma ≤ 4611686018427387904 ∧ mb ≤ 4611686018427387904) && gm.sp r c xs ys, .tup [.int .i64 (sc.w.sv r.toNat c.toNat xs), .int .i64 (sc.m.sv r.toNat c.toNat xs), .bool true], [])
  | _ => none
def hd : Nat → Head := fun _ => ⟨[1, 5, 6, 13, 14], some 1⟩
noncomputable def L (f n : Nat) (s : State) := loopAt Try.prog (orc [⟨43, iValidGame.R⟩, ⟨58, gBestRows.R⟩, ⟨52, gA.R⟩]) hd dr 0 f (bodyOf Try.f22) 0 [true, true, true, false, true] (retK Try.prog [2, 3, 4] 0 (some 0)) n s
theorem start (r c : Int) (xs ys : List Int) (f : Nat) :
  runFn Try.prog (orc [⟨43, iValidGame.R⟩, ⟨58, gBestRows.R⟩, ⟨52, gA.R⟩]) hd dr (some 0) f (bodyOf Try.f22) 37 [2, 3, 4] [.agg [.int .i64 r, .int .i64 c, .ro (.ints .i64 xs) xs.length 1, .ro (.ints .i64 ys) ys.length 1]] []
  = (bif true && true && (true && true && (true && true && (true && true && true))) then bif decide (xs.length = xs.length ∧ ys.length = ys.length ∧ xs.length ≤ (4611686018427387904 : Nat) ∧ ys.length ≤ (4611686018427387904 : Nat)) && (true && (true && (true && (true && true))) && true || true && true) then bif !gm.sp r c xs ys then some (AVal.tup [AVal.int IntKind.i64 (0 : Int), AVal.int IntKind.i64 (0 : Int), AVal.bool false], []) else bif true && true then L f f (mkS (37 : Nat) [((1 : Nat), AVal.ptr (0 : Nat) (0 : Nat) (0 : Nat)), ((5 : Nat), AVal.int IntKind.i64 (0 : Int)), ((6 : Nat), AVal.int IntKind.i64 (0 : Int)), ((13 : Nat), AVal.int IntKind.i64 c), ((14 : Nat), AVal.int IntKind.i64 (0 : Int))] [{ c := BC.cells [AVal.int IntKind.i64 r, AVal.int IntKind.i64 c, AVal.ro (Cont.ints IntKind.i64 xs) xs.length (1 : Nat), AVal.ro (Cont.ints IntKind.i64 ys) ys.length (1 : Nat)], ver := (0 : Nat) }]) else none else none else none) := by kernel_rfl
theorem round (r c : Nat) (xs ys : List Int) (w : Nat) (v : Int) (i f n : Nat) :
  L f (n + 1) (mkS 37 [(1, .ptr 0 0 0), (5, .int .i64 (w : Int)), (6, .int .i64 v), (13, .int .i64 c), (14, .int .i64 i)] [⟨.cells [.int .i64 r, .int .i64 c, .ro (.ints .i64 xs) xs.length 1, .ro (.ints .i64 ys) ys.length 1], 0⟩])
  = (bif decide ((↑i : Int) < (↑c : Int)) then bif true && true && (true && true && (true && true && (true && true && true))) then bif true && true && (true && true && (true && true && (true && true && true))) then bif decide (xs.length = xs.length ∧ ys.length = ys.length ∧ (0 : Int) ≤ (↑i : Int) ∧ (↑i : Int) < (↑c : Int)) && gm.sp (↑r : Int) (↑c : Int) xs ys && (true && (true && (true && (true && true))) && (true && true) || true && (true && true)) then bif decide ((0 : Int) < (↑(br.sv (↑r : Int).toNat (↑c : Int).toNat xs (↑i : Int).toNat).length : Int)) then bif true && decide ((0 : Nat) < (br.sv (↑r : Int).toNat (↑c : Int).toNat xs (↑i : Int).toNat).length) then bif decide (xs.length = xs.length ∧ ys.length = ys.length ∧ (0 : Int) ≤ gz (br.sv (↑r : Int).toNat (↑c : Int).toNat xs (↑i : Int).toNat) (nat_lit 0) ∧ (0 : Int) ≤ (↑i : Int) ∧ gz (br.sv (↑r : Int).toNat (↑c : Int).toNat xs (↑i : Int).toNat) (nat_lit 0) ≤ (100 : Int) ∧ (↑i : Int) ≤ (100 : Int) ∧ (0 : Int) ≤ (↑c : Int) ∧ (↑c : Int) ≤ (100 : Int) ∧ gz (br.sv (↑r : Int).toNat (↑c : Int).toNat xs (↑i : Int).toNat) (nat_lit 0) * (↑c : Int) + (↑i : Int) < (↑xs.length : Int)) && (true && (true && (true && (true && true))) && (true && (true && true)) || true && true) then bif (↑i : Int) == (0 : Int) then L f n (mkS (37 : Nat) [((1 : Nat), AVal.ptr (0 : Nat) (0 : Nat) (0 : Nat)), ((5 : Nat), AVal.int IntKind.i64 (↑i : Int)), ((6 : Nat), AVal.int IntKind.i64 (gz xs (gz (br.sv (↑r : Int).toNat (↑c : Int).toNat xs (↑i : Int).toNat) (0 : Nat) * (↑c : Int) + (↑i : Int)).toNat)), ((13 : Nat), AVal.int IntKind.i64 (↑c : Int)), ((14 : Nat), AVal.int IntKind.i64 (IntKind.i64.wrap ((↑i : Int) + (1 : Int))))] [{ c := BC.cells [AVal.int IntKind.i64 (↑r : Int), AVal.int IntKind.i64 (↑c : Int), AVal.ro (Cont.ints IntKind.i64 xs) xs.length (1 : Nat), AVal.ro (Cont.ints IntKind.i64 ys) ys.length (1 : Nat)], ver := (0 : Nat) }]) else bif decide (gz xs (gz (br.sv (↑r : Int).toNat (↑c : Int).toNat xs (↑i : Int).toNat) (0 : Nat) * (↑c : Int) + (↑i : Int)).toNat < v) then L f n (mkS (37 : Nat) [((1 : Nat), AVal.ptr (0 : Nat) (0 : Nat) (0 : Nat)), ((5 : Nat), AVal.int IntKind.i64 (↑i : Int)), ((6 : Nat), AVal.int IntKind.i64 (gz xs (gz (br.sv (↑r : Int).toNat (↑c : Int).toNat xs (↑i : Int).toNat) (0 : Nat) * (↑c : Int) + (↑i : Int)).toNat)), ((13 : Nat), AVal.int IntKind.i64 (↑c : Int)), ((14 : Nat), AVal.int IntKind.i64 (IntKind.i64.wrap ((↑i : Int) + (1 : Int))))] [{ c := BC.cells [AVal.int IntKind.i64 (↑r : Int), AVal.int IntKind.i64 (↑c : Int), AVal.ro (Cont.ints IntKind.i64 xs) xs.length (1 : Nat), AVal.ro (Cont.ints IntKind.i64 ys) ys.length (1 : Nat)], ver := (0 : Nat) }]) else L f n (mkS (37 : Nat) [((1 : Nat), AVal.ptr (0 : Nat) (0 : Nat) (0 : Nat)), ((5 : Nat), AVal.int IntKind.i64 (↑w : Int)), ((6 : Nat), AVal.int IntKind.i64 v), ((13 : Nat), AVal.int IntKind.i64 (↑c : Int)), ((14 : Nat), AVal.int IntKind.i64 (IntKind.i64.wrap ((↑i : Int) + (1 : Int))))] [{ c := BC.cells [AVal.int IntKind.i64 (↑r : Int), AVal.int IntKind.i64 (↑c : Int), AVal.ro (Cont.ints IntKind.i64 xs) xs.length (1 : Nat), AVal.ro (Cont.ints IntKind.i64 ys) ys.length (1 : Nat)], ver := (0 : Nat) }]) else none else none else none else none else none else none else some (AVal.tup [AVal.int IntKind.i64 (↑w : Int), AVal.int IntKind.i64 v, AVal.bool true], [])) := by kernel_rfl
theorem loop (r c : Nat) (xs ys : List Int) (f : Nat) (hv : gm.sp r c xs ys = true) (hr : 1 ≤ r ∧ r ≤ 6) (hc : 1 ≤ c ∧ c ≤ 6) (hx : xs.length = r * c) (hy : ys.length = r * c) : ∀ (d i n w : Nat) (v : Int), i + d = c → d < n →
    L f n (mkS 37 [(1, .ptr 0 0 0), (5, .int .i64 (w : Int)), (6, .int .i64 v), (13, .int .i64 c), (14, .int .i64 i)] [⟨.cells [.int .i64 r, .int .i64 c, .ro (.ints .i64 xs) xs.length 1, .ro (.ints .i64 ys) ys.length 1], 0⟩]) = some (.tup [.int .i64 ((pk.go sr.lt (sc.f.sv r c xs) d i w v).1 : Nat), .int .i64 (pk.go sr.lt (sc.f.sv r c xs) d i w v).2, .bool true], []) := by
  intro d
  induction d with
  | zero =>
    intro i n w v hi hn
    obtain ⟨n, rfl⟩ : ∃ k, n = k + 1 := ⟨n - 1, by omega⟩
    rw [round]
    simp -implicitDefEqProofs (disch := omega) only [take_one, set_one, decide_eq_true, decide_eq_false, IntWalk.i64_in, beqT, beqF, bneT, bneF, nat_succ, ← Int.natCast_mul, ← Int.natCast_add, Int.toNat_natCast, Int.zero_mul, Int.zero_add, Int.add_zero, Nat.zero_add, Nat.add_zero, Nat.zero_mul, List.length_singleton, List.length_append, List.length_nil, List.length_cons, List.take_length, List.drop_zero, List.replicate_zero, List.take_nil, List.nil_append, Nat.reduceBEq, Nat.reduceMul, Nat.reduceLeDiff, eq_self, and_self, true_and, and_true, decide_true, decide_false, Bool.and_self, Bool.or_self, Bool.and_true, Bool.true_and, Bool.and_false, Bool.false_and, Bool.or_true, Bool.true_or, Bool.or_false, Bool.false_or, Bool.not_true, Bool.not_false, cond_true, cond_false]
    rfl
  | succ d ih =>
    intro i n w v hi hn
    obtain ⟨n, rfl⟩ : ∃ k, n = k + 1 := ⟨n - 1, by omega⟩
    have hir : i < c := by omega
    have h36 := gm.le_36 hr.2 hc.2
    have hp := br.sv_pos c xs i (r := r) (by omega)
    obtain ⟨q, h1, h2⟩ := br.sv_mem (List.getElem_mem hp)
    rw [← gz_eq hp] at h1
    have hq := gm.ix_lt (R := r) (C := c) h2 hir
    have e3 : gz xs (q * c + i) = sc.f.sv r c xs i := by unfold sc.f.sv; rw [h1, Int.toNat_natCast]
    have g := ih (i + 1) n i (sc.f.sv r c xs i) (by omega) (by omega)
    have g2 := ih (i + 1) n w v (by omega) (by omega)
    have hv' := hv
    rw [round]
    simp -implicitDefEqProofs (disch := omega) only [h1, e3, hv, take_one, set_one, decide_eq_true, decide_eq_false, IntWalk.i64_in, beqT, beqF, bneT, bneF, nat_succ, ← Int.natCast_mul, ← Int.natCast_add, Int.toNat_natCast, Int.zero_mul, Int.zero_add, Int.add_zero, Nat.zero_add, Nat.add_zero, Nat.zero_mul, List.length_singleton, List.length_append, List.length_nil, List.length_cons, List.take_length, List.drop_zero, List.replicate_zero, List.take_nil, List.nil_append, Nat.reduceBEq, Nat.reduceMul, Nat.reduceLeDiff, eq_self, and_self, true_and, and_true, decide_true, decide_false, Bool.and_self, Bool.or_self, Bool.and_true, Bool.true_and, Bool.and_false, Bool.false_and, Bool.or_true, Bool.true_or, Bool.or_false, Bool.false_or, Bool.not_true, Bool.not_false, cond_true, cond_false]
    simp only [pk.go]
    cases hz : ((i : Int) == 0)
    · cases hb : sr.lt (sc.f.sv r c xs i) v
      · have hb2 := hb
        unfold sr.lt at hb2
        rw [hb2]
        exact g2
      · have hb2 := hb
        unfold sr.lt at hb2
        rw [hb2]
        exact g
    · exact g
theorem run : ∀ args v new, R args = some (true, v, new) → ∃ fuel, runFn Try.prog (orc [⟨43, iValidGame.R⟩, ⟨58, gBestRows.R⟩, ⟨52, gA.R⟩]) hd dr (some 0) fuel (bodyOf Try.f22) 37 [2, 3, 4] args [] = some (v, new) := by
  intro args v new h
  unfold R at h
  split at h
  · rename_i r c xs ma ys mb
    simp only [Option.some.injEq, Prod.mk.injEq, Bool.and_eq_true, decide_eq_true_eq, Bool.not_eq_true'] at h
    obtain ⟨⟨⟨rfl, rfl, h3, h4⟩, hv⟩, rfl, rfl⟩ := h
    have hv2 := hv
    obtain ⟨r, c, rfl, rfl, hr, hc, hx, hy, vx, vy⟩ := gm.valid hv2
    obtain ⟨F, hF⟩ : ∃ F : Nat, F = 100 := ⟨100, rfl⟩
    refine ⟨F, ?_⟩
    rw [start]
    simp -implicitDefEqProofs (disch := omega) only [hv, take_one, set_one, decide_eq_true, decide_eq_false, IntWalk.i64_in, beqT, beqF, bneT, bneF, nat_succ, ← Int.natCast_mul, ← Int.natCast_add, Int.toNat_natCast, Int.zero_mul, Int.zero_add, Int.add_zero, Nat.zero_add, Nat.add_zero, Nat.zero_mul, List.length_singleton, List.length_append, List.length_nil, List.length_cons, List.take_length, List.drop_zero, List.replicate_zero, List.take_nil, List.nil_append, Nat.reduceBEq, Nat.reduceMul, Nat.reduceLeDiff, eq_self, and_self, true_and, and_true, decide_true, decide_false, Bool.and_self, Bool.or_self, Bool.and_true, Bool.true_and, Bool.and_false, Bool.false_and, Bool.or_true, Bool.true_or, Bool.or_false, Bool.false_or, Bool.not_true, Bool.not_false, cond_true, cond_false]
    exact loop r c xs ys F hv hr hc hx hy c 0 F 0 0 (by omega) (by omega)
  · cases h
theorem ok : EntOk Try.prog ⟨22, R⟩ :=
  ent_okA mixed (A := (orc [⟨43, iValidGame.R⟩, ⟨58, gBestRows.R⟩, ⟨52, gA.R⟩])) (orc_ok (by simp only [List.mem_cons, List.not_mem_nil, or_false, forall_eq_or_imp, forall_eq]; exact ⟨iValidGame.ok, gBestRows.ok, gA.ok⟩)) Try.func22 (by kernel_rfl) (by kernel_rfl) (n := 37) (ts := [2, 3, 4]) (hd := hd) (dr := dr) (cut := (some 0)) (by kernel_rfl) (by kernel_rfl) (by kernel_rfl) run
end iSafeColumn




end Go.Proofs.Ytgblgofmdhekiaa.Ab
