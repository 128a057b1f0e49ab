/-
  Functions: safe rows, zero sums, potentials.
-/
import Derived.Test.YtfbalfhekldkbaaFnGE
import Derived.Test.YtfbalfhekldkbaaFnVA
namespace Go.Proofs.Ytfbalfhekldkbaa.Ab
open Go
set_option linter.unusedVariables false
set_option linter.unusedSimpArgs false
set_option maxRecDepth 100000

theorem beqT {a b : Int} (h : a = b) : (a == b) = true := by simp [h]
theorem beqF {a b : Int} (h : ¬ a = b) : (a == b) = false := by simp [h]
theorem bneT {a b : Int} (h : ¬ a = b) : (a != b) = true := by simp [h]
theorem bneF {a b : Int} (h : a = b) : (a != b) = false := by simp [h]
theorem take_one {α : Type} (x : α) : List.take 1 [x] = [x] := rfl
theorem set_one {α : Type} (z x : α) : (List.replicate 1 z).set 0 x = [x] := rfl
theorem nat_succ (i : Nat) : (i : Int) + 1 = ((i + 1 : Nat) : Int) := rfl

namespace lo
def imin (a b : Int) : Int := if b < a then b else a
def sv : List Int → Int
  | [] => 0
  | x :: r => r.foldl imin x
end lo
namespace pk
/-- The first place that no later one betters, and what is there. -/
def go (bt : Int → Int → Bool) (f : Nat → Int) : Nat → Nat → Nat → Int → Nat × Int
  | 0, _, w, v => (w, v)
  | d + 1, i, w, v => bif ((i : Int) == 0) || bt (f i) v then go bt f d (i + 1) i (f i) else go bt f d (i + 1) w v
end pk
namespace sr
def f.sv (c : Nat) (xs : List Int) (i : Nat) : Int := lo.sv ((xs.drop (i * c)).take c)
def gt (a b : Int) : Bool := decide (b < a)
def lt (a b : Int) : Bool := decide (a < b)
def w.sv (r c : Nat) (xs : List Int) : Int := ((pk.go gt (f.sv c xs) r 0 0 0).1 : Nat)
def m.sv (r c : Nat) (xs : List Int) : Int := (pk.go gt (f.sv c xs) r 0 0 0).2
end sr
namespace sc
def f.sv (r c : Nat) (xs : List Int) (k : Nat) : Int := gz xs ((gz (br.sv r c xs k) 0).toNat * c + k)
def w.sv (r c : Nat) (xs : List Int) : Int := ((pk.go sr.lt (f.sv r c xs) c 0 0 0).1 : Nat)
def m.sv (r c : Nat) (xs : List Int) : Int := (pk.go sr.lt (f.sv r c xs) c 0 0 0).2
end sc
namespace po
def cell (c : Nat) (xs ys : List Int) (p : Nat) : Int := gz ys (p % c) - gz ys 0 + gz xs p - gz xs (p % c)
def sv (c : Nat) (xs ys : List Int) (N : Nat) : List Int := (List.range N).map (cell c xs ys)
theorem sv_length (c : Nat) (xs ys : List Int) (N : Nat) : (sv c xs ys N).length = N := by simp [sv]
theorem sv_succ (c : Nat) (xs ys : List Int) (N : Nat) : sv c xs ys N ++ [cell c xs ys N] = sv c xs ys (N + 1) := by simp [sv, List.range_succ]
theorem sv_get {c : Nat} {xs ys : List Int} {N p : Nat} (h : p < N) : gz (sv c xs ys N) p = cell c xs ys p := by rw [gz_eq (by rw [sv_length]; exact h)]; simp [sv]
def b (c : Nat) (xs ys : List Int) (p : Nat) : Bool := cell c xs ys p - cell c xs ys (p - p % c) == gz ys p - gz ys (p - p % c)
def chk (c : Nat) (xs ys : List Int) : Nat → Nat → Bool
  | 0, _ => true
  | d + 1, p => b c xs ys p && chk c xs ys d (p + 1)
theorem chk_add (c : Nat) (xs ys : List Int) (e : Nat) : ∀ d p, chk c xs ys (d + e) p = (chk c xs ys d p && chk c xs ys e (p + d)) := by
  intro d
  induction d with
  | zero => intro p; simp [chk]
  | succ d ih =>
    intro p
    rw [show d + 1 + e = d + e + 1 from by omega, chk, chk, ih, Bool.and_assoc, show p + (d + 1) = p + 1 + d from by omega]
theorem chk_b {c : Nat} {xs ys : List Int} : ∀ {d p}, chk c xs ys d p = true → ∀ q, p ≤ q → q < p + d → b c xs ys q = true := by
  intro d
  induction d with
  | zero => intro p _ q h1 h2; omega
  | succ d ih =>
    intro p h q h1 h2
    simp only [chk, Bool.and_eq_true] at h
    by_cases e : q = p
    · subst e; exact h.1
    · exact ih h.2 q (by omega) (by omega)
/-- Is there a potential? -/
def sp (r c : Nat) (xs ys : List Int) : Bool := chk c xs ys (r * c) 0
theorem mod_ix {i c k : Nat} (h : k < c) : (i * c + k) % c = k := by rw [Nat.add_comm, Nat.add_mul_mod_self_right, Nat.mod_eq_of_lt h]
theorem bd {n : Nat} {xs : List Int} (hx : xs.length = n) (v : ∀ x ∈ xs, -1000 ≤ x ∧ x ≤ 1000) (i : Nat) : -1000 ≤ gz xs i ∧ gz xs i ≤ 1000 := by
  by_cases h : i < xs.length
  · rw [gz_eq h]; exact v _ (List.getElem_mem h)
  · unfold gz
    rw [List.getD_eq_getElem?_getD, List.getElem?_eq_none (by omega)]
    exact ⟨by decide, by decide⟩
end po

namespace slMinG
def R : List AVal → Option (Bool × AVal × List Blk)
  | [.ro (.ints .i64 xs) m 1] => some (decide (0 < m ∧ m ≤ xs.length ∧ m ≤ 4611686018427387904), .int .i64 (lo.sv (xs.take m)), [])
  | _ => none
def hd : Nat → Head := fun _ => ⟨[0, 3, 4], none⟩
noncomputable def L (f n : Nat) (s : State) := loopAt Try.prog (orc []) hd Dr.std 0 f (bodyOf Try.f60) 0 [true, true, true, false, true] (retK Try.prog [2] 0 none) n s
theorem start (xs : List Int) (m : Nat) (f : Nat) :
  runFn Try.prog (orc []) hd Dr.std none f (bodyOf Try.f60) 25 [2] [.ro (.ints .i64 xs) m 1] []
  = (bif decide ((↑m : Int) < (1 : Int)) then none else bif decide ((0 : Int) < (↑m : Int)) then bif decide ((0 : Nat) < xs.length) then L f f (mkS (25 : Nat) [((0 : Nat), AVal.ro (Cont.ints IntKind.i64 xs) m (1 : Nat)), ((3 : Nat), AVal.int IntKind.i64 (gz xs (0 : Nat))), ((4 : Nat), AVal.int IntKind.i64 (1 : Int))] []) else none else none) := by kernel_rfl
theorem round (xs : List Int) (m : Nat) (a : Int) (i : Nat) (f n : Nat) :
  L f (n + 1) (mkS 25 [(0, .ro (.ints .i64 xs) m 1), (3, .int .i64 a), (4, .int .i64 i)] [])
  = (bif decide ((↑i : Int) < (↑m : Int)) then bif true && (decide ((0 : Int) ≤ (↑i : Int)) && decide ((↑i : Int) < (↑m : Int))) then bif decide ((↑i : Int).toNat < xs.length) then L f n (mkS (25 : Nat) [((0 : Nat), AVal.ro (Cont.ints IntKind.i64 xs) m (1 : Nat)), ((3 : Nat), AVal.int IntKind.i64 (if gz xs (↑i : Int).toNat < a then gz xs (↑i : Int).toNat else a)), ((4 : Nat), AVal.int IntKind.i64 (IntKind.i64.wrap ((↑i : Int) + (1 : Int))))] []) else none else none else some (AVal.int IntKind.i64 a, [])) := by kernel_rfl
theorem loop (xs : List Int) (m : Nat) (f : Nat) (hx : m ≤ xs.length) (hb : m ≤ 4611686018427387904) : ∀ (d i n : Nat) (a : Int), i + d = m → d < n →
    L f n (mkS 25 [(0, .ro (.ints .i64 xs) m 1), (3, .int .i64 a), (4, .int .i64 i)] []) = some (.int .i64 (((xs.take m).drop i).foldl lo.imin a), []) := by
  intro d
  induction d with
  | zero =>
    intro i n a hi hn 
    obtain ⟨n, rfl⟩ : ∃ k, n = k + 1 := ⟨n - 1, by omega⟩
    obtain rfl : i = m := by omega
    rw [round]
    have e : (xs.take i).drop i = [] := by simp
    rw [e]
    simp
  | succ d ih =>
    intro i n a hi hn 
    obtain ⟨n, rfl⟩ : ∃ k, n = k + 1 := ⟨n - 1, by omega⟩
    have h1 : i < m := by omega
    have h4 : (0 : Int) ≤ (i : Int) := Int.natCast_nonneg _
    have h5 : (i : Int) < (m : Int) := by omega
    have h2 : i < xs.length := by omega
    rw [round]
    rw [drop_take_cons hx h1, List.foldl_cons]
    simp only [h4, h5, h2, gz_eq h2, decide_true, Bool.and_self, Bool.or_self, Bool.and_true, Bool.true_and, cond_true, Int.toNat_natCast, wrap_nat i (by omega)]
    exact ih (i + 1) n (lo.imin a xs[i]) (by omega) (by omega)
theorem run : ∀ args v new, R args = some (true, v, new) → ∃ fuel, runFn Try.prog (orc []) hd Dr.std none fuel (bodyOf Try.f60) 25 [2] args [] = some (v, new) := by
  intro args v new h
  unfold R at h
  split at h
  · rename_i xs m
    simp only [Option.some.injEq, Prod.mk.injEq, decide_eq_true_eq] at h
    obtain ⟨⟨h0, h1, h2⟩, rfl, rfl⟩ := h
    refine ⟨m + 1, ?_⟩
    rw [start]
    have c1 : ¬ ((m : Int) < 1) := by omega
    have c2 : (0 : Int) < (m : Int) := by omega
    have l0 : 0 < xs.length := by omega
    have hl := loop xs m (m + 1) h1 h2 (m - 1) 1 (m + 1) xs[0] (by omega) (by omega)
    have e : xs.take m = xs[0] :: (xs.take m).drop 1 := by
      have := drop_take_cons h1 h0
      rwa [List.drop_zero] at this
    simp only [c1, c2, l0, gz_eq l0, Int.lt_irrefl, decide_true, decide_false, Bool.and_self, Bool.or_self, Bool.and_true, Bool.true_and, Bool.and_false, Bool.false_and, Bool.or_true, Bool.true_or, Bool.or_false, Bool.false_or, Bool.not_true, Bool.not_false, cond_true, cond_false]
    rw [e]
    exact hl
  · cases h
theorem ok : EntOk Try.prog ⟨60, R⟩ :=
  ent_okA mixed (A := (orc [])) (orc_ok (by simp)) Try.func60 (by kernel_rfl) (by kernel_rfl) (n := 25) (ts := [2]) (hd := hd) (dr := Dr.std) (cut := none) (by kernel_rfl) (by kernel_rfl) (by kernel_rfl) run
end slMinG

namespace gSafe
def R : List AVal → Option (Bool × AVal × List Blk)
  | [.agg [.int .i64 r, .int .i64 c, .ro (.ints .i64 xs) ma 1, .ro (.ints .i64 ys) mb 1]] => some (decide (ma = xs.length ∧ mb = ys.length ∧ ma ≤ 4611686018427387904 ∧ mb ≤ 4611686018427387904) && gm.sp r c xs ys, .tup [.int .i64 (sr.w.sv r.toNat c.toNat xs), .int .i64 (sr.m.sv r.toNat c.toNat xs)], [])
  | _ => none
def hd : Nat → Head := fun _ => ⟨[1, 4, 5, 9, 10], some 1⟩
noncomputable def L (f n : Nat) (s : State) := loopAt Try.prog (orc [⟨60, slMinG.R⟩]) hd Dr.std 0 f (bodyOf Try.f49) 0 [true, true, false, true] (retK Try.prog [2, 3] 0 (some 0)) n s
theorem start (r c : Nat) (xs ys : List Int) (f : Nat) :
  runFn Try.prog (orc [⟨60, slMinG.R⟩]) hd Dr.std (some 0) f (bodyOf Try.f49) 38 [2, 3] [.agg [.int .i64 r, .int .i64 c, .ro (.ints .i64 xs) xs.length 1, .ro (.ints .i64 ys) ys.length 1]] []
  = (bif true && true then L f f (mkS (38 : Nat) [((1 : Nat), AVal.ptr (0 : Nat) (0 : Nat) (0 : Nat)), ((4 : Nat), AVal.int IntKind.i64 (0 : Int)), ((5 : Nat), AVal.int IntKind.i64 (0 : Int)), ((9 : Nat), AVal.int IntKind.i64 (↑r : Int)), ((10 : Nat), AVal.int IntKind.i64 (0 : Int))] [{ c := BC.cells [AVal.int IntKind.i64 (↑r : Int), AVal.int IntKind.i64 (↑c : Int), AVal.ro (Cont.ints IntKind.i64 xs) xs.length (1 : Nat), AVal.ro (Cont.ints IntKind.i64 ys) ys.length (1 : Nat)], ver := (0 : Nat) }]) else none) := by kernel_rfl
theorem round (r c : Nat) (xs ys : List Int) (w : Nat) (v : Int) (i f n : Nat) :
  L f (n + 1) (mkS 38 [(1, .ptr 0 0 0), (4, .int .i64 (w : Int)), (5, .int .i64 v), (9, .int .i64 r), (10, .int .i64 i)] [⟨.cells [.int .i64 r, .int .i64 c, .ro (.ints .i64 xs) xs.length 1, .ro (.ints .i64 ys) ys.length 1], 0⟩])
  = (bif decide ((↑i : Int) < (↑r : Int)) then bif true && true then bif true && true then bif true && true then bif true && (decide ((0 : Int) ≤ IntKind.i64.wrap (IntKind.i64.wrap ((↑i : Int) + (1 : Int)) * (↑c : Int))) && decide (IntKind.i64.wrap (IntKind.i64.wrap ((↑i : Int) + (1 : Int)) * (↑c : Int)) ≤ (↑xs.length : Int)) && (decide ((0 : Int) ≤ IntKind.i64.wrap ((↑i : Int) * (↑c : Int))) && decide (IntKind.i64.wrap ((↑i : Int) * (↑c : Int)) ≤ (↑(IntKind.i64.wrap (IntKind.i64.wrap ((↑i : Int) + (1 : Int)) * (↑c : Int))).toNat : Int)))) then bif decide ((0 : Nat) < (IntKind.i64.wrap (IntKind.i64.wrap ((↑i : Int) + (1 : Int)) * (↑c : Int))).toNat - (IntKind.i64.wrap ((↑i : Int) * (↑c : Int))).toNat ∧ (IntKind.i64.wrap (IntKind.i64.wrap ((↑i : Int) + (1 : Int)) * (↑c : Int))).toNat - (IntKind.i64.wrap ((↑i : Int) * (↑c : Int))).toNat ≤ (List.take ((IntKind.i64.wrap (IntKind.i64.wrap ((↑i : Int) + (1 : Int)) * (↑c : Int))).toNat - (IntKind.i64.wrap ((↑i : Int) * (↑c : Int))).toNat) (List.drop (IntKind.i64.wrap ((↑i : Int) * (↑c : Int))).toNat xs)).length ∧ (IntKind.i64.wrap (IntKind.i64.wrap ((↑i : Int) + (1 : Int)) * (↑c : Int))).toNat - (IntKind.i64.wrap ((↑i : Int) * (↑c : Int))).toNat ≤ (4611686018427387904 : Nat)) && (true && true || true && true) then bif (↑i : Int) == (0 : Int) then L f n (mkS (38 : Nat) [((1 : Nat), AVal.ptr (0 : Nat) (0 : Nat) (0 : Nat)), ((4 : Nat), AVal.int IntKind.i64 (↑i : Int)), ((5 : Nat), AVal.int IntKind.i64 (lo.sv (List.take ((IntKind.i64.wrap (IntKind.i64.wrap ((↑i : Int) + (1 : Int)) * (↑c : Int))).toNat - (IntKind.i64.wrap ((↑i : Int) * (↑c : Int))).toNat) (List.take ((IntKind.i64.wrap (IntKind.i64.wrap ((↑i : Int) + (1 : Int)) * (↑c : Int))).toNat - (IntKind.i64.wrap ((↑i : Int) * (↑c : Int))).toNat) (List.drop (IntKind.i64.wrap ((↑i : Int) * (↑c : Int))).toNat xs))))), ((9 : Nat), AVal.int IntKind.i64 (↑r : Int)), ((10 : Nat), AVal.int IntKind.i64 (IntKind.i64.wrap ((↑i : Int) + (1 : Int))))] [{ c := BC.cells [AVal.int IntKind.i64 (↑r : Int), AVal.int IntKind.i64 (↑c : Int), AVal.ro (Cont.ints IntKind.i64 xs) xs.length (1 : Nat), AVal.ro (Cont.ints IntKind.i64 ys) ys.length (1 : Nat)], ver := (0 : Nat) }]) else bif decide (v < lo.sv (List.take ((IntKind.i64.wrap (IntKind.i64.wrap ((↑i : Int) + (1 : Int)) * (↑c : Int))).toNat - (IntKind.i64.wrap ((↑i : Int) * (↑c : Int))).toNat) (List.take ((IntKind.i64.wrap (IntKind.i64.wrap ((↑i : Int) + (1 : Int)) * (↑c : Int))).toNat - (IntKind.i64.wrap ((↑i : Int) * (↑c : Int))).toNat) (List.drop (IntKind.i64.wrap ((↑i : Int) * (↑c : Int))).toNat xs)))) then L f n (mkS (38 : Nat) [((1 : Nat), AVal.ptr (0 : Nat) (0 : Nat) (0 : Nat)), ((4 : Nat), AVal.int IntKind.i64 (↑i : Int)), ((5 : Nat), AVal.int IntKind.i64 (lo.sv (List.take ((IntKind.i64.wrap (IntKind.i64.wrap ((↑i : Int) + (1 : Int)) * (↑c : Int))).toNat - (IntKind.i64.wrap ((↑i : Int) * (↑c : Int))).toNat) (List.take ((IntKind.i64.wrap (IntKind.i64.wrap ((↑i : Int) + (1 : Int)) * (↑c : Int))).toNat - (IntKind.i64.wrap ((↑i : Int) * (↑c : Int))).toNat) (List.drop (IntKind.i64.wrap ((↑i : Int) * (↑c : Int))).toNat xs))))), ((9 : Nat), AVal.int IntKind.i64 (↑r : Int)), ((10 : Nat), AVal.int IntKind.i64 (IntKind.i64.wrap ((↑i : Int) + (1 : Int))))] [{ c := BC.cells [AVal.int IntKind.i64 (↑r : Int), AVal.int IntKind.i64 (↑c : Int), AVal.ro (Cont.ints IntKind.i64 xs) xs.length (1 : Nat), AVal.ro (Cont.ints IntKind.i64 ys) ys.length (1 : Nat)], ver := (0 : Nat) }]) else L f n (mkS (38 : Nat) [((1 : Nat), AVal.ptr (0 : Nat) (0 : Nat) (0 : Nat)), ((4 : Nat), AVal.int IntKind.i64 (↑w : Int)), ((5 : Nat), AVal.int IntKind.i64 v), ((9 : Nat), AVal.int IntKind.i64 (↑r : Int)), ((10 : Nat), AVal.int IntKind.i64 (IntKind.i64.wrap ((↑i : Int) + (1 : Int))))] [{ c := BC.cells [AVal.int IntKind.i64 (↑r : Int), AVal.int IntKind.i64 (↑c : Int), AVal.ro (Cont.ints IntKind.i64 xs) xs.length (1 : Nat), AVal.ro (Cont.ints IntKind.i64 ys) ys.length (1 : Nat)], ver := (0 : Nat) }]) else none else none else none else none else none else some (AVal.tup [AVal.int IntKind.i64 (↑w : Int), AVal.int IntKind.i64 v], [])) := by kernel_rfl
theorem loop (r c : Nat) (xs ys : List Int) (f : Nat) (hr : 1 ≤ r ∧ r ≤ 6) (hc : 1 ≤ c ∧ c ≤ 6) (hx : xs.length = r * c) (hy : ys.length = r * c) : ∀ (d i n w : Nat) (v : Int), i + d = r → d < n →
    L f n (mkS 38 [(1, .ptr 0 0 0), (4, .int .i64 (w : Int)), (5, .int .i64 v), (9, .int .i64 r), (10, .int .i64 i)] [⟨.cells [.int .i64 r, .int .i64 c, .ro (.ints .i64 xs) xs.length 1, .ro (.ints .i64 ys) ys.length 1], 0⟩]) = some (.tup [.int .i64 ((pk.go sr.gt (sr.f.sv c xs) d i w v).1 : Nat), .int .i64 (pk.go sr.gt (sr.f.sv c xs) d i w v).2], []) := by
  intro d
  induction d with
  | zero =>
    intro i n w v hi hn
    obtain ⟨n, rfl⟩ : ∃ k, n = k + 1 := ⟨n - 1, by omega⟩
    rw [round]
    simp -implicitDefEqProofs (disch := omega) only [take_one, set_one, decide_eq_true, decide_eq_false, IntWalk.i64_in, beqT, beqF, bneT, bneF, nat_succ, ← Int.natCast_mul, ← Int.natCast_add, Int.toNat_natCast, Int.zero_mul, Int.zero_add, Int.add_zero, Nat.zero_add, Nat.add_zero, Nat.zero_mul, List.length_singleton, List.length_append, List.length_nil, List.length_cons, List.take_length, List.drop_zero, List.replicate_zero, List.take_nil, List.nil_append, Nat.reduceBEq, Nat.reduceMul, Nat.reduceLeDiff, eq_self, and_self, true_and, and_true, decide_true, decide_false, Bool.and_self, Bool.or_self, Bool.and_true, Bool.true_and, Bool.and_false, Bool.false_and, Bool.or_true, Bool.true_or, Bool.or_false, Bool.false_or, Bool.not_true, Bool.not_false, cond_true, cond_false]
    rfl
  | succ d ih =>
    intro i n w v hi hn
    obtain ⟨n, rfl⟩ : ∃ k, n = k + 1 := ⟨n - 1, by omega⟩
    have hir : i < r := by omega
    have h36 := gm.le_36 hr.2 hc.2
    have hm : (i + 1) * c = i * c + c := Nat.succ_mul i c
    have hle : (i + 1) * c ≤ r * c := Nat.mul_le_mul_right c hir
    have e1 : (i + 1) * c - i * c = c := by omega
    have e2 : ((xs.drop (i * c)).take c).length = c := by rw [List.length_take, List.length_drop]; omega
    have e3 : lo.sv ((xs.drop (i * c)).take c) = sr.f.sv c xs i := rfl
    have e4 : ∀ l : List Int, (l.take c).take c = l.take c := fun l => by rw [List.take_take, Nat.min_self]
    have g := ih (i + 1) n i (sr.f.sv c xs i) (by omega) (by omega)
    have g2 := ih (i + 1) n w v (by omega) (by omega)
    rw [round]
    simp -implicitDefEqProofs (disch := omega) only [e1, e2, e3, e4, take_one, set_one, decide_eq_true, decide_eq_false, IntWalk.i64_in, beqT, beqF, bneT, bneF, nat_succ, ← Int.natCast_mul, ← Int.natCast_add, Int.toNat_natCast, Int.zero_mul, Int.zero_add, Int.add_zero, Nat.zero_add, Nat.add_zero, Nat.zero_mul, List.length_singleton, List.length_append, List.length_nil, List.length_cons, List.take_length, List.drop_zero, List.replicate_zero, List.take_nil, List.nil_append, Nat.reduceBEq, Nat.reduceMul, Nat.reduceLeDiff, eq_self, and_self, true_and, and_true, decide_true, decide_false, Bool.and_self, Bool.or_self, Bool.and_true, Bool.true_and, Bool.and_false, Bool.false_and, Bool.or_true, Bool.true_or, Bool.or_false, Bool.false_or, Bool.not_true, Bool.not_false, cond_true, cond_false]
    simp only [pk.go]
    cases hz : ((i : Int) == 0)
    · cases hb : sr.gt (sr.f.sv c xs i) v
      · have hb2 := hb
        unfold sr.gt at hb2
        rw [hb2]
        exact g2
      · have hb2 := hb
        unfold sr.gt at hb2
        rw [hb2]
        exact g
    · exact g
theorem run : ∀ args v new, R args = some (true, v, new) → ∃ fuel, runFn Try.prog (orc [⟨60, slMinG.R⟩]) hd Dr.std (some 0) fuel (bodyOf Try.f49) 38 [2, 3] args [] = some (v, new) := by
  intro args v new h
  unfold R at h
  split at h
  · rename_i r c xs ma ys mb
    simp only [Option.some.injEq, Prod.mk.injEq, Bool.and_eq_true, decide_eq_true_eq, Bool.not_eq_true'] at h
    obtain ⟨⟨⟨rfl, rfl, h3, h4⟩, hv⟩, rfl, rfl⟩ := h
    obtain ⟨r, c, rfl, rfl, hr, hc, hx, hy, vx, vy⟩ := gm.valid hv
    obtain ⟨F, hF⟩ : ∃ F : Nat, F = 100 := ⟨100, rfl⟩
    refine ⟨F, ?_⟩
    rw [start]
    exact loop r c xs ys F hr hc hx hy r 0 F 0 0 (by omega) (by omega)
  · cases h
theorem ok : EntOk Try.prog ⟨49, R⟩ :=
  ent_okA mixed (A := (orc [⟨60, slMinG.R⟩])) (orc_ok (by simp only [List.mem_cons, List.not_mem_nil, or_false, forall_eq_or_imp, forall_eq]; exact slMinG.ok)) Try.func49 (by kernel_rfl) (by kernel_rfl) (n := 38) (ts := [2, 3]) (hd := hd) (dr := Dr.std) (cut := (some 0)) (by kernel_rfl) (by kernel_rfl) (by kernel_rfl) run
end gSafe

namespace iSafeRow
def R : List AVal → Option (Bool × AVal × List Blk)
  | [.agg [.int .i64 r, .int .i64 c, .ro (.ints .i64 xs) ma 1, .ro (.ints .i64 ys) mb 1]] => some (decide (ma = xs.length ∧ mb = ys.length ∧ ma ≤ 4611686018427387904 ∧ mb ≤ 4611686018427387904) && gm.sp r c xs ys, .tup [.int .i64 (sr.w.sv r.toNat c.toNat xs), .int .i64 (sr.m.sv r.toNat c.toNat xs), .bool true], [])
  | _ => none
theorem go (r c : Int) (xs ys : List Int) (ma mb : Nat) :
  runFn Try.prog (orc [⟨13, iValidGame.R⟩, ⟨49, gSafe.R⟩]) hd0 Dr.std (some 0) 0 (bodyOf Try.f25) 17 [2, 3, 4] [.agg [.int .i64 r, .int .i64 c, .ro (.ints .i64 xs) ma 1, .ro (.ints .i64 ys) mb 1]] []
  = (bif true && true && (true && true && (true && true && (true && true && true))) then bif decide (ma = xs.length ∧ mb = ys.length ∧ ma ≤ (4611686018427387904 : Nat) ∧ mb ≤ (4611686018427387904 : Nat)) && (true && (true && (true && (true && true))) && true || true && true) then bif !gm.sp r c xs ys then some (AVal.tup [AVal.int IntKind.i64 (0 : Int), AVal.int IntKind.i64 (0 : Int), AVal.bool false], []) else bif true && true && (true && true && (true && true && (true && true && true))) then bif decide (ma = xs.length ∧ mb = ys.length ∧ ma ≤ (4611686018427387904 : Nat) ∧ mb ≤ (4611686018427387904 : Nat)) && gm.sp r c xs ys && (true && (true && (true && (true && true))) && true || true && (true && true) && true) then some (AVal.tup [AVal.int IntKind.i64 (sr.w.sv r.toNat c.toNat xs), AVal.int IntKind.i64 (sr.m.sv r.toNat c.toNat xs), AVal.bool true], []) else none else none else none else none) := by kernel_rfl
theorem run : ∀ args v new, R args = some (true, v, new) → ∃ fuel, runFn Try.prog (orc [⟨13, iValidGame.R⟩, ⟨49, gSafe.R⟩]) hd0 Dr.std (some 0) fuel (bodyOf Try.f25) 17 [2, 3, 4] args [] = some (v, new) := by
  intro args v new h
  unfold R at h
  split at h
  · rename_i r c xs ma ys mb
    simp only [Option.some.injEq, Prod.mk.injEq, Bool.and_eq_true, decide_eq_true_eq, Bool.not_eq_true'] at h
    obtain ⟨⟨⟨rfl, rfl, h3, h4⟩, hv⟩, rfl, rfl⟩ := h
    refine ⟨0, ?_⟩
    rw [go]
    simp -implicitDefEqProofs (disch := omega) only [hv, take_one, set_one, decide_eq_true, decide_eq_false, IntWalk.i64_in, beqT, beqF, bneT, bneF, nat_succ, ← Int.natCast_mul, ← Int.natCast_add, Int.toNat_natCast, Int.zero_mul, Int.zero_add, Int.add_zero, Nat.zero_add, Nat.add_zero, Nat.zero_mul, List.length_singleton, List.length_append, List.length_nil, List.length_cons, List.take_length, List.drop_zero, List.replicate_zero, List.take_nil, List.nil_append, Nat.reduceBEq, Nat.reduceMul, Nat.reduceLeDiff, eq_self, and_self, true_and, and_true, decide_true, decide_false, Bool.and_self, Bool.or_self, Bool.and_true, Bool.true_and, Bool.and_false, Bool.false_and, Bool.or_true, Bool.true_or, Bool.or_false, Bool.false_or, Bool.not_true, Bool.not_false, cond_true, cond_false]
  · cases h
theorem ok : EntOk Try.prog ⟨25, R⟩ :=
  ent_okA mixed (A := (orc [⟨13, iValidGame.R⟩, ⟨49, gSafe.R⟩])) (orc_ok (by simp only [List.mem_cons, List.not_mem_nil, or_false, forall_eq_or_imp, forall_eq]; exact ⟨iValidGame.ok, gSafe.ok⟩)) Try.func25 (by kernel_rfl) (by kernel_rfl) (n := 17) (ts := [2, 3, 4]) (hd := hd0) (dr := Dr.std) (cut := (some 0)) (by kernel_rfl) (by kernel_rfl) (by kernel_rfl) run
end iSafeRow

namespace iSafeColumn
def dr : Nat → Dr := fun i => bif eqN i 7 then ⟨some [0, 1, 2, 6, 3, 4, 5, 7, 8], false⟩ else ⟨none, false⟩
def R : List AVal → Option (Bool × AVal × List Blk)
  | [.agg [.int .i64 r, .int .i64 c, .ro (.ints .i64 xs) ma 1, .ro (.ints .i64 ys) mb 1]] => some (decide (ma = xs.length ∧ mb = ys.length ∧ ma ≤ 4611686018427387904 ∧ mb ≤ 4611686018427387904) && gm.sp r c xs ys, .tup [.int .i64 (sc.w.sv r.toNat c.toNat xs), .int .i64 (sc.m.sv r.toNat c.toNat xs), .bool true], [])
  | _ => none
def hd : Nat → Head := fun _ => ⟨[1, 5, 6, 13, 14], some 1⟩
noncomputable def L (f n : Nat) (s : State) := loopAt Try.prog (orc [⟨13, iValidGame.R⟩, ⟨39, gBestRows.R⟩, ⟨45, gA.R⟩]) hd dr 0 f (bodyOf Try.f26) 0 [true, true, true, false, true] (retK Try.prog [2, 3, 4] 0 (some 0)) n s
theorem start (r c : Int) (xs ys : List Int) (f : Nat) :
  runFn Try.prog (orc [⟨13, iValidGame.R⟩, ⟨39, gBestRows.R⟩, ⟨45, gA.R⟩]) hd dr (some 0) f (bodyOf Try.f26) 37 [2, 3, 4] [.agg [.int .i64 r, .int .i64 c, .ro (.ints .i64 xs) xs.length 1, .ro (.ints .i64 ys) ys.length 1]] []
  = (bif true && true && (true && true && (true && true && (true && true && true))) then bif decide (xs.length = xs.length ∧ ys.length = ys.length ∧ xs.length ≤ (4611686018427387904 : Nat) ∧ ys.length ≤ (4611686018427387904 : Nat)) && (true && (true && (true && (true && true))) && true || true && true) then bif !gm.sp r c xs ys then some (AVal.tup [AVal.int IntKind.i64 (0 : Int), AVal.int IntKind.i64 (0 : Int), AVal.bool false], []) else bif true && true then L f f (mkS (37 : Nat) [((1 : Nat), AVal.ptr (0 : Nat) (0 : Nat) (0 : Nat)), ((5 : Nat), AVal.int IntKind.i64 (0 : Int)), ((6 : Nat), AVal.int IntKind.i64 (0 : Int)), ((13 : Nat), AVal.int IntKind.i64 c), ((14 : Nat), AVal.int IntKind.i64 (0 : Int))] [{ c := BC.cells [AVal.int IntKind.i64 r, AVal.int IntKind.i64 c, AVal.ro (Cont.ints IntKind.i64 xs) xs.length (1 : Nat), AVal.ro (Cont.ints IntKind.i64 ys) ys.length (1 : Nat)], ver := (0 : Nat) }]) else none else none else none) := by kernel_rfl
theorem round (r c : Nat) (xs ys : List Int) (w : Nat) (v : Int) (i f n : Nat) :
  L f (n + 1) (mkS 37 [(1, .ptr 0 0 0), (5, .int .i64 (w : Int)), (6, .int .i64 v), (13, .int .i64 c), (14, .int .i64 i)] [⟨.cells [.int .i64 r, .int .i64 c, .ro (.ints .i64 xs) xs.length 1, .ro (.ints .i64 ys) ys.length 1], 0⟩])
  = (bif decide ((↑i : Int) < (↑c : Int)) then bif true && true && (true && true && (true && true && (true && true && true))) then bif true && true && (true && true && (true && true && (true && true && true))) then bif decide (xs.length = xs.length ∧ ys.length = ys.length ∧ (0 : Int) ≤ (↑i : Int) ∧ (↑i : Int) < (↑c : Int)) && gm.sp (↑r : Int) (↑c : Int) xs ys && (true && (true && (true && (true && true))) && (true && true) || true && (true && true)) then bif decide ((0 : Int) < (↑(br.sv (↑r : Int).toNat (↑c : Int).toNat xs (↑i : Int).toNat).length : Int)) then bif true && decide ((0 : Nat) < (br.sv (↑r : Int).toNat (↑c : Int).toNat xs (↑i : Int).toNat).length) then bif decide (xs.length = xs.length ∧ ys.length = ys.length ∧ (0 : Int) ≤ gz (br.sv (↑r : Int).toNat (↑c : Int).toNat xs (↑i : Int).toNat) (nat_lit 0) ∧ (0 : Int) ≤ (↑i : Int) ∧ gz (br.sv (↑r : Int).toNat (↑c : Int).toNat xs (↑i : Int).toNat) (nat_lit 0) ≤ (100 : Int) ∧ (↑i : Int) ≤ (100 : Int) ∧ (0 : Int) ≤ (↑c : Int) ∧ (↑c : Int) ≤ (100 : Int) ∧ gz (br.sv (↑r : Int).toNat (↑c : Int).toNat xs (↑i : Int).toNat) (nat_lit 0) * (↑c : Int) + (↑i : Int) < (↑xs.length : Int)) && (true && (true && (true && (true && true))) && (true && (true && true)) || true && true) then bif (↑i : Int) == (0 : Int) then L f n (mkS (37 : Nat) [((1 : Nat), AVal.ptr (0 : Nat) (0 : Nat) (0 : Nat)), ((5 : Nat), AVal.int IntKind.i64 (↑i : Int)), ((6 : Nat), AVal.int IntKind.i64 (gz xs (gz (br.sv (↑r : Int).toNat (↑c : Int).toNat xs (↑i : Int).toNat) (0 : Nat) * (↑c : Int) + (↑i : Int)).toNat)), ((13 : Nat), AVal.int IntKind.i64 (↑c : Int)), ((14 : Nat), AVal.int IntKind.i64 (IntKind.i64.wrap ((↑i : Int) + (1 : Int))))] [{ c := BC.cells [AVal.int IntKind.i64 (↑r : Int), AVal.int IntKind.i64 (↑c : Int), AVal.ro (Cont.ints IntKind.i64 xs) xs.length (1 : Nat), AVal.ro (Cont.ints IntKind.i64 ys) ys.length (1 : Nat)], ver := (0 : Nat) }]) else bif decide (gz xs (gz (br.sv (↑r : Int).toNat (↑c : Int).toNat xs (↑i : Int).toNat) (0 : Nat) * (↑c : Int) + (↑i : Int)).toNat < v) then L f n (mkS (37 : Nat) [((1 : Nat), AVal.ptr (0 : Nat) (0 : Nat) (0 : Nat)), ((5 : Nat), AVal.int IntKind.i64 (↑i : Int)), ((6 : Nat), AVal.int IntKind.i64 (gz xs (gz (br.sv (↑r : Int).toNat (↑c : Int).toNat xs (↑i : Int).toNat) (0 : Nat) * (↑c : Int) + (↑i : Int)).toNat)), ((13 : Nat), AVal.int IntKind.i64 (↑c : Int)), ((14 : Nat), AVal.int IntKind.i64 (IntKind.i64.wrap ((↑i : Int) + (1 : Int))))] [{ c := BC.cells [AVal.int IntKind.i64 (↑r : Int), AVal.int IntKind.i64 (↑c : Int), AVal.ro (Cont.ints IntKind.i64 xs) xs.length (1 : Nat), AVal.ro (Cont.ints IntKind.i64 ys) ys.length (1 : Nat)], ver := (0 : Nat) }]) else L f n (mkS (37 : Nat) [((1 : Nat), AVal.ptr (0 : Nat) (0 : Nat) (0 : Nat)), ((5 : Nat), AVal.int IntKind.i64 (↑w : Int)), ((6 : Nat), AVal.int IntKind.i64 v), ((13 : Nat), AVal.int IntKind.i64 (↑c : Int)), ((14 : Nat), AVal.int IntKind.i64 (IntKind.i64.wrap ((↑i : Int) + (1 : Int))))] [{ c := BC.cells [AVal.int IntKind.i64 (↑r : Int), AVal.int IntKind.i64 (↑c : Int), AVal.ro (Cont.ints IntKind.i64 xs) xs.length (1 : Nat), AVal.ro (Cont.ints IntKind.i64 ys) ys.length (1 : Nat)], ver := (0 : Nat) }]) else none else none else none else none else none else none else some (AVal.tup [AVal.int IntKind.i64 (↑w : Int), AVal.int IntKind.i64 v, AVal.bool true], [])) := by kernel_rfl
theorem loop (r c : Nat) (xs ys : List Int) (f : Nat) (hv : gm.sp r c xs ys = true) (hr : 1 ≤ r ∧ r ≤ 6) (hc : 1 ≤ c ∧ c ≤ 6) (hx : xs.length = r * c) (hy : ys.length = r * c) : ∀ (d i n w : Nat) (v : Int), i + d = c → d < n →
    L f n (mkS 37 [(1, .ptr 0 0 0), (5, .int .i64 (w : Int)), (6, .int .i64 v), (13, .int .i64 c), (14, .int .i64 i)] [⟨.cells [.int .i64 r, .int .i64 c, .ro (.ints .i64 xs) xs.length 1, .ro (.ints .i64 ys) ys.length 1], 0⟩]) = some (.tup [.int .i64 ((pk.go sr.lt (sc.f.sv r c xs) d i w v).1 : Nat), .int .i64 (pk.go sr.lt (sc.f.sv r c xs) d i w v).2, .bool true], []) := by
  intro d
  induction d with
  | zero =>
    intro i n w v hi hn
    obtain ⟨n, rfl⟩ : ∃ k, n = k + 1 := ⟨n - 1, by omega⟩
    rw [round]
    simp -implicitDefEqProofs (disch := omega) only [take_one, set_one, decide_eq_true, decide_eq_false, IntWalk.i64_in, beqT, beqF, bneT, bneF, nat_succ, ← Int.natCast_mul, ← Int.natCast_add, Int.toNat_natCast, Int.zero_mul, Int.zero_add, Int.add_zero, Nat.zero_add, Nat.add_zero, Nat.zero_mul, List.length_singleton, List.length_append, List.length_nil, List.length_cons, List.take_length, List.drop_zero, List.replicate_zero, List.take_nil, List.nil_append, Nat.reduceBEq, Nat.reduceMul, Nat.reduceLeDiff, eq_self, and_self, true_and, and_true, decide_true, decide_false, Bool.and_self, Bool.or_self, Bool.and_true, Bool.true_and, Bool.and_false, Bool.false_and, Bool.or_true, Bool.true_or, Bool.or_false, Bool.false_or, Bool.not_true, Bool.not_false, cond_true, cond_false]
    rfl
  | succ d ih =>
    intro i n w v hi hn
    obtain ⟨n, rfl⟩ : ∃ k, n = k + 1 := ⟨n - 1, by omega⟩
    have hir : i < c := by omega
    have h36 := gm.le_36 hr.2 hc.2
    have hp := br.sv_pos c xs i (r := r) (by omega)
    obtain ⟨q, h1, h2⟩ := br.sv_mem (List.getElem_mem hp)
    rw [← gz_eq hp] at h1
    have hq := gm.ix_lt (R := r) (C := c) h2 hir
    have e3 : gz xs (q * c + i) = sc.f.sv r c xs i := by unfold sc.f.sv; rw [h1, Int.toNat_natCast]
    have g := ih (i + 1) n i (sc.f.sv r c xs i) (by omega) (by omega)
    have g2 := ih (i + 1) n w v (by omega) (by omega)
    have hv' := hv
    rw [round]
    simp -implicitDefEqProofs (disch := omega) only [h1, e3, hv, take_one, set_one, decide_eq_true, decide_eq_false, IntWalk.i64_in, beqT, beqF, bneT, bneF, nat_succ, ← Int.natCast_mul, ← Int.natCast_add, Int.toNat_natCast, Int.zero_mul, Int.zero_add, Int.add_zero, Nat.zero_add, Nat.add_zero, Nat.zero_mul, List.length_singleton, List.length_append, List.length_nil, List.length_cons, List.take_length, List.drop_zero, List.replicate_zero, List.take_nil, List.nil_append, Nat.reduceBEq, Nat.reduceMul, Nat.reduceLeDiff, eq_self, and_self, true_and, and_true, decide_true, decide_false, Bool.and_self, Bool.or_self, Bool.and_true, Bool.true_and, Bool.and_false, Bool.false_and, Bool.or_true, Bool.true_or, Bool.or_false, Bool.false_or, Bool.not_true, Bool.not_false, cond_true, cond_false]
    simp only [pk.go]
    cases hz : ((i : Int) == 0)
    · cases hb : sr.lt (sc.f.sv r c xs i) v
      · have hb2 := hb
        unfold sr.lt at hb2
        rw [hb2]
        exact g2
      · have hb2 := hb
        unfold sr.lt at hb2
        rw [hb2]
        exact g
    · exact g
theorem run : ∀ args v new, R args = some (true, v, new) → ∃ fuel, runFn Try.prog (orc [⟨13, iValidGame.R⟩, ⟨39, gBestRows.R⟩, ⟨45, gA.R⟩]) hd dr (some 0) fuel (bodyOf Try.f26) 37 [2, 3, 4] args [] = some (v, new) := by
  intro args v new h
  unfold R at h
  split at h
  · rename_i r c xs ma ys mb
    simp only [Option.some.injEq, Prod.mk.injEq, Bool.and_eq_true, decide_eq_true_eq, Bool.not_eq_true'] at h
    obtain ⟨⟨⟨rfl, rfl, h3, h4⟩, hv⟩, rfl, rfl⟩ := h
    have hv2 := hv
    obtain ⟨r, c, rfl, rfl, hr, hc, hx, hy, vx, vy⟩ := gm.valid hv2
    obtain ⟨F, hF⟩ : ∃ F : Nat, F = 100 := ⟨100, rfl⟩
    refine ⟨F, ?_⟩
    rw [start]
    simp -implicitDefEqProofs (disch := omega) only [hv, take_one, set_one, decide_eq_true, decide_eq_false, IntWalk.i64_in, beqT, beqF, bneT, bneF, nat_succ, ← Int.natCast_mul, ← Int.natCast_add, Int.toNat_natCast, Int.zero_mul, Int.zero_add, Int.add_zero, Nat.zero_add, Nat.add_zero, Nat.zero_mul, List.length_singleton, List.length_append, List.length_nil, List.length_cons, List.take_length, List.drop_zero, List.replicate_zero, List.take_nil, List.nil_append, Nat.reduceBEq, Nat.reduceMul, Nat.reduceLeDiff, eq_self, and_self, true_and, and_true, decide_true, decide_false, Bool.and_self, Bool.or_self, Bool.and_true, Bool.true_and, Bool.and_false, Bool.false_and, Bool.or_true, Bool.true_or, Bool.or_false, Bool.false_or, Bool.not_true, Bool.not_false, cond_true, cond_false]
    exact loop r c xs ys F hv hr hc hx hy c 0 F 0 0 (by omega) (by omega)
  · cases h
theorem ok : EntOk Try.prog ⟨26, R⟩ :=
  ent_okA mixed (A := (orc [⟨13, iValidGame.R⟩, ⟨39, gBestRows.R⟩, ⟨45, gA.R⟩])) (orc_ok (by simp only [List.mem_cons, List.not_mem_nil, or_false, forall_eq_or_imp, forall_eq]; exact ⟨iValidGame.ok, gBestRows.ok, gA.ok⟩)) Try.func26 (by kernel_rfl) (by kernel_rfl) (n := 37) (ts := [2, 3, 4]) (hd := hd) (dr := dr) (cut := (some 0)) (by kernel_rfl) (by kernel_rfl) (by kernel_rfl) run
end iSafeColumn

namespace slCloneG
def R : List AVal → Option (Bool × AVal × List Blk)
  | [.ro (.ints .i64 xs) m 1] => some (decide (0 < m ∧ m ≤ xs.length ∧ m ≤ 1048576), .own 0 0 m 0 1, [⟨.typ (.ints .i64 (xs.take m)), 0⟩])
  | _ => none
theorem goS (xs : List Int) (m : Nat) :
  runFn Try.prog (orc []) hd0 Dr.std none 0 (bodyOf Try.f48) 8 [2] [.ro (.ints .i64 xs) (m + 1) 1] []
  = (bif (1 : Nat) == (1 : Nat) && (1 : Nat) == (1 : Nat) && (true && (true && true) && (true && (decide ((0 : Nat) + (List.take (m + (1 : Nat)) xs).length ≤ (4611686018427387904 : Nat)) && decide (((0 : Nat) + (List.take (m + (1 : Nat)) xs).length) * (8 : Nat) ≤ (140737488355328 : Nat))))) then some (AVal.own (0 : Nat) (0 : Nat) ((0 : Nat) + (List.take (m + (1 : Nat)) xs).length) (0 : Nat) (1 : Nat), [{ c := BC.typ (Cont.ints IntKind.i64 (List.take (0 : Nat) (List.replicate (0 : Nat) (0 : Int)) ++ List.take (m + (1 : Nat)) xs)), ver := (0 : Nat) }]) else none) := by kernel_rfl
theorem run : ∀ args v new, R args = some (true, v, new) → ∃ fuel, runFn Try.prog (orc []) hd0 Dr.std none fuel (bodyOf Try.f48) 8 [2] args [] = some (v, new) := by
  intro args v new h
  unfold R at h
  split at h
  · rename_i xs m
    simp only [Option.some.injEq, Prod.mk.injEq, decide_eq_true_eq] at h
    obtain ⟨⟨h0, h1, h2⟩, rfl, rfl⟩ := h
    obtain ⟨m, rfl⟩ : ∃ k, m = k + 1 := ⟨m - 1, by omega⟩
    refine ⟨0, ?_⟩
    rw [goS]
    have e : (xs.take (m + 1)).length = m + 1 := by simp; omega
    simp -implicitDefEqProofs (disch := omega) only [e, take_one, set_one, decide_eq_true, decide_eq_false, IntWalk.i64_in, beqT, beqF, bneT, bneF, nat_succ, ← Int.natCast_mul, ← Int.natCast_add, Int.toNat_natCast, Int.zero_mul, Int.zero_add, Int.add_zero, Nat.zero_add, Nat.add_zero, Nat.zero_mul, List.length_singleton, List.length_append, List.length_nil, List.length_cons, List.take_length, List.drop_zero, List.replicate_zero, List.take_nil, List.nil_append, Nat.reduceBEq, Nat.reduceMul, Nat.reduceLeDiff, eq_self, and_self, true_and, and_true, decide_true, decide_false, Bool.and_self, Bool.or_self, Bool.and_true, Bool.true_and, Bool.and_false, Bool.false_and, Bool.or_true, Bool.true_or, Bool.or_false, Bool.false_or, Bool.not_true, Bool.not_false, cond_true, cond_false]
  · cases h
theorem ok : EntOk Try.prog ⟨48, R⟩ :=
  ent_okA mixed (A := (orc [])) (orc_ok (by simp)) Try.func48 (by kernel_rfl) (by kernel_rfl) (n := 8) (ts := [2]) (hd := hd0) (dr := Dr.std) (cut := none) (by kernel_rfl) (by kernel_rfl) (by kernel_rfl) run
end slCloneG

namespace iZeroSum
def R : List AVal → Option (Bool × AVal × List Blk)
  | [.int .i64 r, .int .i64 c, .ro (.ints .i64 xs) m 1] => some (decide (m = xs.length ∧ 1 ≤ r ∧ r ≤ 6 ∧ 1 ≤ c ∧ c ≤ 6 ∧ (xs.length : Int) = r * c) && xs.all gm.gain.sp, .tup [.agg [.int .i64 r, .int .i64 c, .own 0 0 xs.length 0 1, .own 1 0 xs.length 0 1], .bool true], [⟨.typ (.ints .i64 xs), 0⟩, ⟨.typ (.ints .i64 (r8.neg.sv xs)), 0⟩])
  | _ => none
def hd : Nat → Head := fun _ => ⟨[6, 8, 32, 33, 34], some 5⟩
noncomputable def L (f n : Nat) (s : State) := loopAt Try.prog (orc [⟨35, isSide.R⟩, ⟨36, isGains.R⟩, ⟨48, slCloneG.R⟩]) hd Dr.std 0 f (bodyOf Try.f24) 0 [true, true, true, false, true] (retK Try.prog [.cell 6 26, 7] 0 none) n s
theorem start (r c : Int) (xs : List Int) (f : Nat) :
  runFn Try.prog (orc [⟨35, isSide.R⟩, ⟨36, isGains.R⟩, ⟨48, slCloneG.R⟩]) hd Dr.std none f (bodyOf Try.f24) 47 [.cell 6 26, 7] [.int .i64 r, .int .i64 c, .ro (.ints .i64 xs) xs.length 1] []
  = (bif true && (true && true || true && true) then bif !(decide ((1 : Int) ≤ r) && decide (r ≤ (6 : Int))) then some (AVal.tup [AVal.agg [AVal.int IntKind.i64 (0 : Int), AVal.int IntKind.i64 (0 : Int), AVal.nils, AVal.nils], AVal.bool false], [{ c := BC.cells [AVal.int IntKind.i64 (0 : Int), AVal.int IntKind.i64 (0 : Int), AVal.nils, AVal.nils], ver := (0 : Nat) }]) else bif true && (true && true || true && true) then bif !(decide ((1 : Int) ≤ c) && decide (c ≤ (6 : Int))) then some (AVal.tup [AVal.agg [AVal.int IntKind.i64 (0 : Int), AVal.int IntKind.i64 (0 : Int), AVal.nils, AVal.nils], AVal.bool false], [{ c := BC.cells [AVal.int IntKind.i64 (0 : Int), AVal.int IntKind.i64 (0 : Int), AVal.nils, AVal.nils], ver := (0 : Nat) }]) else bif decide (xs.length = xs.length ∧ xs.length ≤ (4611686018427387904 : Nat) ∧ (1 : Int) ≤ r ∧ r ≤ (6 : Int) ∧ (1 : Int) ≤ c ∧ c ≤ (6 : Int)) && (true && (true && (true && true)) || true && true) then bif !(decide ((↑xs.length : Int) = r * c) && xs.all gm.gain.sp) then some (AVal.tup [AVal.agg [AVal.int IntKind.i64 (0 : Int), AVal.int IntKind.i64 (0 : Int), AVal.nils, AVal.nils], AVal.bool false], [{ c := BC.cells [AVal.int IntKind.i64 (0 : Int), AVal.int IntKind.i64 (0 : Int), AVal.nils, AVal.nils], ver := (0 : Nat) }]) else bif decide ((0 : Nat) < xs.length ∧ xs.length ≤ xs.length ∧ xs.length ≤ (1048576 : Nat)) && (true && true || true && (true && true)) then L f f (mkS (47 : Nat) [((6 : Nat), AVal.ptr (0 : Nat) (0 : Nat) (0 : Nat)), ((8 : Nat), AVal.ptr ((1 : Nat) + (1 : Nat)) (0 : Nat) (0 : Nat)), ((32 : Nat), AVal.ro (Cont.ints IntKind.i64 xs) xs.length (1 : Nat)), ((33 : Nat), AVal.int IntKind.i64 (↑xs.length : Int)), ((34 : Nat), AVal.int IntKind.i64 (0 : Int))] [{ c := BC.cells [AVal.int IntKind.i64 (0 : Int), AVal.int IntKind.i64 (0 : Int), AVal.nils, AVal.nils], ver := (0 : Nat) }, { c := BC.typ (Cont.ints IntKind.i64 (List.take xs.length xs)), ver := (0 : Nat) }, { c := BC.cells [AVal.int IntKind.i64 r, AVal.int IntKind.i64 c, AVal.own (1 : Nat) (0 : Nat) xs.length (0 : Nat) (1 : Nat), AVal.nils], ver := (0 : Nat) }]) else none else none else none else none) := by kernel_rfl
theorem round0 (r c : Int) (xs : List Int) (f n i : Nat) :
  L f (n + 1) (mkS 47 [(6, .ptr 0 0 0), (8, .ptr 2 0 0), (32, .ro (.ints .i64 xs) xs.length 1), (33, .int .i64 xs.length), (34, .int .i64 (i : Int))] [⟨.cells [.int .i64 0, .int .i64 0, .nils, .nils], 0⟩, ⟨.typ (.ints .i64 xs), 0⟩, ⟨.cells [.int .i64 r, .int .i64 c, .own 1 0 xs.length 0 1, .nils], 0⟩])
  = (bif decide ((↑i : Int) < (↑xs.length : Int)) then bif true && (decide ((0 : Int) ≤ (↑i : Int)) && decide ((↑i : Int) < (↑xs.length : Int))) then bif decide ((↑i : Int).toNat < xs.length) then bif true && true then bif (1 : Nat) == (1 : Nat) && (1 : Nat) == (1 : Nat) && (true && true && (decide ((0 : Nat) < (List.take (1 : Nat) (List.drop (0 : Nat) ((List.replicate (1 : Nat) (0 : Int)).set (0 : Nat) (IntKind.i64.wrap ((0 : Int) - gz xs (↑i : Int).toNat))))).length) && (decide ((List.take (1 : Nat) (List.drop (0 : Nat) ((List.replicate (1 : Nat) (0 : Int)).set (0 : Nat) (IntKind.i64.wrap ((0 : Int) - gz xs (↑i : Int).toNat))))).length ≤ (4611686018427387904 : Nat)) && decide ((List.take (1 : Nat) (List.drop (0 : Nat) ((List.replicate (1 : Nat) (0 : Int)).set (0 : Nat) (IntKind.i64.wrap ((0 : Int) - gz xs (↑i : Int).toNat))))).length * (8 : Nat) ≤ (140737488355328 : Nat))))) then L f n (mkS (47 : Nat) [((6 : Nat), AVal.ptr (0 : Nat) (0 : Nat) (0 : Nat)), ((8 : Nat), AVal.ptr (2 : Nat) (0 : Nat) (0 : Nat)), ((32 : Nat), AVal.ro (Cont.ints IntKind.i64 xs) xs.length (1 : Nat)), ((33 : Nat), AVal.int IntKind.i64 (↑xs.length : Int)), ((34 : Nat), AVal.int IntKind.i64 (IntKind.i64.wrap ((↑i : Int) + (1 : Int))))] [{ c := BC.cells [AVal.int IntKind.i64 (0 : Int), AVal.int IntKind.i64 (0 : Int), AVal.nils, AVal.nils], ver := (0 : Nat) }, { c := BC.typ (Cont.ints IntKind.i64 xs), ver := (0 : Nat) }, { c := BC.cells [AVal.int IntKind.i64 r, AVal.int IntKind.i64 c, AVal.own (1 : Nat) (0 : Nat) xs.length (0 : Nat) (1 : Nat), AVal.own ((1 : Nat) + (1 : Nat) + (1 : Nat) + (1 : Nat)) (0 : Nat) (List.take (1 : Nat) (List.drop (0 : Nat) ((List.replicate (1 : Nat) (0 : Int)).set (0 : Nat) (IntKind.i64.wrap ((0 : Int) - gz xs (↑i : Int).toNat))))).length (0 : Nat) (1 : Nat)], ver := (0 : Nat) }, { c := BC.typ (Cont.ints IntKind.i64 ((List.replicate (1 : Nat) (0 : Int)).set (0 : Nat) (IntKind.i64.wrap ((0 : Int) - gz xs (↑i : Int).toNat)))), ver := (0 : Nat) }, { c := BC.typ (Cont.ints IntKind.i64 (List.take (1 : Nat) (List.drop (0 : Nat) ((List.replicate (1 : Nat) (0 : Int)).set (0 : Nat) (IntKind.i64.wrap ((0 : Int) - gz xs (↑i : Int).toNat)))))), ver := (0 : Nat) }]) else none else none else none else none else bif true && true && (true && true && (true && true && (true && true && true))) then bif true && true && (true && true && (true && true && (true && true && true))) && true then some (AVal.tup [AVal.agg [AVal.int IntKind.i64 r, AVal.int IntKind.i64 c, AVal.own (1 : Nat) (0 : Nat) xs.length (0 : Nat) (1 : Nat), AVal.nils], AVal.bool true], [{ c := BC.cells [AVal.int IntKind.i64 r, AVal.int IntKind.i64 c, AVal.own (1 : Nat) (0 : Nat) xs.length (0 : Nat) (1 : Nat), AVal.nils], ver := (0 : Nat) }, { c := BC.typ (Cont.ints IntKind.i64 xs), ver := (0 : Nat) }, { c := BC.cells [AVal.int IntKind.i64 r, AVal.int IntKind.i64 c, AVal.own (1 : Nat) (0 : Nat) xs.length (0 : Nat) (1 : Nat), AVal.nils], ver := (0 : Nat) }]) else none else none) := by kernel_rfl
theorem round1 (r c : Int) (xs zs : List Int) (u : Int) (f n i : Nat) :
  L f (n + 1) (mkS 47 [(6, .ptr 0 0 0), (8, .ptr 2 0 0), (32, .ro (.ints .i64 xs) xs.length 1), (33, .int .i64 xs.length), (34, .int .i64 (i : Int))] [⟨.cells [.int .i64 0, .int .i64 0, .nils, .nils], 0⟩, ⟨.typ (.ints .i64 xs), 0⟩, ⟨.cells [.int .i64 r, .int .i64 c, .own 1 0 xs.length 0 1, .own 4 0 zs.length 0 1], 0⟩, ⟨.typ (.ints .i64 [u]), 0⟩, ⟨.typ (.ints .i64 zs), 0⟩])
  = (bif decide ((↑i : Int) < (↑xs.length : Int)) then bif true && (decide ((0 : Int) ≤ (↑i : Int)) && decide ((↑i : Int) < (↑xs.length : Int))) then bif decide ((↑i : Int).toNat < xs.length) then bif true && true then bif (1 : Nat) == (1 : Nat) && (1 : Nat) == (1 : Nat) && (true && (true && true) && (true && true && (decide (zs.length + (List.take (1 : Nat) (List.drop (0 : Nat) ((List.replicate (1 : Nat) (0 : Int)).set (0 : Nat) (IntKind.i64.wrap ((0 : Int) - gz xs (↑i : Int).toNat))))).length ≤ (4611686018427387904 : Nat)) && decide ((zs.length + (List.take (1 : Nat) (List.drop (0 : Nat) ((List.replicate (1 : Nat) (0 : Int)).set (0 : Nat) (IntKind.i64.wrap ((0 : Int) - gz xs (↑i : Int).toNat))))).length) * (8 : Nat) ≤ (140737488355328 : Nat))))) then L f n (mkS (47 : Nat) [((6 : Nat), AVal.ptr (0 : Nat) (0 : Nat) (0 : Nat)), ((8 : Nat), AVal.ptr (2 : Nat) (0 : Nat) (0 : Nat)), ((32 : Nat), AVal.ro (Cont.ints IntKind.i64 xs) xs.length (1 : Nat)), ((33 : Nat), AVal.int IntKind.i64 (↑xs.length : Int)), ((34 : Nat), AVal.int IntKind.i64 (IntKind.i64.wrap ((↑i : Int) + (1 : Int))))] [{ c := BC.cells [AVal.int IntKind.i64 (0 : Int), AVal.int IntKind.i64 (0 : Int), AVal.nils, AVal.nils], ver := (0 : Nat) }, { c := BC.typ (Cont.ints IntKind.i64 xs), ver := (0 : Nat) }, { c := BC.cells [AVal.int IntKind.i64 r, AVal.int IntKind.i64 c, AVal.own (1 : Nat) (0 : Nat) xs.length (0 : Nat) (1 : Nat), AVal.own (4 : Nat) (0 : Nat) (zs.length + (List.take (1 : Nat) (List.drop (0 : Nat) ((List.replicate (1 : Nat) (0 : Int)).set (0 : Nat) (IntKind.i64.wrap ((0 : Int) - gz xs (↑i : Int).toNat))))).length) (0 : Nat) (1 : Nat)], ver := (0 : Nat) }, { c := BC.typ (Cont.ints IntKind.i64 [u]), ver := (0 : Nat) }, { c := BC.typ (Cont.ints IntKind.i64 (List.take zs.length zs ++ List.take (1 : Nat) (List.drop (0 : Nat) ((List.replicate (1 : Nat) (0 : Int)).set (0 : Nat) (IntKind.i64.wrap ((0 : Int) - gz xs (↑i : Int).toNat)))))), ver := (0 : Nat) }]) else none else none else none else none else bif true && true && (true && true && (true && true && (true && true && true))) then bif true && true && (true && true && (true && true && (true && true && true))) && true then some (AVal.tup [AVal.agg [AVal.int IntKind.i64 r, AVal.int IntKind.i64 c, AVal.own (1 : Nat) (0 : Nat) xs.length (0 : Nat) (1 : Nat), AVal.own (4 : Nat) (0 : Nat) zs.length (0 : Nat) (1 : Nat)], AVal.bool true], [{ c := BC.cells [AVal.int IntKind.i64 r, AVal.int IntKind.i64 c, AVal.own (1 : Nat) (0 : Nat) xs.length (0 : Nat) (1 : Nat), AVal.own (4 : Nat) (0 : Nat) zs.length (0 : Nat) (1 : Nat)], ver := (0 : Nat) }, { c := BC.typ (Cont.ints IntKind.i64 xs), ver := (0 : Nat) }, { c := BC.cells [AVal.int IntKind.i64 r, AVal.int IntKind.i64 c, AVal.own (1 : Nat) (0 : Nat) xs.length (0 : Nat) (1 : Nat), AVal.own (4 : Nat) (0 : Nat) zs.length (0 : Nat) (1 : Nat)], ver := (0 : Nat) }, { c := BC.typ (Cont.ints IntKind.i64 [u]), ver := (0 : Nat) }, { c := BC.typ (Cont.ints IntKind.i64 zs), ver := (0 : Nat) }]) else none else none) := by kernel_rfl
theorem loop (r c : Int) (xs : List Int) (f : Nat) (hl : xs.length ≤ 36) : ∀ (d i n : Nat) (u : Int) (zs : List Int), i + d = xs.length → d < n → zs = (r8.neg.sv xs).take i → zs.length = i →
    regc [1, 4] (L f n (mkS 47 [(6, .ptr 0 0 0), (8, .ptr 2 0 0), (32, .ro (.ints .i64 xs) xs.length 1), (33, .int .i64 xs.length), (34, .int .i64 (i : Int))] [⟨.cells [.int .i64 0, .int .i64 0, .nils, .nils], 0⟩, ⟨.typ (.ints .i64 xs), 0⟩, ⟨.cells [.int .i64 r, .int .i64 c, .own 1 0 xs.length 0 1, .own 4 0 zs.length 0 1], 0⟩, ⟨.typ (.ints .i64 [u]), 0⟩, ⟨.typ (.ints .i64 zs), 0⟩])) = some (.tup [.agg [.int .i64 r, .int .i64 c, .own 0 0 xs.length 0 1, .own 1 0 xs.length 0 1], .bool true], [⟨.typ (.ints .i64 xs), 0⟩, ⟨.typ (.ints .i64 (r8.neg.sv xs)), 0⟩]) := by
  have ln : (r8.neg.sv xs).length = xs.length := by rw [r8.neg.sv, List.length_map]
  intro d
  induction d with
  | zero =>
    intro i n u zs hi hn hz hz2
    obtain ⟨n, rfl⟩ : ∃ k, n = k + 1 := ⟨n - 1, by omega⟩
    obtain rfl : i = xs.length := by omega
    have e : zs = r8.neg.sv xs := by rw [hz]; exact List.take_of_length_le (by omega)
    rw [round1, hz2, e]
    simp -implicitDefEqProofs (disch := omega) only [take_one, set_one, decide_eq_true, decide_eq_false, IntWalk.i64_in, beqT, beqF, bneT, bneF, nat_succ, ← Int.natCast_mul, ← Int.natCast_add, Int.toNat_natCast, Int.zero_mul, Int.zero_add, Int.add_zero, Nat.zero_add, Nat.add_zero, Nat.zero_mul, List.length_singleton, List.length_append, List.length_nil, List.length_cons, List.take_length, List.drop_zero, List.replicate_zero, List.take_nil, List.nil_append, Nat.reduceBEq, Nat.reduceMul, Nat.reduceLeDiff, eq_self, and_self, true_and, and_true, decide_true, decide_false, Bool.and_self, Bool.or_self, Bool.and_true, Bool.true_and, Bool.and_false, Bool.false_and, Bool.or_true, Bool.true_or, Bool.or_false, Bool.false_or, Bool.not_true, Bool.not_false, cond_true, cond_false]
    rfl
  | succ d ih =>
    intro i n u zs hi hn hz hz2
    obtain ⟨n, rfl⟩ : ∃ k, n = k + 1 := ⟨n - 1, by omega⟩
    have c2 : i < xs.length := by omega
    have e : zs ++ [IntKind.i64.wrap (0 - gz xs i)] = (r8.neg.sv xs).take (i + 1) := by
      rw [hz, List.take_add_one, List.getElem?_eq_getElem (by omega), gz_eq c2]
      simp [r8.neg.sv]
    have g := ih (i + 1) n u (zs ++ [IntKind.i64.wrap (0 - gz xs i)]) (by omega) (by omega) e (by rw [List.length_append, hz2]; rfl)
    rw [List.length_append, List.length_singleton] at g
    rw [round1]
    simp -implicitDefEqProofs (disch := omega) only [take_one, set_one, decide_eq_true, decide_eq_false, IntWalk.i64_in, beqT, beqF, bneT, bneF, nat_succ, ← Int.natCast_mul, ← Int.natCast_add, Int.toNat_natCast, Int.zero_mul, Int.zero_add, Int.add_zero, Nat.zero_add, Nat.add_zero, Nat.zero_mul, List.length_singleton, List.length_append, List.length_nil, List.length_cons, List.take_length, List.drop_zero, List.replicate_zero, List.take_nil, List.nil_append, Nat.reduceBEq, Nat.reduceMul, Nat.reduceLeDiff, eq_self, and_self, true_and, and_true, decide_true, decide_false, Bool.and_self, Bool.or_self, Bool.and_true, Bool.true_and, Bool.and_false, Bool.false_and, Bool.or_true, Bool.true_or, Bool.or_false, Bool.false_or, Bool.not_true, Bool.not_false, cond_true, cond_false]
    exact g
theorem run : ∀ args v new, R args = some (true, v, new) → ∃ fuel, regc [1, 4] (runFn Try.prog (orc [⟨35, isSide.R⟩, ⟨36, isGains.R⟩, ⟨48, slCloneG.R⟩]) hd Dr.std none fuel (bodyOf Try.f24) 47 [.cell 6 26, 7] args []) = some (v, new) := by
  intro args v new h
  unfold R at h
  split at h
  · rename_i r c xs m
    simp only [Option.some.injEq, Prod.mk.injEq, Bool.and_eq_true, decide_eq_true_eq] at h
    obtain ⟨⟨⟨rfl, h1, h2, h3, h4, h5⟩, hv⟩, rfl, rfl⟩ := h
    obtain ⟨F, hF⟩ : ∃ F : Nat, F = 100 := ⟨100, rfl⟩
    refine ⟨F + 1, ?_⟩
    have h36 := gm.le_66 h1 h2 h3 h4
    have h0 : 0 < xs.length := by omega
    have c2 : 0 < xs.length := by omega
    have e : [IntKind.i64.wrap (0 - gz xs 0)] = (r8.neg.sv xs).take 1 := by
      cases xs with
      | nil => simp at h0
      | cons y t => rfl
    have g := loop r c xs (F + 1) (by omega) (xs.length - 1) 1 F (IntKind.i64.wrap (0 - gz xs 0)) [IntKind.i64.wrap (0 - gz xs 0)] (by omega) (by omega) e rfl
    rw [start]
    simp -implicitDefEqProofs (disch := omega) only [hv, take_one, set_one, decide_eq_true, decide_eq_false, IntWalk.i64_in, beqT, beqF, bneT, bneF, nat_succ, ← Int.natCast_mul, ← Int.natCast_add, Int.toNat_natCast, Int.zero_mul, Int.zero_add, Int.add_zero, Nat.zero_add, Nat.add_zero, Nat.zero_mul, List.length_singleton, List.length_append, List.length_nil, List.length_cons, List.take_length, List.drop_zero, List.replicate_zero, List.take_nil, List.nil_append, Nat.reduceBEq, Nat.reduceMul, Nat.reduceLeDiff, eq_self, and_self, true_and, and_true, decide_true, decide_false, Bool.and_self, Bool.or_self, Bool.and_true, Bool.true_and, Bool.and_false, Bool.false_and, Bool.or_true, Bool.true_or, Bool.or_false, Bool.false_or, Bool.not_true, Bool.not_false, cond_true, cond_false]
    have hr0 := round0 r c xs (F + 1) F 0
    simp -implicitDefEqProofs (disch := omega) only [decide_eq_true, Int.natCast_zero, Int.toNat_zero, Int.zero_add] at hr0
    refine (congrArg (regc [1, 4]) hr0).trans ?_
    simp -implicitDefEqProofs (disch := omega) only [take_one, set_one, decide_eq_true, decide_eq_false, IntWalk.i64_in, beqT, beqF, bneT, bneF, nat_succ, ← Int.natCast_mul, ← Int.natCast_add, Int.toNat_natCast, Int.zero_mul, Int.zero_add, Int.add_zero, Nat.zero_add, Nat.add_zero, Nat.zero_mul, List.length_singleton, List.length_append, List.length_nil, List.length_cons, List.take_length, List.drop_zero, List.replicate_zero, List.take_nil, List.nil_append, Nat.reduceBEq, Nat.reduceMul, Nat.reduceLeDiff, eq_self, and_self, true_and, and_true, decide_true, decide_false, Bool.and_self, Bool.or_self, Bool.and_true, Bool.true_and, Bool.and_false, Bool.false_and, Bool.or_true, Bool.true_or, Bool.or_false, Bool.false_or, Bool.not_true, Bool.not_false, cond_true, cond_false]
    exact g
  · cases h
theorem ok : EntOk Try.prog ⟨24, R⟩ :=
  ent_okAG (ks := [1, 4]) mixed (A := (orc [⟨35, isSide.R⟩, ⟨36, isGains.R⟩, ⟨48, slCloneG.R⟩])) (orc_ok (by simp only [List.mem_cons, List.not_mem_nil, or_false, forall_eq_or_imp, forall_eq]; exact ⟨isSide.ok, isGains.ok, slCloneG.ok⟩)) Try.func24 (by kernel_rfl) (by kernel_rfl) (n := 47) (ts := [.cell 6 26, 7]) (hd := hd) (dr := Dr.std) (cut := none) (by kernel_rfl) (by kernel_rfl) (by kernel_rfl) run
end iZeroSum

namespace iPotentialOf
def dr : Nat → Dr := fun i => bif eqN i 10 then ⟨some [0, 1, 2, 4, 7, 8, 9, 12, 13, 3, 5, 6, 10, 11, 14, 15, 16, 17, 18], false⟩ else bif eqN i 19 then ⟨some [0, 1, 2, 3, 4, 5, 6, 7, 8, 9, 10, 11, 12, 13, 14, 15, 16, 17, 18, 19, 21, 22, 20, 23, 24, 25], false⟩ else ⟨none, false⟩
def Rt : List AVal → Option (Bool × AVal × List Blk)
  | [.agg [.int .i64 r, .int .i64 c, .ro (.ints .i64 xs) ma 1, .ro (.ints .i64 ys) mb 1]] => some (decide (ma = xs.length ∧ mb = ys.length ∧ ma ≤ 4611686018427387904 ∧ mb ≤ 4611686018427387904) && (gm.sp r c xs ys && po.sp r.toNat c.toNat xs ys), .tup [.own 0 0 (r.toNat * c.toNat) 0 1, .bool true], [⟨.typ (.ints .i64 (po.sv c.toNat xs ys (r.toNat * c.toNat))), 0⟩])
  | _ => none
def Rf : List AVal → Option (Bool × AVal × List Blk)
  | [.agg [.int .i64 r, .int .i64 c, .ro (.ints .i64 xs) ma 1, .ro (.ints .i64 ys) mb 1]] => some (decide (ma = xs.length ∧ mb = ys.length ∧ ma ≤ 4611686018427387904 ∧ mb ≤ 4611686018427387904) && (gm.sp r c xs ys && !po.sp r.toNat c.toNat xs ys), .tup [.nils, .bool false], [])
  | _ => none
def hd : Nat → Head := fun i => bif eqN i 0 then ⟨[1, 2, 3, 4, 14, 15], some 2⟩ else bif eqN i 2 then ⟨[1, 2, 3, 4, 5, 14, 15, 19, 20], some 2⟩ else bif eqN i 4 then ⟨[1, 2, 3, 4, 44, 45], some 2⟩ else ⟨[1, 2, 3, 4, 7, 44, 45, 49, 50], some 2⟩
noncomputable def L0 (f n : Nat) (s : State) := loopAt Try.prog (orc [⟨13, iValidGame.R⟩, ⟨45, gA.R⟩, ⟨46, gB.R⟩]) hd dr 0 f (bodyOf Try.f23) 0 [true, true, true, false, true] (retK Try.prog [2, 3] 0 none) n s
noncomputable def L2 (f n n2 : Nat) (s : State) := loopAt Try.prog (orc [⟨13, iValidGame.R⟩, ⟨45, gA.R⟩, ⟨46, gB.R⟩]) hd dr 0 f (bodyAt (bodyOf Try.f23) [true, true, true, false, true]) (curAt (bodyOf Try.f23) 0 [true, true, true, false, true]) [true, true, false, true, true] (iterK (normE 0 (hd (curAt (bodyOf Try.f23) 0 [true, true, true, false, true]))) (L0 f n) (contAt Try.prog (orc [⟨13, iValidGame.R⟩, ⟨45, gA.R⟩, ⟨46, gB.R⟩]) hd dr 0 f (bodyOf Try.f23) 0 [true, true, true, false, true] (retK Try.prog [2, 3] 0 none))) n2 s
noncomputable def L4 (f n : Nat) (s : State) := loopAt Try.prog (orc [⟨13, iValidGame.R⟩, ⟨45, gA.R⟩, ⟨46, gB.R⟩]) hd dr 0 f (bodyOf Try.f23) 0 [true, true, true, true, false, true] (retK Try.prog [2, 3] 0 none) n s
noncomputable def L6 (f n n2 : Nat) (s : State) := loopAt Try.prog (orc [⟨13, iValidGame.R⟩, ⟨45, gA.R⟩, ⟨46, gB.R⟩]) hd dr 0 f (bodyAt (bodyOf Try.f23) [true, true, true, true, false, true]) (curAt (bodyOf Try.f23) 0 [true, true, true, true, false, true]) [true, true, false, true, true] (iterK (normE 0 (hd (curAt (bodyOf Try.f23) 0 [true, true, true, true, false, true]))) (L4 f n) (contAt Try.prog (orc [⟨13, iValidGame.R⟩, ⟨45, gA.R⟩, ⟨46, gB.R⟩]) hd dr 0 f (bodyOf Try.f23) 0 [true, true, true, true, false, true] (retK Try.prog [2, 3] 0 none))) n2 s
theorem start (r c : Int) (xs ys : List Int) (f : Nat) :
  runFn Try.prog (orc [⟨13, iValidGame.R⟩, ⟨45, gA.R⟩, ⟨46, gB.R⟩]) hd dr none f (bodyOf Try.f23) 82 [2, 3] [.agg [.int .i64 r, .int .i64 c, .ro (.ints .i64 xs) xs.length 1, .ro (.ints .i64 ys) ys.length 1]] []
  = (bif true && true && (true && true && (true && true && (true && true && true))) then bif decide (xs.length = xs.length ∧ ys.length = ys.length ∧ xs.length ≤ (4611686018427387904 : Nat) ∧ ys.length ≤ (4611686018427387904 : Nat)) && (true && (true && (true && (true && true))) && true || true && true) then bif !gm.sp r c xs ys then some (AVal.tup [AVal.nils, AVal.bool false], [{ c := BC.cells [AVal.int IntKind.i64 r, AVal.int IntKind.i64 c, AVal.ro (Cont.ints IntKind.i64 xs) xs.length (1 : Nat), AVal.ro (Cont.ints IntKind.i64 ys) ys.length (1 : Nat)], ver := (0 : Nat) }]) else bif true && true then L0 f f (mkS (82 : Nat) [((1 : Nat), AVal.ptr (0 : Nat) (0 : Nat) (0 : Nat)), ((2 : Nat), AVal.nils), ((3 : Nat), AVal.bool false), ((4 : Nat), AVal.own (1 : Nat) (0 : Nat) (0 : Nat) (0 : Nat) (1 : Nat)), ((14 : Nat), AVal.int IntKind.i64 r), ((15 : Nat), AVal.int IntKind.i64 (0 : Int))] [{ c := BC.cells [AVal.int IntKind.i64 r, AVal.int IntKind.i64 c, AVal.ro (Cont.ints IntKind.i64 xs) xs.length (1 : Nat), AVal.ro (Cont.ints IntKind.i64 ys) ys.length (1 : Nat)], ver := (0 : Nat) }, { c := BC.typ (Cont.ints IntKind.i64 (List.replicate (0 : Nat) (0 : Int))), ver := (0 : Nat) }]) else none else none else none) := by kernel_rfl
theorem round0 (r c : Nat) (xs ys : List Int) (zs : List Int) (q : Nat) (i k f n n2 : Nat) :
  L0 f (n + 1) (mkS 82 [(1, .ptr 0 0 0), (2, .nils), (3, .bool false), (4, .own 1 0 q 0 1), (14, .int .i64 r), (15, .int .i64 (i : Int))] [⟨.cells [.int .i64 r, .int .i64 c, .ro (.ints .i64 xs) xs.length 1, .ro (.ints .i64 ys) ys.length 1], 0⟩, ⟨.typ (.ints .i64 zs), 0⟩])
  = (bif decide ((↑i : Int) < (↑r : Int)) then bif true && true then L2 f n f (mkS (82 : Nat) [((1 : Nat), AVal.ptr (0 : Nat) (0 : Nat) (0 : Nat)), ((2 : Nat), AVal.nils), ((3 : Nat), AVal.bool false), ((4 : Nat), AVal.own (1 : Nat) (0 : Nat) q (0 : Nat) (1 : Nat)), ((5 : Nat), AVal.int IntKind.i64 (↑i : Int)), ((14 : Nat), AVal.int IntKind.i64 (↑r : Int)), ((15 : Nat), AVal.int IntKind.i64 (↑i : Int)), ((19 : Nat), AVal.int IntKind.i64 (↑c : Int)), ((20 : Nat), AVal.int IntKind.i64 (0 : Int))] [{ c := BC.cells [AVal.int IntKind.i64 (↑r : Int), AVal.int IntKind.i64 (↑c : Int), AVal.ro (Cont.ints IntKind.i64 xs) xs.length (1 : Nat), AVal.ro (Cont.ints IntKind.i64 ys) ys.length (1 : Nat)], ver := (0 : Nat) }, { c := BC.typ (Cont.ints IntKind.i64 zs), ver := (0 : Nat) }]) else none else bif true && true then L4 f f (mkS (82 : Nat) [((1 : Nat), AVal.ptr (0 : Nat) (0 : Nat) (0 : Nat)), ((2 : Nat), AVal.nils), ((3 : Nat), AVal.bool false), ((4 : Nat), AVal.own (1 : Nat) (0 : Nat) q (0 : Nat) (1 : Nat)), ((44 : Nat), AVal.int IntKind.i64 (↑r : Int)), ((45 : Nat), AVal.int IntKind.i64 (0 : Int))] [{ c := BC.cells [AVal.int IntKind.i64 (↑r : Int), AVal.int IntKind.i64 (↑c : Int), AVal.ro (Cont.ints IntKind.i64 xs) xs.length (1 : Nat), AVal.ro (Cont.ints IntKind.i64 ys) ys.length (1 : Nat)], ver := (0 : Nat) }, { c := BC.typ (Cont.ints IntKind.i64 zs), ver := (0 : Nat) }]) else none) := by kernel_rfl
theorem round2 (r c : Nat) (xs ys : List Int) (zs : List Int) (q : Nat) (i k f n n2 : Nat) :
  L2 f n (n2 + 1) (mkS 82 [(1, .ptr 0 0 0), (2, .nils), (3, .bool false), (4, .own 1 0 q 0 1), (5, .int .i64 (i : Int)), (14, .int .i64 r), (15, .int .i64 (i : Int)), (19, .int .i64 c), (20, .int .i64 (k : Int))] [⟨.cells [.int .i64 r, .int .i64 c, .ro (.ints .i64 xs) xs.length 1, .ro (.ints .i64 ys) ys.length 1], 0⟩, ⟨.typ (.ints .i64 zs), 0⟩])
  = (bif decide ((↑k : Int) < (↑c : Int)) then bif true && true && (true && true && (true && true && (true && true && true))) then bif true && true && (true && true && (true && true && (true && true && true))) then bif true && true && (true && true && (true && true && (true && true && true))) then bif true && true && (true && true && (true && true && (true && true && true))) then bif decide (xs.length = xs.length ∧ ys.length = ys.length ∧ (0 : Int) ≤ (0 : Int) ∧ (0 : Int) ≤ (↑k : Int) ∧ (0 : Int) ≤ (100 : Int) ∧ (↑k : Int) ≤ (100 : Int) ∧ (0 : Int) ≤ (↑c : Int) ∧ (↑c : Int) ≤ (100 : Int) ∧ (0 : Int) * (↑c : Int) + (↑k : Int) < (↑ys.length : Int)) && (true && (true && (true && (true && true))) && (true && (true && true)) || true && true) then bif decide (xs.length = xs.length ∧ ys.length = ys.length ∧ (0 : Int) ≤ (0 : Int) ∧ (0 : Int) ≤ (0 : Int) ∧ (0 : Int) ≤ (100 : Int) ∧ (0 : Int) ≤ (100 : Int) ∧ (0 : Int) ≤ (↑c : Int) ∧ (↑c : Int) ≤ (100 : Int) ∧ (0 : Int) * (↑c : Int) + (0 : Int) < (↑ys.length : Int)) && (true && (true && (true && (true && true))) && true || true && true) then bif decide (xs.length = xs.length ∧ ys.length = ys.length ∧ (0 : Int) ≤ (↑i : Int) ∧ (0 : Int) ≤ (↑k : Int) ∧ (↑i : Int) ≤ (100 : Int) ∧ (↑k : Int) ≤ (100 : Int) ∧ (0 : Int) ≤ (↑c : Int) ∧ (↑c : Int) ≤ (100 : Int) ∧ (↑i : Int) * (↑c : Int) + (↑k : Int) < (↑xs.length : Int)) && (true && (true && (true && (true && true))) && (true && (true && true)) || true && true) then bif decide (xs.length = xs.length ∧ ys.length = ys.length ∧ (0 : Int) ≤ (0 : Int) ∧ (0 : Int) ≤ (↑k : Int) ∧ (0 : Int) ≤ (100 : Int) ∧ (↑k : Int) ≤ (100 : Int) ∧ (0 : Int) ≤ (↑c : Int) ∧ (↑c : Int) ≤ (100 : Int) ∧ (0 : Int) * (↑c : Int) + (↑k : Int) < (↑xs.length : Int)) && (true && (true && (true && (true && true))) && (true && (true && true)) || true && true) then bif (1 : Nat) == (1 : Nat) && (1 : Nat) == (1 : Nat) && (true && (true && true) && (true && true && (decide (q + (List.take (1 : Nat) (List.drop (0 : Nat) ((List.replicate (1 : Nat) (0 : Int)).set (0 : Nat) (IntKind.i64.wrap (IntKind.i64.wrap (IntKind.i64.wrap (gz ys ((0 : Int) * (↑c : Int) + (↑k : Int)).toNat - gz ys ((0 : Int) * (↑c : Int) + (0 : Int)).toNat) + gz xs ((↑i : Int) * (↑c : Int) + (↑k : Int)).toNat) - gz xs ((0 : Int) * (↑c : Int) + (↑k : Int)).toNat))))).length ≤ (4611686018427387904 : Nat)) && decide ((q + (List.take (1 : Nat) (List.drop (0 : Nat) ((List.replicate (1 : Nat) (0 : Int)).set (0 : Nat) (IntKind.i64.wrap (IntKind.i64.wrap (IntKind.i64.wrap (gz ys ((0 : Int) * (↑c : Int) + (↑k : Int)).toNat - gz ys ((0 : Int) * (↑c : Int) + (0 : Int)).toNat) + gz xs ((↑i : Int) * (↑c : Int) + (↑k : Int)).toNat) - gz xs ((0 : Int) * (↑c : Int) + (↑k : Int)).toNat))))).length) * (8 : Nat) ≤ (140737488355328 : Nat))))) then L2 f n n2 (mkS (82 : Nat) [((1 : Nat), AVal.ptr (0 : Nat) (0 : Nat) (0 : Nat)), ((2 : Nat), AVal.nils), ((3 : Nat), AVal.bool false), ((4 : Nat), AVal.own (1 : Nat) (0 : Nat) (q + (List.take (1 : Nat) (List.drop (0 : Nat) ((List.replicate (1 : Nat) (0 : Int)).set (0 : Nat) (IntKind.i64.wrap (IntKind.i64.wrap (IntKind.i64.wrap (gz ys ((0 : Int) * (↑c : Int) + (↑k : Int)).toNat - gz ys ((0 : Int) * (↑c : Int) + (0 : Int)).toNat) + gz xs ((↑i : Int) * (↑c : Int) + (↑k : Int)).toNat) - gz xs ((0 : Int) * (↑c : Int) + (↑k : Int)).toNat))))).length) (0 : Nat) (1 : Nat)), ((5 : Nat), AVal.int IntKind.i64 (↑i : Int)), ((14 : Nat), AVal.int IntKind.i64 (↑r : Int)), ((15 : Nat), AVal.int IntKind.i64 (↑i : Int)), ((19 : Nat), AVal.int IntKind.i64 (↑c : Int)), ((20 : Nat), AVal.int IntKind.i64 (IntKind.i64.wrap ((↑k : Int) + (1 : Int))))] [{ c := BC.cells [AVal.int IntKind.i64 (↑r : Int), AVal.int IntKind.i64 (↑c : Int), AVal.ro (Cont.ints IntKind.i64 xs) xs.length (1 : Nat), AVal.ro (Cont.ints IntKind.i64 ys) ys.length (1 : Nat)], ver := (0 : Nat) }, { c := BC.typ (Cont.ints IntKind.i64 (List.take q zs ++ List.take (1 : Nat) (List.drop (0 : Nat) ((List.replicate (1 : Nat) (0 : Int)).set (0 : Nat) (IntKind.i64.wrap (IntKind.i64.wrap (IntKind.i64.wrap (gz ys ((0 : Int) * (↑c : Int) + (↑k : Int)).toNat - gz ys ((0 : Int) * (↑c : Int) + (0 : Int)).toNat) + gz xs ((↑i : Int) * (↑c : Int) + (↑k : Int)).toNat) - gz xs ((0 : Int) * (↑c : Int) + (↑k : Int)).toNat)))))), ver := (0 : Nat) }]) else none else none else none else none else none else none else none else none else none else L0 f n (mkS (82 : Nat) [((1 : Nat), AVal.ptr (0 : Nat) (0 : Nat) (0 : Nat)), ((2 : Nat), AVal.nils), ((3 : Nat), AVal.bool false), ((4 : Nat), AVal.own (1 : Nat) (0 : Nat) q (0 : Nat) (1 : Nat)), ((14 : Nat), AVal.int IntKind.i64 (↑r : Int)), ((15 : Nat), AVal.int IntKind.i64 (IntKind.i64.wrap ((↑i : Int) + (1 : Int))))] [{ c := BC.cells [AVal.int IntKind.i64 (↑r : Int), AVal.int IntKind.i64 (↑c : Int), AVal.ro (Cont.ints IntKind.i64 xs) xs.length (1 : Nat), AVal.ro (Cont.ints IntKind.i64 ys) ys.length (1 : Nat)], ver := (0 : Nat) }, { c := BC.typ (Cont.ints IntKind.i64 zs), ver := (0 : Nat) }])) := by kernel_rfl
theorem round4 (r c : Nat) (xs ys : List Int) (zs : List Int) (q : Nat) (i k f n n2 : Nat) :
  L4 f (n + 1) (mkS 82 [(1, .ptr 0 0 0), (2, .nils), (3, .bool false), (4, .own 1 0 q 0 1), (44, .int .i64 r), (45, .int .i64 (i : Int))] [⟨.cells [.int .i64 r, .int .i64 c, .ro (.ints .i64 xs) xs.length 1, .ro (.ints .i64 ys) ys.length 1], 0⟩, ⟨.typ (.ints .i64 zs), 0⟩])
  = (bif decide ((↑i : Int) < (↑r : Int)) then bif true && true then L6 f n f (mkS (82 : Nat) [((1 : Nat), AVal.ptr (0 : Nat) (0 : Nat) (0 : Nat)), ((2 : Nat), AVal.nils), ((3 : Nat), AVal.bool false), ((4 : Nat), AVal.own (1 : Nat) (0 : Nat) q (0 : Nat) (1 : Nat)), ((7 : Nat), AVal.int IntKind.i64 (↑i : Int)), ((44 : Nat), AVal.int IntKind.i64 (↑r : Int)), ((45 : Nat), AVal.int IntKind.i64 (↑i : Int)), ((49 : Nat), AVal.int IntKind.i64 (↑c : Int)), ((50 : Nat), AVal.int IntKind.i64 (0 : Int))] [{ c := BC.cells [AVal.int IntKind.i64 (↑r : Int), AVal.int IntKind.i64 (↑c : Int), AVal.ro (Cont.ints IntKind.i64 xs) xs.length (1 : Nat), AVal.ro (Cont.ints IntKind.i64 ys) ys.length (1 : Nat)], ver := (0 : Nat) }, { c := BC.typ (Cont.ints IntKind.i64 zs), ver := (0 : Nat) }]) else none else some (AVal.tup [AVal.own (1 : Nat) (0 : Nat) q (0 : Nat) (1 : Nat), AVal.bool true], [{ c := BC.cells [AVal.int IntKind.i64 (↑r : Int), AVal.int IntKind.i64 (↑c : Int), AVal.ro (Cont.ints IntKind.i64 xs) xs.length (1 : Nat), AVal.ro (Cont.ints IntKind.i64 ys) ys.length (1 : Nat)], ver := (0 : Nat) }, { c := BC.typ (Cont.ints IntKind.i64 zs), ver := (0 : Nat) }])) := by kernel_rfl
theorem round6 (r c : Nat) (xs ys : List Int) (zs : List Int) (q : Nat) (i k f n n2 : Nat) :
  L6 f n (n2 + 1) (mkS 82 [(1, .ptr 0 0 0), (2, .nils), (3, .bool false), (4, .own 1 0 q 0 1), (7, .int .i64 (i : Int)), (44, .int .i64 r), (45, .int .i64 (i : Int)), (49, .int .i64 c), (50, .int .i64 (k : Int))] [⟨.cells [.int .i64 r, .int .i64 c, .ro (.ints .i64 xs) xs.length 1, .ro (.ints .i64 ys) ys.length 1], 0⟩, ⟨.typ (.ints .i64 zs), 0⟩])
  = (bif decide ((↑k : Int) < (↑c : Int)) then bif true && true then bif true && (decide ((0 : Int) ≤ IntKind.i64.wrap (IntKind.i64.wrap ((↑i : Int) * (↑c : Int)) + (↑k : Int))) && decide (IntKind.i64.wrap (IntKind.i64.wrap ((↑i : Int) * (↑c : Int)) + (↑k : Int)) < (↑q : Int))) then bif true && decide ((IntKind.i64.wrap (IntKind.i64.wrap ((↑i : Int) * (↑c : Int)) + (↑k : Int))).toNat < zs.length) then bif true && true then bif true && (decide ((0 : Int) ≤ IntKind.i64.wrap ((↑i : Int) * (↑c : Int))) && decide (IntKind.i64.wrap ((↑i : Int) * (↑c : Int)) < (↑q : Int))) then bif true && decide ((IntKind.i64.wrap ((↑i : Int) * (↑c : Int))).toNat < zs.length) then bif true && true && (true && true && (true && true && (true && true && true))) then bif true && true && (true && true && (true && true && (true && true && true))) then bif decide (xs.length = xs.length ∧ ys.length = ys.length ∧ (0 : Int) ≤ (↑i : Int) ∧ (0 : Int) ≤ (↑k : Int) ∧ (↑i : Int) ≤ (100 : Int) ∧ (↑k : Int) ≤ (100 : Int) ∧ (0 : Int) ≤ (↑c : Int) ∧ (↑c : Int) ≤ (100 : Int) ∧ (↑i : Int) * (↑c : Int) + (↑k : Int) < (↑ys.length : Int)) && (true && (true && (true && (true && true))) && (true && (true && true)) || true && true) then bif decide (xs.length = xs.length ∧ ys.length = ys.length ∧ (0 : Int) ≤ (↑i : Int) ∧ (0 : Int) ≤ (0 : Int) ∧ (↑i : Int) ≤ (100 : Int) ∧ (0 : Int) ≤ (100 : Int) ∧ (0 : Int) ≤ (↑c : Int) ∧ (↑c : Int) ≤ (100 : Int) ∧ (↑i : Int) * (↑c : Int) + (0 : Int) < (↑ys.length : Int)) && (true && (true && (true && (true && true))) && (true && true) || true && true) then bif IntKind.i64.wrap (gz zs (IntKind.i64.wrap (IntKind.i64.wrap ((↑i : Int) * (↑c : Int)) + (↑k : Int))).toNat - gz zs (IntKind.i64.wrap ((↑i : Int) * (↑c : Int))).toNat) != IntKind.i64.wrap (gz ys ((↑i : Int) * (↑c : Int) + (↑k : Int)).toNat - gz ys ((↑i : Int) * (↑c : Int) + (0 : Int)).toNat) then some (AVal.tup [AVal.nils, AVal.bool false], [{ c := BC.cells [AVal.int IntKind.i64 (↑r : Int), AVal.int IntKind.i64 (↑c : Int), AVal.ro (Cont.ints IntKind.i64 xs) xs.length (1 : Nat), AVal.ro (Cont.ints IntKind.i64 ys) ys.length (1 : Nat)], ver := (0 : Nat) }, { c := BC.typ (Cont.ints IntKind.i64 zs), ver := (0 : Nat) }]) else L6 f n n2 (mkS (82 : Nat) [((1 : Nat), AVal.ptr (0 : Nat) (0 : Nat) (0 : Nat)), ((2 : Nat), AVal.nils), ((3 : Nat), AVal.bool false), ((4 : Nat), AVal.own (1 : Nat) (0 : Nat) q (0 : Nat) (1 : Nat)), ((7 : Nat), AVal.int IntKind.i64 (↑i : Int)), ((44 : Nat), AVal.int IntKind.i64 (↑r : Int)), ((45 : Nat), AVal.int IntKind.i64 (↑i : Int)), ((49 : Nat), AVal.int IntKind.i64 (↑c : Int)), ((50 : Nat), AVal.int IntKind.i64 (IntKind.i64.wrap ((↑k : Int) + (1 : Int))))] [{ c := BC.cells [AVal.int IntKind.i64 (↑r : Int), AVal.int IntKind.i64 (↑c : Int), AVal.ro (Cont.ints IntKind.i64 xs) xs.length (1 : Nat), AVal.ro (Cont.ints IntKind.i64 ys) ys.length (1 : Nat)], ver := (0 : Nat) }, { c := BC.typ (Cont.ints IntKind.i64 zs), ver := (0 : Nat) }]) else none else none else none else none else none else none else none else none else none else none else L4 f n (mkS (82 : Nat) [((1 : Nat), AVal.ptr (0 : Nat) (0 : Nat) (0 : Nat)), ((2 : Nat), AVal.nils), ((3 : Nat), AVal.bool false), ((4 : Nat), AVal.own (1 : Nat) (0 : Nat) q (0 : Nat) (1 : Nat)), ((44 : Nat), AVal.int IntKind.i64 (↑r : Int)), ((45 : Nat), AVal.int IntKind.i64 (IntKind.i64.wrap ((↑i : Int) + (1 : Int))))] [{ c := BC.cells [AVal.int IntKind.i64 (↑r : Int), AVal.int IntKind.i64 (↑c : Int), AVal.ro (Cont.ints IntKind.i64 xs) xs.length (1 : Nat), AVal.ro (Cont.ints IntKind.i64 ys) ys.length (1 : Nat)], ver := (0 : Nat) }, { c := BC.typ (Cont.ints IntKind.i64 zs), ver := (0 : Nat) }])) := by kernel_rfl
theorem inner2 (r c : Nat) (xs ys : List Int) (f n i : Nat) (hr : 1 ≤ r ∧ r ≤ 6) (hc : 1 ≤ c ∧ c ≤ 6) (hx : xs.length = r * c) (hy : ys.length = r * c) (vx : ∀ x ∈ xs, -1000 ≤ x ∧ x ≤ 1000) (vy : ∀ x ∈ ys, -1000 ≤ x ∧ x ≤ 1000) (hi : i < r) : ∀ (d k n2 : Nat), k + d = c → d < n2 →
    L2 f n n2 (mkS 82 [(1, .ptr 0 0 0), (2, .nils), (3, .bool false), (4, .own 1 0 (i * c + k) 0 1), (5, .int .i64 (i : Int)), (14, .int .i64 r), (15, .int .i64 (i : Int)), (19, .int .i64 c), (20, .int .i64 (k : Int))] [⟨.cells [.int .i64 r, .int .i64 c, .ro (.ints .i64 xs) xs.length 1, .ro (.ints .i64 ys) ys.length 1], 0⟩, ⟨.typ (.ints .i64 (po.sv c xs ys (i * c + k))), 0⟩]) = L0 f n (mkS 82 [(1, .ptr 0 0 0), (2, .nils), (3, .bool false), (4, .own 1 0 ((i + 1) * c) 0 1), (14, .int .i64 r), (15, .int .i64 ((i + 1 : Nat) : Int))] [⟨.cells [.int .i64 r, .int .i64 c, .ro (.ints .i64 xs) xs.length 1, .ro (.ints .i64 ys) ys.length 1], 0⟩, ⟨.typ (.ints .i64 (po.sv c xs ys ((i + 1) * c))), 0⟩]) := by
  intro d
  induction d with
  | zero =>
    intro k n2 hk hn
    obtain ⟨n2, rfl⟩ : ∃ k, n2 = k + 1 := ⟨n2 - 1, by omega⟩
    obtain rfl : k = c := by omega
    rw [round2, Nat.succ_mul]
    simp -implicitDefEqProofs (disch := omega) only [take_one, set_one, decide_eq_true, decide_eq_false, IntWalk.i64_in, beqT, beqF, bneT, bneF, nat_succ, ← Int.natCast_mul, ← Int.natCast_add, Int.toNat_natCast, Int.zero_mul, Int.zero_add, Int.add_zero, Nat.zero_add, Nat.add_zero, Nat.zero_mul, List.length_singleton, List.length_append, List.length_nil, List.length_cons, List.take_length, List.drop_zero, List.replicate_zero, List.take_nil, List.nil_append, Nat.reduceBEq, Nat.reduceMul, Nat.reduceLeDiff, eq_self, and_self, true_and, and_true, decide_true, decide_false, Bool.and_self, Bool.or_self, Bool.and_true, Bool.true_and, Bool.and_false, Bool.false_and, Bool.or_true, Bool.true_or, Bool.or_false, Bool.false_or, Bool.not_true, Bool.not_false, cond_true, cond_false]
  | succ d ih =>
    intro k n2 hk' hn
    obtain ⟨n2, rfl⟩ : ∃ k, n2 = k + 1 := ⟨n2 - 1, by omega⟩
    have hk : k < c := by omega
    have hlt := gm.ix_lt (R := r) (C := c) hi hk
    have h36 := gm.le_36 hr.2 hc.2
    have hm := po.mod_ix (i := i) hk
    have b1 := po.bd hy vy k
    have b2 := po.bd hy vy 0
    have b3 := po.bd hx vx (i * c + k)
    have b4 := po.bd hx vx k
    have b5 := po.bd hy vy (i * c + k)
    have b6 := po.bd hy vy (i * c)
    have hci : c ≤ r * c := Nat.le_mul_of_pos_left c (by omega)
    have e : po.sv c xs ys (i * c + k) ++ [gz ys k - gz ys 0 + gz xs (i * c + k) - gz xs k] = po.sv c xs ys (i * c + k + 1) := by rw [← po.sv_succ, po.cell, hm]
    have g := ih (k + 1) n2 (by omega) (by omega)
    have ll := po.sv_length c xs ys (i * c + k)
    rw [show i * c + (k + 1) = i * c + k + 1 from rfl] at g
    have et : (po.sv c xs ys (i * c + k)).take (i * c + k) = po.sv c xs ys (i * c + k) := List.take_of_length_le (by omega)
    have z0 : (0 : Int).toNat = 0 := rfl
    rw [round2 (k := k)]
    simp -implicitDefEqProofs (disch := omega) only [z0, et, e, take_one, set_one, decide_eq_true, decide_eq_false, IntWalk.i64_in, beqT, beqF, bneT, bneF, nat_succ, ← Int.natCast_mul, ← Int.natCast_add, Int.toNat_natCast, Int.zero_mul, Int.zero_add, Int.add_zero, Nat.zero_add, Nat.add_zero, Nat.zero_mul, List.length_singleton, List.length_append, List.length_nil, List.length_cons, List.take_length, List.drop_zero, List.replicate_zero, List.take_nil, List.nil_append, Nat.reduceBEq, Nat.reduceMul, Nat.reduceLeDiff, eq_self, and_self, true_and, and_true, decide_true, decide_false, Bool.and_self, Bool.or_self, Bool.and_true, Bool.true_and, Bool.and_false, Bool.false_and, Bool.or_true, Bool.true_or, Bool.or_false, Bool.false_or, Bool.not_true, Bool.not_false, cond_true, cond_false]
    exact g
theorem loop0 (r c : Nat) (xs ys : List Int) (f : Nat) (hr : 1 ≤ r ∧ r ≤ 6) (hc : 1 ≤ c ∧ c ≤ 6) (hx : xs.length = r * c) (hy : ys.length = r * c) (vx : ∀ x ∈ xs, -1000 ≤ x ∧ x ≤ 1000) (vy : ∀ x ∈ ys, -1000 ≤ x ∧ x ≤ 1000) (hf : 10 < f) : ∀ (d i n : Nat), i + d = r → d < n →
    L0 f n (mkS 82 [(1, .ptr 0 0 0), (2, .nils), (3, .bool false), (4, .own 1 0 (i * c) 0 1), (14, .int .i64 r), (15, .int .i64 (i : Int))] [⟨.cells [.int .i64 r, .int .i64 c, .ro (.ints .i64 xs) xs.length 1, .ro (.ints .i64 ys) ys.length 1], 0⟩, ⟨.typ (.ints .i64 (po.sv c xs ys (i * c))), 0⟩]) = L4 f f (mkS 82 [(1, .ptr 0 0 0), (2, .nils), (3, .bool false), (4, .own 1 0 (r * c) 0 1), (44, .int .i64 r), (45, .int .i64 ((0 : Nat) : Int))] [⟨.cells [.int .i64 r, .int .i64 c, .ro (.ints .i64 xs) xs.length 1, .ro (.ints .i64 ys) ys.length 1], 0⟩, ⟨.typ (.ints .i64 (po.sv c xs ys (r * c))), 0⟩]) := by
  intro d
  induction d with
  | zero =>
    intro i n hi hn
    obtain ⟨n, rfl⟩ : ∃ k, n = k + 1 := ⟨n - 1, by omega⟩
    obtain rfl : i = r := by omega
    rw [round0 (k := 0) (n2 := 0)]
    simp -implicitDefEqProofs (disch := omega) only [take_one, set_one, decide_eq_true, decide_eq_false, IntWalk.i64_in, beqT, beqF, bneT, bneF, nat_succ, ← Int.natCast_mul, ← Int.natCast_add, Int.toNat_natCast, Int.zero_mul, Int.zero_add, Int.add_zero, Nat.zero_add, Nat.add_zero, Nat.zero_mul, List.length_singleton, List.length_append, List.length_nil, List.length_cons, List.take_length, List.drop_zero, List.replicate_zero, List.take_nil, List.nil_append, Nat.reduceBEq, Nat.reduceMul, Nat.reduceLeDiff, eq_self, and_self, true_and, and_true, decide_true, decide_false, Bool.and_self, Bool.or_self, Bool.and_true, Bool.true_and, Bool.and_false, Bool.false_and, Bool.or_true, Bool.true_or, Bool.or_false, Bool.false_or, Bool.not_true, Bool.not_false, cond_true, cond_false]
    rfl
  | succ d ih =>
    intro i n hi' hn
    obtain ⟨n, rfl⟩ : ∃ k, n = k + 1 := ⟨n - 1, by omega⟩
    have hi : i < r := by omega
    have g := ih (i + 1) n (by omega) (by omega)
    have g2 := inner2 r c xs ys f n i hr hc hx hy vx vy hi c 0 f (by omega) (by omega)
    rw [round0 (k := 0) (n2 := 0)]
    simp -implicitDefEqProofs (disch := omega) only [take_one, set_one, decide_eq_true, decide_eq_false, IntWalk.i64_in, beqT, beqF, bneT, bneF, nat_succ, ← Int.natCast_mul, ← Int.natCast_add, Int.toNat_natCast, Int.zero_mul, Int.zero_add, Int.add_zero, Nat.zero_add, Nat.add_zero, Nat.zero_mul, List.length_singleton, List.length_append, List.length_nil, List.length_cons, List.take_length, List.drop_zero, List.replicate_zero, List.take_nil, List.nil_append, Nat.reduceBEq, Nat.reduceMul, Nat.reduceLeDiff, eq_self, and_self, true_and, and_true, decide_true, decide_false, Bool.and_self, Bool.or_self, Bool.and_true, Bool.true_and, Bool.and_false, Bool.false_and, Bool.or_true, Bool.true_or, Bool.or_false, Bool.false_or, Bool.not_true, Bool.not_false, cond_true, cond_false]
    exact g2.trans g
theorem inner6 (r c : Nat) (xs ys : List Int) (f n i : Nat) (hr : 1 ≤ r ∧ r ≤ 6) (hc : 1 ≤ c ∧ c ≤ 6) (hx : xs.length = r * c) (hy : ys.length = r * c) (vx : ∀ x ∈ xs, -1000 ≤ x ∧ x ≤ 1000) (vy : ∀ x ∈ ys, -1000 ≤ x ∧ x ≤ 1000) (hi : i < r) : ∀ (d k n2 : Nat), k + d = c → d < n2 →
    L6 f n n2 (mkS 82 [(1, .ptr 0 0 0), (2, .nils), (3, .bool false), (4, .own 1 0 (r * c) 0 1), (7, .int .i64 (i : Int)), (44, .int .i64 r), (45, .int .i64 (i : Int)), (49, .int .i64 c), (50, .int .i64 (k : Int))] [⟨.cells [.int .i64 r, .int .i64 c, .ro (.ints .i64 xs) xs.length 1, .ro (.ints .i64 ys) ys.length 1], 0⟩, ⟨.typ (.ints .i64 (po.sv c xs ys (r * c))), 0⟩]) = bif po.chk c xs ys d (i * c + k) then L4 f n (mkS 82 [(1, .ptr 0 0 0), (2, .nils), (3, .bool false), (4, .own 1 0 (r * c) 0 1), (44, .int .i64 r), (45, .int .i64 ((i + 1 : Nat) : Int))] [⟨.cells [.int .i64 r, .int .i64 c, .ro (.ints .i64 xs) xs.length 1, .ro (.ints .i64 ys) ys.length 1], 0⟩, ⟨.typ (.ints .i64 (po.sv c xs ys (r * c))), 0⟩]) else some (.tup [.nils, .bool false], [⟨.cells [.int .i64 r, .int .i64 c, .ro (.ints .i64 xs) xs.length 1, .ro (.ints .i64 ys) ys.length 1], 0⟩, ⟨.typ (.ints .i64 (po.sv c xs ys (r * c))), 0⟩]) := by
  intro d
  induction d with
  | zero =>
    intro k n2 hk hn
    obtain ⟨n2, rfl⟩ : ∃ k, n2 = k + 1 := ⟨n2 - 1, by omega⟩
    obtain rfl : k = c := by omega
    rw [round6, po.chk]
    simp -implicitDefEqProofs (disch := omega) only [take_one, set_one, decide_eq_true, decide_eq_false, IntWalk.i64_in, beqT, beqF, bneT, bneF, nat_succ, ← Int.natCast_mul, ← Int.natCast_add, Int.toNat_natCast, Int.zero_mul, Int.zero_add, Int.add_zero, Nat.zero_add, Nat.add_zero, Nat.zero_mul, List.length_singleton, List.length_append, List.length_nil, List.length_cons, List.take_length, List.drop_zero, List.replicate_zero, List.take_nil, List.nil_append, Nat.reduceBEq, Nat.reduceMul, Nat.reduceLeDiff, eq_self, and_self, true_and, and_true, decide_true, decide_false, Bool.and_self, Bool.or_self, Bool.and_true, Bool.true_and, Bool.and_false, Bool.false_and, Bool.or_true, Bool.true_or, Bool.or_false, Bool.false_or, Bool.not_true, Bool.not_false, cond_true, cond_false]
  | succ d ih =>
    intro k n2 hk' hn
    obtain ⟨n2, rfl⟩ : ∃ k, n2 = k + 1 := ⟨n2 - 1, by omega⟩
    have hk : k < c := by omega
    have hlt := gm.ix_lt (R := r) (C := c) hi hk
    have h36 := gm.le_36 hr.2 hc.2
    have hm := po.mod_ix (i := i) hk
    have b1 := po.bd hy vy k
    have b2 := po.bd hy vy 0
    have b3 := po.bd hx vx (i * c + k)
    have b4 := po.bd hx vx k
    have b5 := po.bd hy vy (i * c + k)
    have b6 := po.bd hy vy (i * c)
    have hci : c ≤ r * c := Nat.le_mul_of_pos_left c (by omega)
    have g := ih (k + 1) n2 (by omega) (by omega)
    have ll := po.sv_length c xs ys (r * c)
    have g1 : gz (po.sv c xs ys (r * c)) (i * c + k) = po.cell c xs ys (i * c + k) := po.sv_get hlt
    have g2 : gz (po.sv c xs ys (r * c)) (i * c) = po.cell c xs ys (i * c) := po.sv_get (by omega)
    have m0 : (i * c) % c = 0 := Nat.mul_mod_left i c
    have c1 : po.cell c xs ys (i * c + k) = gz ys k - gz ys 0 + gz xs (i * c + k) - gz xs k := by rw [po.cell, hm]
    have c2 : po.cell c xs ys (i * c) = gz ys 0 - gz ys 0 + gz xs (i * c) - gz xs 0 := by rw [po.cell, m0]
    have b7 := po.bd hx vx (i * c)
    have b8 := po.bd hx vx 0
    have eb : po.b c xs ys (i * c + k) = (po.cell c xs ys (i * c + k) - po.cell c xs ys (i * c) == gz ys (i * c + k) - gz ys (i * c)) := by rw [po.b, hm, Nat.add_sub_cancel]
    have nb : ∀ a b : Int, (a != b) = !(a == b) := fun _ _ => rfl
    rw [show i * c + (k + 1) = i * c + k + 1 from rfl] at g
    rw [round6 (k := k), po.chk, eb]
    simp -implicitDefEqProofs (disch := omega) only [g1, g2, take_one, set_one, decide_eq_true, decide_eq_false, IntWalk.i64_in, nat_succ, ← Int.natCast_mul, ← Int.natCast_add, Int.toNat_natCast, Int.zero_mul, Int.zero_add, Int.add_zero, Nat.zero_add, Nat.add_zero, Nat.zero_mul, List.length_singleton, List.length_append, List.length_nil, List.length_cons, List.take_length, List.drop_zero, List.replicate_zero, List.take_nil, List.nil_append, Nat.reduceBEq, Nat.reduceMul, Nat.reduceLeDiff, eq_self, and_self, true_and, and_true, decide_true, decide_false, Bool.and_self, Bool.or_self, Bool.and_true, Bool.true_and, Bool.and_false, Bool.false_and, Bool.or_true, Bool.true_or, Bool.or_false, Bool.false_or, Bool.not_true, Bool.not_false, cond_true, cond_false]
    rw [nb]
    cases (po.cell c xs ys (i * c + k) - po.cell c xs ys (i * c) == gz ys (i * c + k) - gz ys (i * c))
    · rfl
    · exact g
theorem loop4 (r c : Nat) (xs ys : List Int) (f : Nat) (hr : 1 ≤ r ∧ r ≤ 6) (hc : 1 ≤ c ∧ c ≤ 6) (hx : xs.length = r * c) (hy : ys.length = r * c) (vx : ∀ x ∈ xs, -1000 ≤ x ∧ x ≤ 1000) (vy : ∀ x ∈ ys, -1000 ≤ x ∧ x ≤ 1000) (hf : 10 < f) : ∀ (d i n : Nat), i + d = r → d < n →
    L4 f n (mkS 82 [(1, .ptr 0 0 0), (2, .nils), (3, .bool false), (4, .own 1 0 (r * c) 0 1), (44, .int .i64 r), (45, .int .i64 (i : Int))] [⟨.cells [.int .i64 r, .int .i64 c, .ro (.ints .i64 xs) xs.length 1, .ro (.ints .i64 ys) ys.length 1], 0⟩, ⟨.typ (.ints .i64 (po.sv c xs ys (r * c))), 0⟩]) = bif po.chk c xs ys (d * c) (i * c) then some (.tup [.own 1 0 (r * c) 0 1, .bool true], [⟨.cells [.int .i64 r, .int .i64 c, .ro (.ints .i64 xs) xs.length 1, .ro (.ints .i64 ys) ys.length 1], 0⟩, ⟨.typ (.ints .i64 (po.sv c xs ys (r * c))), 0⟩]) else some (.tup [.nils, .bool false], [⟨.cells [.int .i64 r, .int .i64 c, .ro (.ints .i64 xs) xs.length 1, .ro (.ints .i64 ys) ys.length 1], 0⟩, ⟨.typ (.ints .i64 (po.sv c xs ys (r * c))), 0⟩]) := by
  intro d
  induction d with
  | zero =>
    intro i n hi hn
    obtain ⟨n, rfl⟩ : ∃ k, n = k + 1 := ⟨n - 1, by omega⟩
    obtain rfl : i = r := by omega
    rw [round4 (k := 0) (n2 := 0), Nat.zero_mul, po.chk]
    simp -implicitDefEqProofs (disch := omega) only [take_one, set_one, decide_eq_true, decide_eq_false, IntWalk.i64_in, beqT, beqF, bneT, bneF, nat_succ, ← Int.natCast_mul, ← Int.natCast_add, Int.toNat_natCast, Int.zero_mul, Int.zero_add, Int.add_zero, Nat.zero_add, Nat.add_zero, Nat.zero_mul, List.length_singleton, List.length_append, List.length_nil, List.length_cons, List.take_length, List.drop_zero, List.replicate_zero, List.take_nil, List.nil_append, Nat.reduceBEq, Nat.reduceMul, Nat.reduceLeDiff, eq_self, and_self, true_and, and_true, decide_true, decide_false, Bool.and_self, Bool.or_self, Bool.and_true, Bool.true_and, Bool.and_false, Bool.false_and, Bool.or_true, Bool.true_or, Bool.or_false, Bool.false_or, Bool.not_true, Bool.not_false, cond_true, cond_false]
  | succ d ih =>
    intro i n hi' hn
    obtain ⟨n, rfl⟩ : ∃ k, n = k + 1 := ⟨n - 1, by omega⟩
    have hi : i < r := by omega
    have g := ih (i + 1) n (by omega) (by omega)
    have g2 := inner6 r c xs ys f n i hr hc hx hy vx vy hi c 0 f (by omega) (by omega)
    rw [round4 (k := 0) (n2 := 0)]
    simp -implicitDefEqProofs (disch := omega) only [take_one, set_one, decide_eq_true, decide_eq_false, IntWalk.i64_in, beqT, beqF, bneT, bneF, nat_succ, ← Int.natCast_mul, ← Int.natCast_add, Int.toNat_natCast, Int.zero_mul, Int.zero_add, Int.add_zero, Nat.zero_add, Nat.add_zero, Nat.zero_mul, List.length_singleton, List.length_append, List.length_nil, List.length_cons, List.take_length, List.drop_zero, List.replicate_zero, List.take_nil, List.nil_append, Nat.reduceBEq, Nat.reduceMul, Nat.reduceLeDiff, eq_self, and_self, true_and, and_true, decide_true, decide_false, Bool.and_self, Bool.or_self, Bool.and_true, Bool.true_and, Bool.and_false, Bool.false_and, Bool.or_true, Bool.true_or, Bool.or_false, Bool.false_or, Bool.not_true, Bool.not_false, cond_true, cond_false]
    rw [show (d + 1) * c = c + d * c from by rw [Nat.succ_mul, Nat.add_comm], po.chk_add]
    rw [Nat.succ_mul] at g
    refine g2.trans ?_
    rw [Nat.add_zero, g]
    cases po.chk c xs ys c (i * c) <;> rfl
theorem runt : ∀ args v new, Rt args = some (true, v, new) → ∃ fuel, regc [1] (runFn Try.prog (orc [⟨13, iValidGame.R⟩, ⟨45, gA.R⟩, ⟨46, gB.R⟩]) hd dr none fuel (bodyOf Try.f23) 82 [2, 3] args []) = some (v, new) := by
  intro args v new h
  unfold Rt at h
  split at h
  · rename_i r c xs ma ys mb
    simp only [Option.some.injEq, Prod.mk.injEq, Bool.and_eq_true, decide_eq_true_eq, Bool.not_eq_true'] at h
    obtain ⟨⟨⟨rfl, rfl, h3, h4⟩, hv, hq⟩, rfl, rfl⟩ := h
    have hv2 := hv
    obtain ⟨r, c, rfl, rfl, hr, hc, hx, hy, vx, vy⟩ := gm.valid hv2
    obtain ⟨F, hF⟩ : ∃ F : Nat, F = 100 := ⟨100, rfl⟩
    refine ⟨F, ?_⟩
    have g := (loop0 r c xs ys F hr hc hx hy vx vy (by omega) r 0 F (by omega) (by omega)).trans (loop4 r c xs ys F hr hc hx hy vx vy (by omega) r 0 F (by omega) (by omega))
    have hq2 : po.chk c xs ys (r * c) (0 * c) = true := by rw [Nat.zero_mul]; exact hq
    have e0 : po.sv c xs ys (0 * c) = [] := by rw [Nat.zero_mul]; rfl
    rw [hq2, e0, Nat.zero_mul] at g
    rw [start]
    simp -implicitDefEqProofs (disch := omega) only [hv, take_one, set_one, decide_eq_true, decide_eq_false, IntWalk.i64_in, beqT, beqF, bneT, bneF, nat_succ, ← Int.natCast_mul, ← Int.natCast_add, Int.toNat_natCast, Int.zero_mul, Int.zero_add, Int.add_zero, Nat.zero_add, Nat.add_zero, Nat.zero_mul, List.length_singleton, List.length_append, List.length_nil, List.length_cons, List.take_length, List.drop_zero, List.replicate_zero, List.take_nil, List.nil_append, Nat.reduceBEq, Nat.reduceMul, Nat.reduceLeDiff, eq_self, and_self, true_and, and_true, decide_true, decide_false, Bool.and_self, Bool.or_self, Bool.and_true, Bool.true_and, Bool.and_false, Bool.false_and, Bool.or_true, Bool.true_or, Bool.or_false, Bool.false_or, Bool.not_true, Bool.not_false, cond_true, cond_false]
    exact (congrArg (regc [1]) g).trans rfl
  · cases h
theorem okt : EntOk Try.prog ⟨23, Rt⟩ :=
  ent_okAG (ks := [1]) mixed (A := (orc [⟨13, iValidGame.R⟩, ⟨45, gA.R⟩, ⟨46, gB.R⟩])) (orc_ok (by simp only [List.mem_cons, List.not_mem_nil, or_false, forall_eq_or_imp, forall_eq]; exact ⟨iValidGame.ok, gA.ok, gB.ok⟩)) Try.func23 (by kernel_rfl) (by kernel_rfl) (n := 82) (ts := [2, 3]) (hd := hd) (dr := dr) (cut := none) (by kernel_rfl) (by kernel_rfl) (by kernel_rfl) runt
theorem runf : ∀ args v new, Rf args = some (true, v, new) → ∃ fuel, regc [] (runFn Try.prog (orc [⟨13, iValidGame.R⟩, ⟨45, gA.R⟩, ⟨46, gB.R⟩]) hd dr none fuel (bodyOf Try.f23) 82 [2, 3] args []) = some (v, new) := by
  intro args v new h
  unfold Rf at h
  split at h
  · rename_i r c xs ma ys mb
    simp only [Option.some.injEq, Prod.mk.injEq, Bool.and_eq_true, decide_eq_true_eq, Bool.not_eq_true'] at h
    obtain ⟨⟨⟨rfl, rfl, h3, h4⟩, hv, hq⟩, rfl, rfl⟩ := h
    have hv2 := hv
    obtain ⟨r, c, rfl, rfl, hr, hc, hx, hy, vx, vy⟩ := gm.valid hv2
    obtain ⟨F, hF⟩ : ∃ F : Nat, F = 100 := ⟨100, rfl⟩
    refine ⟨F, ?_⟩
    have g := (loop0 r c xs ys F hr hc hx hy vx vy (by omega) r 0 F (by omega) (by omega)).trans (loop4 r c xs ys F hr hc hx hy vx vy (by omega) r 0 F (by omega) (by omega))
    have hq2 : po.chk c xs ys (r * c) (0 * c) = false := by rw [Nat.zero_mul]; exact hq
    have e0 : po.sv c xs ys (0 * c) = [] := by rw [Nat.zero_mul]; rfl
    rw [hq2, e0, Nat.zero_mul] at g
    rw [start]
    simp -implicitDefEqProofs (disch := omega) only [hv, take_one, set_one, decide_eq_true, decide_eq_false, IntWalk.i64_in, beqT, beqF, bneT, bneF, nat_succ, ← Int.natCast_mul, ← Int.natCast_add, Int.toNat_natCast, Int.zero_mul, Int.zero_add, Int.add_zero, Nat.zero_add, Nat.add_zero, Nat.zero_mul, List.length_singleton, List.length_append, List.length_nil, List.length_cons, List.take_length, List.drop_zero, List.replicate_zero, List.take_nil, List.nil_append, Nat.reduceBEq, Nat.reduceMul, Nat.reduceLeDiff, eq_self, and_self, true_and, and_true, decide_true, decide_false, Bool.and_self, Bool.or_self, Bool.and_true, Bool.true_and, Bool.and_false, Bool.false_and, Bool.or_true, Bool.true_or, Bool.or_false, Bool.false_or, Bool.not_true, Bool.not_false, cond_true, cond_false]
    exact (congrArg (regc []) g).trans rfl
  · cases h
theorem okf : EntOk Try.prog ⟨23, Rf⟩ :=
  ent_okAG (ks := []) mixed (A := (orc [⟨13, iValidGame.R⟩, ⟨45, gA.R⟩, ⟨46, gB.R⟩])) (orc_ok (by simp only [List.mem_cons, List.not_mem_nil, or_false, forall_eq_or_imp, forall_eq]; exact ⟨iValidGame.ok, gA.ok, gB.ok⟩)) Try.func23 (by kernel_rfl) (by kernel_rfl) (n := 82) (ts := [2, 3]) (hd := hd) (dr := dr) (cut := none) (by kernel_rfl) (by kernel_rfl) (by kernel_rfl) runf
end iPotentialOf

end Go.Proofs.Ytfbalfhekldkbaa.Ab
