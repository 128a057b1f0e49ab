/-
  Functions: lists of games: sizes, comparisons, equilibria counted.
-/
import Derived.Test.YthecninmmojkgaaFnGI
import Derived.Test.YthecninmmojkgaaFnIB
import Derived.Test.YthecninmmojkgaaFnAU
import Derived.Test.YthecninmmojkgaaAbWk
namespace Go.Proofs.Ythecninmmojkgaa.Ab
open Go
set_option linter.unusedVariables false
set_option linter.unusedSimpArgs false
set_option maxRecDepth 100000

namespace areWorkers
def R : List AVal → Option (Bool × AVal × List Blk)
  | [.int .i64 n] => some (true, .bool (decide (1 ≤ n) && decide (n ≤ 8)), [])
  | _ => none
theorem go (n : Int) :
  runFn Try.prog (orc [⟨51, within.R⟩]) hd0 Dr.std none 0 (bodyOf Try.f33) 5 [2] [.int .i64 n] []
  = (bif true && (true && true || true && true) then some (AVal.bool (decide ((1 : Int) ≤ n) && decide (n ≤ (8 : Int))), []) else none) := by kernel_rfl
theorem run : ∀ args v new, R args = some (true, v, new) → ∃ fuel, runFn Try.prog (orc [⟨51, within.R⟩]) hd0 Dr.std none fuel (bodyOf Try.f33) 5 [2] args [] = some (v, new) := by
  intro args v new h
  unfold R at h
  split at h
  · rename_i n
    simp only [Option.some.injEq, Prod.mk.injEq] at h
    obtain ⟨_, rfl, rfl⟩ := h
    refine ⟨0, ?_⟩
    rw [go]
    try rfl
  · cases h
theorem ok : EntOk Try.prog ⟨33, R⟩ :=
  ent_okA mixed (A := (orc [⟨51, within.R⟩])) (orc_ok (by simp only [List.mem_cons, List.not_mem_nil, or_false, forall_eq_or_imp, forall_eq]; exact within.ok)) Try.func33 (by kernel_rfl) (by kernel_rfl) (n := 5) (ts := [2]) (hd := hd0) (dr := Dr.std) (cut := none) (by kernel_rfl) (by kernel_rfl) (by kernel_rfl) run
end areWorkers

abbrev GmT := (Int × Int) × (List Int × List Int)
/-- Games as fields, and back. -/
def gfs.sv : List GmT → List Fld
  | [] => []
  | g :: r => .num g.1.1 :: .num g.1.2 :: .list g.2.1 :: .list g.2.2 :: gfs.sv r
def gof.sv : List Fld → List GmT
  | .num a :: .num b :: .list c :: .list d :: r => ((a, b), (c, d)) :: gof.sv r
  | _ => []
def gsh.sp : List Fld → Bool
  | [] => true
  | .num _ :: .num _ :: .list _ :: .list _ :: r => gsh.sp r
  | _ => false
def gg (xs : List GmT) (i : Nat) : GmT := xs.getD i ((0, 0), ([], []))
namespace gms
/-- A valid game, and how many equilibria it has. -/
def v.sp (g : GmT) : Bool := gm.sp g.1.1 g.1.2 g.2.1 g.2.2
def c.sv (g : GmT) : Int := ((pu.sv g.1.1.toNat g.1.2.toNat g.2.1 g.2.2).length : Int)
def o.sv (xs : List GmT) : List Int := xs.map c.sv
/-- Short lists. -/
def short.sp (n : Nat) (xs : List GmT) : Bool := xs.all fun g => decide (g.2.1.length ≤ n) && decide (g.2.2.length ≤ n)
def sp (xs : List GmT) (w : Int) : Bool := (decide (xs.length ≤ 16) && (decide (1 ≤ w) && decide (w ≤ 8))) && xs.all v.sp
/-- What is left behind games. -/
def sz1.sv (g : GmT) (l : Int) : Int := bif decide (l - (g.2.1.length : Int) < 0) then -1 else bif decide (l - (g.2.1.length : Int) - (g.2.2.length : Int) < 0) then -1 else l - (g.2.1.length : Int) - (g.2.2.length : Int)
def szl.sv : List GmT → Int → Int
  | [], l => l
  | g :: r, l => bif decide (sz1.sv g l < 0) then -1 else szl.sv r (sz1.sv g l)
def sz.sv (xs : List GmT) (l : Int) : Int := bif decide (l - (xs.length : Int) < 0) then -1 else szl.sv xs (l - (xs.length : Int))
/-- Numbers that a mark writes. -/
def tt.sv : List GmT → Nat
  | [] => 0
  | g :: r => 2 + g.2.1.length + g.2.2.length + tt.sv r
end gms
theorem gsh_eq : ∀ {fs : List Fld}, gsh.sp fs = true → gfs.sv (gof.sv fs) = fs
  | [], _ => rfl
  | .num a :: .num b :: .list c :: .list d :: r, h => by
    have h : gsh.sp r = true := h
    simp only [gof.sv, gfs.sv, gsh_eq h]
theorem gsh_of : ∀ xs : List GmT, gsh.sp (gfs.sv xs) = true ∧ gof.sv (gfs.sv xs) = xs
  | [] => ⟨rfl, rfl⟩
  | g :: r => by
    obtain ⟨a, b⟩ := gsh_of r
    exact ⟨a, by simp only [gfs.sv, gof.sv, b]⟩
theorem gfs_len : ∀ xs : List GmT, (gfs.sv xs).length = xs.length * 4
  | [] => rfl
  | g :: r => by simp only [gfs.sv, List.length_cons, gfs_len r]; omega
theorem gfs_at : ∀ (xs : List GmT) (i : Nat), i < xs.length → (gfs.sv xs)[i * 4]? = some (.num (gg xs i).1.1) ∧ (gfs.sv xs)[i * 4 + 1]? = some (.num (gg xs i).1.2) ∧ (gfs.sv xs)[i * 4 + 2]? = some (.list (gg xs i).2.1) ∧ (gfs.sv xs)[i * 4 + 3]? = some (.list (gg xs i).2.2)
  | [], i, h => by simp at h
  | g :: r, 0, _ => ⟨rfl, rfl, rfl, rfl⟩
  | g :: r, i + 1, h => by
    have k := gfs_at r i (by simpa using h)
    have e : ∀ j, (gfs.sv (g :: r))[(i + 1) * 4 + j]? = (gfs.sv r)[i * 4 + j]? := by
      intro j
      rw [show (i + 1) * 4 + j = i * 4 + j + 4 by omega]
      simp only [gfs.sv, List.getElem?_cons_succ]
    refine ⟨(e 0).trans k.1, (e 1).trans k.2.1, (e 2).trans k.2.2.1, (e 3).trans k.2.2.2⟩
theorem gfs_rec {xs : List GmT} {i : Nat} (h : i < xs.length) : recN.sv (gfs.sv xs) (i * 4) = (gg xs i).1.1 ∧ recN.sv (gfs.sv xs) (i * 4 + 1) = (gg xs i).1.2 ∧ recL.sv (gfs.sv xs) (i * 4 + 2) = (gg xs i).2.1 ∧ recL.sv (gfs.sv xs) (i * 4 + 3) = (gg xs i).2.2 := by
  obtain ⟨a, b, c, d⟩ := gfs_at xs i h
  unfold recN.sv recL.sv
  rw [a, b, c, d]
  exact ⟨rfl, rfl, rfl, rfl⟩
theorem gfs_fit (xs : List GmT) : recfit.sp [0, 0, 1, 1] (gfs.sv xs) = true := by
  unfold recfit.sp
  rw [decide_eq_true_eq]
  intro p hp
  rw [gfs_len] at hp
  obtain ⟨a, b, c, d⟩ := gfs_at xs (p / 4) (by omega)
  rw [List.getD_eq_getElem?_getD]
  have hm : p % 4 = 0 ∨ p % 4 = 1 ∨ p % 4 = 2 ∨ p % 4 = 3 := by omega
  have hl : ([0, 0, 1, 1] : List Nat).length = 4 := rfl
  rw [hl]
  rcases hm with h | h | h | h
  · rw [show p / 4 * 4 = p by omega] at a; rw [a, h]; rfl
  · rw [show p / 4 * 4 + 1 = p by omega] at b; rw [b, h]; rfl
  · rw [show p / 4 * 4 + 2 = p by omega] at c; rw [c, h]; rfl
  · rw [show p / 4 * 4 + 3 = p by omega] at d; rw [d, h]; rfl
theorem gg_mem {xs : List GmT} {i : Nat} (h : i < xs.length) : gg xs i ∈ xs ∧ xs[i] = gg xs i := by
  have e : gg xs i = xs[i] := by unfold gg; rw [List.getD_eq_getElem?_getD, List.getElem?_eq_getElem h]; rfl
  exact ⟨by rw [e]; exact List.getElem_mem h, e.symm⟩
theorem gg_drop {xs : List GmT} {i : Nat} (h : i < xs.length) : xs.drop i = gg xs i :: xs.drop (i + 1) := by
  rw [List.drop_eq_getElem_cons h, (gg_mem h).2]
theorem gg_take {xs : List GmT} {i : Nat} (h : i < xs.length) : xs.take (i + 1) = xs.take i ++ [gg xs i] := by
  rw [List.take_add_one, List.getElem?_eq_getElem h, (gg_mem h).2]; rfl
theorem mulN4 (i : Nat) : mulN i 4 = i * 4 := rfl
namespace gms
theorem short_at {n : Nat} {xs : List GmT} (h : short.sp n xs = true) {i : Nat} (hi : i < xs.length) : (gg xs i).2.1.length ≤ n ∧ (gg xs i).2.2.length ≤ n := by
  have := List.all_eq_true.1 h _ (gg_mem hi).1
  simpa using this
theorem short_mono {n k : Nat} (hk : n ≤ k) {xs : List GmT} (h : short.sp n xs = true) : short.sp k xs = true := by
  unfold short.sp at *
  rw [List.all_eq_true] at *
  intro g hg
  have := h g hg
  simp only [Bool.and_eq_true, decide_eq_true_eq] at *
  omega
end gms
namespace jPure
/-- Equilibria, or none. -/
def o.sv (r c : Int) (xs ys : List Int) : List Int := bif gm.sp r c xs ys then pu.sv r.toNat c.toNat xs ys else []
def R (args : List AVal) : Option (Bool × AVal) := match args with
  | [.agg [.int .i64 r, .int .i64 c, .ro (.ints .i64 xs) ma 1, .ro (.ints .i64 ys) mb 1]] => some (decide (ma = xs.length ∧ mb = ys.length ∧ ma ≤ 4611686018427387904 ∧ mb ≤ 4611686018427387904), .tup [.ro (.ints .i64 (jPure.o.sv r c xs ys)) (jPure.o.sv r c xs ys).length 1, .bool (gm.sp r c xs ys)])
  | _ => none
theorem ok : EntFOk Try.prog ⟨34, R⟩ := by
  refine EntFOk.cases iPureEquilibria_t.ok.nro iPureEquilibria_f.ok.nro fun args v h => ?_
  unfold R at h
  split at h
  · rename_i r c xs ma ys mb
    simp only [Option.some.injEq, Prod.mk.injEq, decide_eq_true_eq] at h
    obtain ⟨⟨h1, h2, h3, h4⟩, rfl⟩ := h
    cases hb : gm.sp r c xs ys
    · right
      have ev : jPure.o.sv r c xs ys = [] := by unfold jPure.o.sv; rw [hb]; rfl
      have e : iPureEquilibria_f.R [.agg [.int .i64 r, .int .i64 c, .ro (.ints .i64 xs) ma 1, .ro (.ints .i64 ys) mb 1]] = some (true, .tup [.nils, .bool false], []) := by
        simp only [iPureEquilibria_f.R, h1, h2, hb, h1 ▸ h3, h2 ▸ h4, and_self, decide_true, Bool.and_self, Bool.not_false]
      unfold layN layF
      rw [e, ev]
      rfl
    · left
      have ev : jPure.o.sv r c xs ys = pu.sv r.toNat c.toNat xs ys := by unfold jPure.o.sv; rw [hb]; rfl
      have e : iPureEquilibria_t.R [.agg [.int .i64 r, .int .i64 c, .ro (.ints .i64 xs) ma 1, .ro (.ints .i64 ys) mb 1]] = some (true, .tup [.own 0 0 (pu.sv r.toNat c.toNat xs ys).length 0 1, .bool true], [⟨.typ (.ints .i64 (pu.sv r.toNat c.toNat xs ys)), 0⟩]) := by
        simp only [iPureEquilibria_t.R, h1, h2, hb, h1 ▸ h3, h2 ▸ h4, and_self, decide_true, Bool.and_self]
      unfold layN layF
      rw [e, ev]
      rfl
  · cases h
end jPure
namespace iGamesShared
def Rt : List AVal → Option (Bool × AVal × List Blk)
  | [.ro (.recs [0, 0, 1, 1] fs) m 4, .int .i64 w] => some (decide (fs.length = m * 4) && (gsh.sp fs && (gms.short.sp 4611686018427387904 (gof.sv fs) && gms.sp (gof.sv fs) w)), .tup [.own 0 0 m 0 1, .bool true], [⟨.typ (.ints .i64 (gms.o.sv (gof.sv fs))), 0⟩])
  | _ => none
def Rf : List AVal → Option (Bool × AVal × List Blk)
  | [.ro (.recs [0, 0, 1, 1] fs) m 4, .int .i64 w] => some (decide (fs.length = m * 4) && (gsh.sp fs && (gms.short.sp 4611686018427387904 (gof.sv fs) && !gms.sp (gof.sv fs) w)), .tup [.nils, .bool false], [])
  | _ => none
def hd : Nat → Head := fun _ => ⟨[4, 5, 6, 20, 21, 22], some 1⟩
noncomputable def L (f n : Nat) (s : State) := loopAt Try.prog (orcF [⟨34, jPure.R⟩] (orc [⟨33, areWorkers.R⟩])) hd Dr.std 0 f (bodyOf Try.f9) 0 [true, true, true, false, true] (retK Try.prog [4, 5] 0 none) n s
theorem start (fs : List Fld) (m : Nat) (w : Int) (f : Nat) :
  runFn Try.prog (orcF [⟨34, jPure.R⟩] (orc [⟨33, areWorkers.R⟩])) hd Dr.std none f (bodyOf Try.f9) 40 [4, 5] [.ro (.recs [0, 0, 1, 1] fs) m 4, .int .i64 w] []
  = (bif decide ((16 : Int) < (↑m : Int)) then some (AVal.tup [AVal.nils, AVal.bool false], []) else bif true && (true && true || true && true) then bif !(decide ((1 : Int) ≤ w) && decide (w ≤ (8 : Int))) then some (AVal.tup [AVal.nils, AVal.bool false], []) else L f f (mkS (40 : Nat) [((4 : Nat), AVal.nils), ((5 : Nat), AVal.bool false), ((6 : Nat), AVal.own (0 : Nat) (0 : Nat) (0 : Nat) (0 : Nat) (1 : Nat)), ((20 : Nat), AVal.ro (Cont.recs [(0 : Nat), (0 : Nat), (1 : Nat), (1 : Nat)] fs) m (4 : Nat)), ((21 : Nat), AVal.int IntKind.i64 (↑m : Int)), ((22 : Nat), AVal.int IntKind.i64 (0 : Int))] [{ c := BC.typ (Cont.ints IntKind.i64 (List.replicate (0 : Nat) (0 : Int))), ver := (0 : Nat) }]) else none) := by kernel_rfl
theorem round (fs : List Fld) (m q i : Nat) (os : List Int) (f n : Nat) :
  L f (n + 1) (mkS 40 [(4, .nils), (5, .bool false), (6, .own 0 0 q 0 1), (20, .ro (.recs [0, 0, 1, 1] fs) m 4), (21, .int .i64 m), (22, .int .i64 i)] [⟨.typ (.ints .i64 os), 0⟩])
  = (bif decide ((↑i : Int) < (↑m : Int)) then bif true && (true && (recfit.sp [(0 : Nat), (0 : Nat), (1 : Nat), (1 : Nat)] fs && (decide ((0 : Int) ≤ (↑i : Int)) && decide ((↑i : Int) < (↑m : Int))))) then bif true && true && (true && true && (true && true && (true && true && true))) then bif decide ((recL.sv fs (addL ((↑i : Int).toNat * nat_lit 4) ((0 : Nat) + (1 : Nat) + (1 : Nat)))).length = (recL.sv fs (addL ((↑i : Int).toNat * nat_lit 4) ((0 : Nat) + (1 : Nat) + (1 : Nat)))).length ∧ (recL.sv fs (addL ((↑i : Int).toNat * nat_lit 4) ((0 : Nat) + (1 : Nat) + (1 : Nat) + (1 : Nat)))).length = (recL.sv fs (addL ((↑i : Int).toNat * nat_lit 4) ((0 : Nat) + (1 : Nat) + (1 : Nat) + (1 : Nat)))).length ∧ (recL.sv fs (addL ((↑i : Int).toNat * nat_lit 4) ((0 : Nat) + (1 : Nat) + (1 : Nat)))).length ≤ (4611686018427387904 : Nat) ∧ (recL.sv fs (addL ((↑i : Int).toNat * nat_lit 4) ((0 : Nat) + (1 : Nat) + (1 : Nat) + (1 : Nat)))).length ≤ (4611686018427387904 : Nat)) then bif !gm.sp (recN.sv fs (addL ((↑i : Int).toNat * (4 : Nat)) (0 : Nat))) (recN.sv fs (addL ((↑i : Int).toNat * (4 : Nat)) (1 : Nat))) (recL.sv fs (addL ((↑i : Int).toNat * (4 : Nat)) (2 : Nat))) (recL.sv fs (addL ((↑i : Int).toNat * (4 : Nat)) (3 : Nat))) then some (AVal.tup [AVal.nils, AVal.bool false], [{ c := BC.typ (Cont.ints IntKind.i64 os), ver := (0 : Nat) }]) else bif (1 : Nat) == (1 : Nat) && (1 : Nat) == (1 : Nat) && (true && (true && true) && (true && true && (decide (q + (List.take (1 : Nat) (List.drop (0 : Nat) ((List.replicate (1 : Nat) (0 : Int)).set (0 : Nat) (↑(jPure.o.sv (recN.sv fs (addL ((↑i : Int).toNat * (4 : Nat)) (0 : Nat))) (recN.sv fs (addL ((↑i : Int).toNat * (4 : Nat)) (1 : Nat))) (recL.sv fs (addL ((↑i : Int).toNat * (4 : Nat)) (2 : Nat))) (recL.sv fs (addL ((↑i : Int).toNat * (4 : Nat)) (3 : Nat)))).length : Int)))).length ≤ (4611686018427387904 : Nat)) && decide ((q + (List.take (1 : Nat) (List.drop (0 : Nat) ((List.replicate (1 : Nat) (0 : Int)).set (0 : Nat) (↑(jPure.o.sv (recN.sv fs (addL ((↑i : Int).toNat * (4 : Nat)) (0 : Nat))) (recN.sv fs (addL ((↑i : Int).toNat * (4 : Nat)) (1 : Nat))) (recL.sv fs (addL ((↑i : Int).toNat * (4 : Nat)) (2 : Nat))) (recL.sv fs (addL ((↑i : Int).toNat * (4 : Nat)) (3 : Nat)))).length : Int)))).length) * (8 : Nat) ≤ (140737488355328 : Nat))))) then L f n (mkS (40 : Nat) [((4 : Nat), AVal.nils), ((5 : Nat), AVal.bool false), ((6 : Nat), AVal.own (0 : Nat) (0 : Nat) (q + (List.take (1 : Nat) (List.drop (0 : Nat) ((List.replicate (1 : Nat) (0 : Int)).set (0 : Nat) (↑(jPure.o.sv (recN.sv fs (addL ((↑i : Int).toNat * (4 : Nat)) (0 : Nat))) (recN.sv fs (addL ((↑i : Int).toNat * (4 : Nat)) (1 : Nat))) (recL.sv fs (addL ((↑i : Int).toNat * (4 : Nat)) (2 : Nat))) (recL.sv fs (addL ((↑i : Int).toNat * (4 : Nat)) (3 : Nat)))).length : Int)))).length) (0 : Nat) (1 : Nat)), ((20 : Nat), AVal.ro (Cont.recs [(0 : Nat), (0 : Nat), (1 : Nat), (1 : Nat)] fs) m (4 : Nat)), ((21 : Nat), AVal.int IntKind.i64 (↑m : Int)), ((22 : Nat), AVal.int IntKind.i64 (IntKind.i64.wrap ((↑i : Int) + (1 : Int))))] [{ c := BC.typ (Cont.ints IntKind.i64 (List.take q os ++ List.take (1 : Nat) (List.drop (0 : Nat) ((List.replicate (1 : Nat) (0 : Int)).set (0 : Nat) (↑(jPure.o.sv (recN.sv fs (addL ((↑i : Int).toNat * (4 : Nat)) (0 : Nat))) (recN.sv fs (addL ((↑i : Int).toNat * (4 : Nat)) (1 : Nat))) (recL.sv fs (addL ((↑i : Int).toNat * (4 : Nat)) (2 : Nat))) (recL.sv fs (addL ((↑i : Int).toNat * (4 : Nat)) (3 : Nat)))).length : Int))))), ver := (0 : Nat) }]) else none else none else none else none else some (AVal.tup [AVal.own (0 : Nat) (0 : Nat) q (0 : Nat) (1 : Nat), AVal.bool true], [{ c := BC.typ (Cont.ints IntKind.i64 os), ver := (0 : Nat) }])) := by kernel_rfl
theorem loop_t (xs : List GmT) (f : Nat) (hx : xs.length ≤ 16) (hs : gms.short.sp 4611686018427387904 xs = true) (hv : xs.all gms.v.sp = true) (hf : 64 < f) : ∀ (d i n : Nat), i + d = xs.length → d < n →
    L f n (mkS 40 [(4, .nils), (5, .bool false), (6, .own 0 0 i 0 1), (20, .ro (.recs [0, 0, 1, 1] (gfs.sv xs)) xs.length 4), (21, .int .i64 (xs.length : Int)), (22, .int .i64 (i : Int))] [⟨.typ (.ints .i64 (gms.o.sv (xs.take i))), 0⟩]) = some (.tup [.own 0 0 xs.length 0 1, .bool true], [⟨.typ (.ints .i64 (gms.o.sv xs)), 0⟩]) := by
  intro d
  induction d with
  | zero =>
    intro i n hi hn
    obtain ⟨n, rfl⟩ : ∃ k, n = k + 1 := ⟨n - 1, by omega⟩
    obtain rfl : i = xs.length := by omega
    rw [round, List.take_length]
    simp -implicitDefEqProofs (disch := omega) only [take_one, set_one, decide_eq_true, decide_eq_false, IntWalk.i64_in, beqT, beqF, bneT, bneF, nat_succ, ← Int.natCast_mul, ← Int.natCast_add, Int.toNat_natCast, Int.zero_mul, Int.zero_add, Int.add_zero, Nat.zero_add, Nat.add_zero, Nat.zero_mul, List.length_singleton, List.length_append, List.length_nil, List.length_cons, List.take_length, List.drop_zero, List.replicate_zero, List.take_nil, List.nil_append, Nat.reduceBEq, Nat.reduceMul, Nat.reduceLeDiff, eq_self, and_self, true_and, and_true, decide_true, decide_false, Bool.and_self, Bool.or_self, Bool.and_true, Bool.true_and, Bool.and_false, Bool.false_and, Bool.or_true, Bool.true_or, Bool.or_false, Bool.false_or, Bool.not_true, Bool.not_false, cond_true, cond_false]
  | succ d ih =>
    intro i n hi hn
    obtain ⟨n, rfl⟩ : ∃ k, n = k + 1 := ⟨n - 1, by omega⟩
    have hlt : i < xs.length := by omega
    have g := ih (i + 1) n (by omega) (by omega)
    obtain ⟨r1, r2, r3, r4⟩ := gfs_rec hlt
    obtain ⟨s1, s2⟩ := gms.short_at hs hlt
    have ft := gfs_fit xs
    have vv : gm.sp (gg xs i).1.1 (gg xs i).1.2 (gg xs i).2.1 (gg xs i).2.2 = true := List.all_eq_true.1 hv _ (gg_mem hlt).1
    have ot : gms.o.sv (xs.take (i + 1)) = gms.o.sv (xs.take i) ++ [((pu.sv (gg xs i).1.1.toNat (gg xs i).1.2.toNat (gg xs i).2.1 (gg xs i).2.2).length : Int)] := by
      rw [gg_take hlt]; simp [gms.o.sv, gms.c.sv]
    have ol : (gms.o.sv (xs.take i)).length = i := by simp [gms.o.sv]; omega
    have tt : (gms.o.sv (xs.take i)).take i = gms.o.sv (xs.take i) := List.take_of_length_le (by omega)
    rw [ot] at g
    rw [round]
    skip
    simp -implicitDefEqProofs (disch := omega) only [r1, r2, r3, r4, s1, s2, ft, vv, tt, addL_eq, mulN_eq, beq_self_eq_true, Nat.le_refl, jPure.o.sv, ol, take_one, set_one, decide_eq_true, decide_eq_false, IntWalk.i64_in, beqT, beqF, bneT, bneF, nat_succ, ← Int.natCast_mul, ← Int.natCast_add, Int.toNat_natCast, Int.zero_mul, Int.zero_add, Int.add_zero, Nat.zero_add, Nat.add_zero, Nat.zero_mul, List.length_singleton, List.length_append, List.length_nil, List.length_cons, List.take_length, List.drop_zero, List.replicate_zero, List.take_nil, List.nil_append, Nat.reduceBEq, Nat.reduceMul, Nat.reduceLeDiff, eq_self, and_self, true_and, and_true, decide_true, decide_false, Bool.and_self, Bool.or_self, Bool.and_true, Bool.true_and, Bool.and_false, Bool.false_and, Bool.or_true, Bool.true_or, Bool.or_false, Bool.false_or, Bool.not_true, Bool.not_false, cond_true, cond_false]
    exact g
theorem loop_f (xs : List GmT) (f : Nat) (hx : xs.length ≤ 16) (hs : gms.short.sp 4611686018427387904 xs = true) (hf : 64 < f) : ∀ (d i n : Nat) (os : List Int), i + d = xs.length → d < n → os.length = i → (xs.drop i).all gms.v.sp = false →
    ∃ H', L f n (mkS 40 [(4, .nils), (5, .bool false), (6, .own 0 0 i 0 1), (20, .ro (.recs [0, 0, 1, 1] (gfs.sv xs)) xs.length 4), (21, .int .i64 (xs.length : Int)), (22, .int .i64 (i : Int))] [⟨.typ (.ints .i64 os), 0⟩]) = some (.tup [.nils, .bool false], H') := by
  intro d
  induction d with
  | zero =>
    intro i n os hi hn hl hv
    rw [List.drop_of_length_le (by omega)] at hv
    cases hv
  | succ d ih =>
    intro i n os hi hn hl hv
    obtain ⟨n, rfl⟩ : ∃ k, n = k + 1 := ⟨n - 1, by omega⟩
    have hlt : i < xs.length := by omega
    rw [gg_drop hlt, List.all_cons] at hv
    obtain ⟨r1, r2, r3, r4⟩ := gfs_rec hlt
    obtain ⟨s1, s2⟩ := gms.short_at hs hlt
    have ft := gfs_fit xs
    have tt : os.take i = os := List.take_of_length_le (by omega)
    cases vv : gm.sp (gg xs i).1.1 (gg xs i).1.2 (gg xs i).2.1 (gg xs i).2.2
    · apply Exists.intro
      rw [round]
      skip
      simp -implicitDefEqProofs (disch := omega) only [r1, r2, r3, r4, s1, s2, ft, vv, tt, addL_eq, mulN_eq, beq_self_eq_true, Nat.le_refl, jPure.o.sv, hl, take_one, set_one, decide_eq_true, decide_eq_false, IntWalk.i64_in, beqT, beqF, bneT, bneF, nat_succ, ← Int.natCast_mul, ← Int.natCast_add, Int.toNat_natCast, Int.zero_mul, Int.zero_add, Int.add_zero, Nat.zero_add, Nat.add_zero, Nat.zero_mul, List.length_singleton, List.length_append, List.length_nil, List.length_cons, List.take_length, List.drop_zero, List.replicate_zero, List.take_nil, List.nil_append, Nat.reduceBEq, Nat.reduceMul, Nat.reduceLeDiff, eq_self, and_self, true_and, and_true, decide_true, decide_false, Bool.and_self, Bool.or_self, Bool.and_true, Bool.true_and, Bool.and_false, Bool.false_and, Bool.or_true, Bool.true_or, Bool.or_false, Bool.false_or, Bool.not_true, Bool.not_false, cond_true, cond_false]
      rfl
    · have hv : (xs.drop (i + 1)).all gms.v.sp = false := by
        have e : gms.v.sp (gg xs i) = true := vv
        rw [e, Bool.true_and] at hv; exact hv
      obtain ⟨H', g⟩ := ih (i + 1) n (os ++ [((pu.sv (gg xs i).1.1.toNat (gg xs i).1.2.toNat (gg xs i).2.1 (gg xs i).2.2).length : Int)]) (by omega) (by omega) (by simp [hl]) hv
      refine ⟨H', ?_⟩
      rw [round]
      skip
      simp -implicitDefEqProofs (disch := omega) only [r1, r2, r3, r4, s1, s2, ft, vv, tt, addL_eq, mulN_eq, beq_self_eq_true, Nat.le_refl, jPure.o.sv, hl, take_one, set_one, decide_eq_true, decide_eq_false, IntWalk.i64_in, beqT, beqF, bneT, bneF, nat_succ, ← Int.natCast_mul, ← Int.natCast_add, Int.toNat_natCast, Int.zero_mul, Int.zero_add, Int.add_zero, Nat.zero_add, Nat.add_zero, Nat.zero_mul, List.length_singleton, List.length_append, List.length_nil, List.length_cons, List.take_length, List.drop_zero, List.replicate_zero, List.take_nil, List.nil_append, Nat.reduceBEq, Nat.reduceMul, Nat.reduceLeDiff, eq_self, and_self, true_and, and_true, decide_true, decide_false, Bool.and_self, Bool.or_self, Bool.and_true, Bool.true_and, Bool.and_false, Bool.false_and, Bool.or_true, Bool.true_or, Bool.or_false, Bool.false_or, Bool.not_true, Bool.not_false, cond_true, cond_false]
      exact g
theorem runt : ∀ args v new, Rt args = some (true, v, new) → ∃ fuel, regc [0] (runFn Try.prog (orcF [⟨34, jPure.R⟩] (orc [⟨33, areWorkers.R⟩])) hd Dr.std none fuel (bodyOf Try.f9) 40 [4, 5] args []) = some (v, new) := by
  intro args v new h
  unfold Rt at h
  split at h
  · rename_i fs m w
    simp only [Option.some.injEq, Prod.mk.injEq, Bool.and_eq_true, decide_eq_true_eq, Bool.not_eq_true'] at h
    obtain ⟨⟨hl, hs, hsh, hsp⟩, rfl, rfl⟩ := h
    obtain ⟨xs, rfl⟩ : ∃ xs, fs = gfs.sv xs := ⟨_, (gsh_eq hs).symm⟩
    rw [(gsh_of xs).2] at *
    rw [gfs_len] at hl
    obtain rfl : m = xs.length := by omega
    simp only [gms.sp, Bool.and_eq_true, decide_eq_true_eq] at hsp
    obtain ⟨⟨k1, k2, k3⟩, k4⟩ := hsp
    obtain ⟨F, hF⟩ : ∃ F : Nat, F = 100 := ⟨100, rfl⟩
    refine ⟨F, ?_⟩
    rw [start]
    have g := loop_t xs F k1 hsh k4 (by omega) xs.length 0 F (by omega) (by omega)
    have t0 : gms.o.sv (xs.take 0) = [] := by simp [gms.o.sv]
    rw [t0] at g
    simp -implicitDefEqProofs (disch := omega) only [take_one, set_one, decide_eq_true, decide_eq_false, IntWalk.i64_in, beqT, beqF, bneT, bneF, nat_succ, ← Int.natCast_mul, ← Int.natCast_add, Int.toNat_natCast, Int.zero_mul, Int.zero_add, Int.add_zero, Nat.zero_add, Nat.add_zero, Nat.zero_mul, List.length_singleton, List.length_append, List.length_nil, List.length_cons, List.take_length, List.drop_zero, List.replicate_zero, List.take_nil, List.nil_append, Nat.reduceBEq, Nat.reduceMul, Nat.reduceLeDiff, eq_self, and_self, true_and, and_true, decide_true, decide_false, Bool.and_self, Bool.or_self, Bool.and_true, Bool.true_and, Bool.and_false, Bool.false_and, Bool.or_true, Bool.true_or, Bool.or_false, Bool.false_or, Bool.not_true, Bool.not_false, cond_true, cond_false]
    exact (congrArg (regc [0]) g).trans rfl
  · cases h
theorem okt : EntOk Try.prog ⟨9, Rt⟩ :=
  ent_okAG (ks := [0]) mixed (A := (orcF [⟨34, jPure.R⟩] (orc [⟨33, areWorkers.R⟩]))) (orcF_ok (by simp only [List.mem_cons, List.not_mem_nil, or_false, forall_eq_or_imp, forall_eq]; exact jPure.ok) (orc_ok (by simp only [List.mem_cons, List.not_mem_nil, or_false, forall_eq_or_imp, forall_eq]; exact areWorkers.ok))) Try.func9 (by kernel_rfl) (by kernel_rfl) (n := 40) (ts := [4, 5]) (hd := hd) (dr := Dr.std) (cut := none) (by kernel_rfl) (by kernel_rfl) (by kernel_rfl) runt
theorem runf : ∀ args v new, Rf args = some (true, v, new) → ∃ fuel, regc [] (runFn Try.prog (orcF [⟨34, jPure.R⟩] (orc [⟨33, areWorkers.R⟩])) hd Dr.std none fuel (bodyOf Try.f9) 40 [4, 5] args []) = some (v, new) := by
  intro args v new h
  unfold Rf at h
  split at h
  · rename_i fs m w
    simp only [Option.some.injEq, Prod.mk.injEq, Bool.and_eq_true, decide_eq_true_eq, Bool.not_eq_true'] at h
    obtain ⟨⟨hl, hs, hsh, hsp⟩, rfl, rfl⟩ := h
    obtain ⟨xs, rfl⟩ : ∃ xs, fs = gfs.sv xs := ⟨_, (gsh_eq hs).symm⟩
    rw [(gsh_of xs).2] at *
    rw [gfs_len] at hl
    obtain rfl : m = xs.length := by omega
    simp only [gms.sp] at hsp
    obtain ⟨F, hF⟩ : ∃ F : Nat, F = 100 := ⟨100, rfl⟩
    refine ⟨F, ?_⟩
    rw [start]
    by_cases k1 : (16 : Int) < (xs.length : Int)
    · simp -implicitDefEqProofs (disch := omega) only [take_one, set_one, decide_eq_true, decide_eq_false, IntWalk.i64_in, beqT, beqF, bneT, bneF, nat_succ, ← Int.natCast_mul, ← Int.natCast_add, Int.toNat_natCast, Int.zero_mul, Int.zero_add, Int.add_zero, Nat.zero_add, Nat.add_zero, Nat.zero_mul, List.length_singleton, List.length_append, List.length_nil, List.length_cons, List.take_length, List.drop_zero, List.replicate_zero, List.take_nil, List.nil_append, Nat.reduceBEq, Nat.reduceMul, Nat.reduceLeDiff, eq_self, and_self, true_and, and_true, decide_true, decide_false, Bool.and_self, Bool.or_self, Bool.and_true, Bool.true_and, Bool.and_false, Bool.false_and, Bool.or_true, Bool.true_or, Bool.or_false, Bool.false_or, Bool.not_true, Bool.not_false, cond_true, cond_false]
      rfl
    cases k2 : (decide (1 ≤ w) && decide (w ≤ 8))
    · simp -implicitDefEqProofs (disch := omega) only [k2, take_one, set_one, decide_eq_true, decide_eq_false, IntWalk.i64_in, beqT, beqF, bneT, bneF, nat_succ, ← Int.natCast_mul, ← Int.natCast_add, Int.toNat_natCast, Int.zero_mul, Int.zero_add, Int.add_zero, Nat.zero_add, Nat.add_zero, Nat.zero_mul, List.length_singleton, List.length_append, List.length_nil, List.length_cons, List.take_length, List.drop_zero, List.replicate_zero, List.take_nil, List.nil_append, Nat.reduceBEq, Nat.reduceMul, Nat.reduceLeDiff, eq_self, and_self, true_and, and_true, decide_true, decide_false, Bool.and_self, Bool.or_self, Bool.and_true, Bool.true_and, Bool.and_false, Bool.false_and, Bool.or_true, Bool.true_or, Bool.or_false, Bool.false_or, Bool.not_true, Bool.not_false, cond_true, cond_false]
      rfl
    · rw [k2, decide_eq_true (show xs.length ≤ 16 by omega), Bool.true_and, Bool.true_and] at hsp
      obtain ⟨H', g⟩ := loop_f xs F (by omega) hsh (by omega) xs.length 0 F [] (by omega) (by omega) rfl (by rw [List.drop_zero]; exact hsp)
      simp -implicitDefEqProofs (disch := omega) only [k2, take_one, set_one, decide_eq_true, decide_eq_false, IntWalk.i64_in, beqT, beqF, bneT, bneF, nat_succ, ← Int.natCast_mul, ← Int.natCast_add, Int.toNat_natCast, Int.zero_mul, Int.zero_add, Int.add_zero, Nat.zero_add, Nat.add_zero, Nat.zero_mul, List.length_singleton, List.length_append, List.length_nil, List.length_cons, List.take_length, List.drop_zero, List.replicate_zero, List.take_nil, List.nil_append, Nat.reduceBEq, Nat.reduceMul, Nat.reduceLeDiff, eq_self, and_self, true_and, and_true, decide_true, decide_false, Bool.and_self, Bool.or_self, Bool.and_true, Bool.true_and, Bool.and_false, Bool.false_and, Bool.or_true, Bool.true_or, Bool.or_false, Bool.false_or, Bool.not_true, Bool.not_false, cond_true, cond_false]
      exact (congrArg (regc []) g).trans rfl
  · cases h
theorem okf : EntOk Try.prog ⟨9, Rf⟩ :=
  ent_okAG (ks := []) mixed (A := (orcF [⟨34, jPure.R⟩] (orc [⟨33, areWorkers.R⟩]))) (orcF_ok (by simp only [List.mem_cons, List.not_mem_nil, or_false, forall_eq_or_imp, forall_eq]; exact jPure.ok) (orc_ok (by simp only [List.mem_cons, List.not_mem_nil, or_false, forall_eq_or_imp, forall_eq]; exact areWorkers.ok))) Try.func9 (by kernel_rfl) (by kernel_rfl) (n := 40) (ts := [4, 5]) (hd := hd) (dr := Dr.std) (cut := none) (by kernel_rfl) (by kernel_rfl) (by kernel_rfl) runf
end iGamesShared

namespace sGamesShared
def Rt : List AVal → Option (Bool × AVal × List Blk)
  | [.ro (.recs [0, 0, 1, 1] fs) m 4, .int .i64 w] => some (decide (fs.length = m * 4) && (gsh.sp fs && (gms.short.sp 4611686018427387904 (gof.sv fs) && gms.sp (gof.sv fs) w)), .tup [.own 0 0 m 0 1, .bool true], [⟨.typ (.ints .i64 (gms.o.sv (gof.sv fs))), 0⟩])
  | _ => none
def Rf : List AVal → Option (Bool × AVal × List Blk)
  | [.ro (.recs [0, 0, 1, 1] fs) m 4, .int .i64 w] => some (decide (fs.length = m * 4) && (gsh.sp fs && (gms.short.sp 4611686018427387904 (gof.sv fs) && !gms.sp (gof.sv fs) w)), .tup [.nils, .bool false], [])
  | _ => none
def hd : Nat → Head := fun _ => ⟨[0, 4, 5, 6, 7], some 1⟩
noncomputable def L (f n : Nat) (s : State) := loopAt Try.prog (orc [⟨29, l00In.R⟩, ⟨30, l02Is.R⟩, ⟨31, l02Pure.R⟩]) hd Dr.std 0 f (bodyOf Try.f7) 0 [true, true, true, false, true] (retK Try.prog [4, 5] 0 none) n s
theorem start (fs : List Fld) (m : Nat) (w : Int) (f : Nat) :
  runFn Try.prog (orc [⟨29, l00In.R⟩, ⟨30, l02Is.R⟩, ⟨31, l02Pure.R⟩]) hd Dr.std none f (bodyOf Try.f7) 37 [4, 5] [.ro (.recs [0, 0, 1, 1] fs) m 4, .int .i64 w] []
  = (bif decide ((16 : Int) < (↑m : Int)) then some (AVal.tup [AVal.nils, AVal.bool false], []) else bif true && (true && true || true && true) then bif !(decide ((1 : Int) ≤ w) && decide (w ≤ (8 : Int))) then some (AVal.tup [AVal.nils, AVal.bool false], []) else L f f (mkS (37 : Nat) [((0 : Nat), AVal.ro (Cont.recs [(0 : Nat), (0 : Nat), (1 : Nat), (1 : Nat)] fs) m (4 : Nat)), ((4 : Nat), AVal.nils), ((5 : Nat), AVal.bool false), ((6 : Nat), AVal.own (0 : Nat) (0 : Nat) (0 : Nat) (0 : Nat) (1 : Nat)), ((7 : Nat), AVal.int IntKind.i64 (0 : Int))] [{ c := BC.typ (Cont.ints IntKind.i64 (List.replicate (0 : Nat) (0 : Int))), ver := (0 : Nat) }]) else none) := by kernel_rfl
theorem round (fs : List Fld) (m q i : Nat) (os : List Int) (f n : Nat) :
  L f (n + 1) (mkS 37 [(0, .ro (.recs [0, 0, 1, 1] fs) m 4), (4, .nils), (5, .bool false), (6, .own 0 0 q 0 1), (7, .int .i64 i)] [⟨.typ (.ints .i64 os), 0⟩])
  = (bif decide ((↑i : Int) < (↑m : Int)) then bif true && (true && (recfit.sp [(0 : Nat), (0 : Nat), (1 : Nat), (1 : Nat)] fs && (decide ((0 : Int) ≤ (↑i : Int)) && decide ((↑i : Int) < (↑m : Int))))) then bif decide ((recL.sv fs (addL ((↑i : Int).toNat * nat_lit 4) ((0 : Nat) + (1 : Nat) + (1 : Nat)))).length = (recL.sv fs (addL ((↑i : Int).toNat * nat_lit 4) ((0 : Nat) + (1 : Nat) + (1 : Nat)))).length ∧ (recL.sv fs (addL ((↑i : Int).toNat * nat_lit 4) ((0 : Nat) + (1 : Nat) + (1 : Nat) + (1 : Nat)))).length = (recL.sv fs (addL ((↑i : Int).toNat * nat_lit 4) ((0 : Nat) + (1 : Nat) + (1 : Nat) + (1 : Nat)))).length ∧ (recL.sv fs (addL ((↑i : Int).toNat * nat_lit 4) ((0 : Nat) + (1 : Nat) + (1 : Nat)))).length ≤ (4611686018427387904 : Nat) ∧ (recL.sv fs (addL ((↑i : Int).toNat * nat_lit 4) ((0 : Nat) + (1 : Nat) + (1 : Nat) + (1 : Nat)))).length ≤ (4611686018427387904 : Nat)) && (true && (true && (true && (true && true))) && true || true && true) then bif !gm.sp (recN.sv fs (addL ((↑i : Int).toNat * (4 : Nat)) (0 : Nat))) (recN.sv fs (addL ((↑i : Int).toNat * (4 : Nat)) (1 : Nat))) (recL.sv fs (addL ((↑i : Int).toNat * (4 : Nat)) (2 : Nat))) (recL.sv fs (addL ((↑i : Int).toNat * (4 : Nat)) (3 : Nat))) then some (AVal.tup [AVal.nils, AVal.bool false], [{ c := BC.typ (Cont.ints IntKind.i64 os), ver := (0 : Nat) }]) else bif true && (true && (recfit.sp [(0 : Nat), (0 : Nat), (1 : Nat), (1 : Nat)] fs && (decide ((0 : Int) ≤ (↑i : Int)) && decide ((↑i : Int) < (↑m : Int))))) then bif decide ((recL.sv fs (addL ((↑i : Int).toNat * nat_lit 4) ((0 : Nat) + (1 : Nat) + (1 : Nat)))).length = (recL.sv fs (addL ((↑i : Int).toNat * nat_lit 4) ((0 : Nat) + (1 : Nat) + (1 : Nat)))).length ∧ (recL.sv fs (addL ((↑i : Int).toNat * nat_lit 4) ((0 : Nat) + (1 : Nat) + (1 : Nat) + (1 : Nat)))).length = (recL.sv fs (addL ((↑i : Int).toNat * nat_lit 4) ((0 : Nat) + (1 : Nat) + (1 : Nat) + (1 : Nat)))).length) && gm.sp (recN.sv fs (addL ((↑i : Int).toNat * (4 : Nat)) (0 : Nat))) (recN.sv fs (addL ((↑i : Int).toNat * (4 : Nat)) (1 : Nat))) (recL.sv fs (addL ((↑i : Int).toNat * (4 : Nat)) (2 : Nat))) (recL.sv fs (addL ((↑i : Int).toNat * (4 : Nat)) (3 : Nat))) && (true && (true && (true && (true && true))) && true || true && (true && true)) then bif (1 : Nat) == (1 : Nat) && (1 : Nat) == (1 : Nat) && (true && (true && true) && (true && true && (decide (q + (List.take (1 : Nat) (List.drop (0 : Nat) ((List.replicate (1 : Nat) (0 : Int)).set (0 : Nat) (↑(pu.sv (recN.sv fs (addL ((↑i : Int).toNat * (4 : Nat)) (0 : Nat))).toNat (recN.sv fs (addL ((↑i : Int).toNat * (4 : Nat)) (1 : Nat))).toNat (recL.sv fs (addL ((↑i : Int).toNat * (4 : Nat)) (2 : Nat))) (recL.sv fs (addL ((↑i : Int).toNat * (4 : Nat)) (3 : Nat)))).length : Int)))).length ≤ (4611686018427387904 : Nat)) && decide ((q + (List.take (1 : Nat) (List.drop (0 : Nat) ((List.replicate (1 : Nat) (0 : Int)).set (0 : Nat) (↑(pu.sv (recN.sv fs (addL ((↑i : Int).toNat * (4 : Nat)) (0 : Nat))).toNat (recN.sv fs (addL ((↑i : Int).toNat * (4 : Nat)) (1 : Nat))).toNat (recL.sv fs (addL ((↑i : Int).toNat * (4 : Nat)) (2 : Nat))) (recL.sv fs (addL ((↑i : Int).toNat * (4 : Nat)) (3 : Nat)))).length : Int)))).length) * (8 : Nat) ≤ (140737488355328 : Nat))))) then L f n (mkS (37 : Nat) [((0 : Nat), AVal.ro (Cont.recs [(0 : Nat), (0 : Nat), (1 : Nat), (1 : Nat)] fs) m (4 : Nat)), ((4 : Nat), AVal.nils), ((5 : Nat), AVal.bool false), ((6 : Nat), AVal.own (0 : Nat) (0 : Nat) (q + (List.take (1 : Nat) (List.drop (0 : Nat) ((List.replicate (1 : Nat) (0 : Int)).set (0 : Nat) (↑(pu.sv (recN.sv fs (addL ((↑i : Int).toNat * (4 : Nat)) (0 : Nat))).toNat (recN.sv fs (addL ((↑i : Int).toNat * (4 : Nat)) (1 : Nat))).toNat (recL.sv fs (addL ((↑i : Int).toNat * (4 : Nat)) (2 : Nat))) (recL.sv fs (addL ((↑i : Int).toNat * (4 : Nat)) (3 : Nat)))).length : Int)))).length) (0 : Nat) (1 : Nat)), ((7 : Nat), AVal.int IntKind.i64 (IntKind.i64.wrap ((↑i : Int) + (1 : Int))))] [{ c := BC.typ (Cont.ints IntKind.i64 (List.take q os ++ List.take (1 : Nat) (List.drop (0 : Nat) ((List.replicate (1 : Nat) (0 : Int)).set (0 : Nat) (↑(pu.sv (recN.sv fs (addL ((↑i : Int).toNat * (4 : Nat)) (0 : Nat))).toNat (recN.sv fs (addL ((↑i : Int).toNat * (4 : Nat)) (1 : Nat))).toNat (recL.sv fs (addL ((↑i : Int).toNat * (4 : Nat)) (2 : Nat))) (recL.sv fs (addL ((↑i : Int).toNat * (4 : Nat)) (3 : Nat)))).length : Int))))), ver := (0 : Nat) }]) else none else none else none else none else none else some (AVal.tup [AVal.own (0 : Nat) (0 : Nat) q (0 : Nat) (1 : Nat), AVal.bool true], [{ c := BC.typ (Cont.ints IntKind.i64 os), ver := (0 : Nat) }])) := by kernel_rfl
theorem loop_t (xs : List GmT) (f : Nat) (hx : xs.length ≤ 16) (hs : gms.short.sp 4611686018427387904 xs = true) (hv : xs.all gms.v.sp = true) (hf : 64 < f) : ∀ (d i n : Nat), i + d = xs.length → d < n →
    L f n (mkS 37 [(0, .ro (.recs [0, 0, 1, 1] (gfs.sv xs)) xs.length 4), (4, .nils), (5, .bool false), (6, .own 0 0 i 0 1), (7, .int .i64 (i : Int))] [⟨.typ (.ints .i64 (gms.o.sv (xs.take i))), 0⟩]) = some (.tup [.own 0 0 xs.length 0 1, .bool true], [⟨.typ (.ints .i64 (gms.o.sv xs)), 0⟩]) := by
  intro d
  induction d with
  | zero =>
    intro i n hi hn
    obtain ⟨n, rfl⟩ : ∃ k, n = k + 1 := ⟨n - 1, by omega⟩
    obtain rfl : i = xs.length := by omega
    rw [round, List.take_length]
    simp -implicitDefEqProofs (disch := omega) only [take_one, set_one, decide_eq_true, decide_eq_false, IntWalk.i64_in, beqT, beqF, bneT, bneF, nat_succ, ← Int.natCast_mul, ← Int.natCast_add, Int.toNat_natCast, Int.zero_mul, Int.zero_add, Int.add_zero, Nat.zero_add, Nat.add_zero, Nat.zero_mul, List.length_singleton, List.length_append, List.length_nil, List.length_cons, List.take_length, List.drop_zero, List.replicate_zero, List.take_nil, List.nil_append, Nat.reduceBEq, Nat.reduceMul, Nat.reduceLeDiff, eq_self, and_self, true_and, and_true, decide_true, decide_false, Bool.and_self, Bool.or_self, Bool.and_true, Bool.true_and, Bool.and_false, Bool.false_and, Bool.or_true, Bool.true_or, Bool.or_false, Bool.false_or, Bool.not_true, Bool.not_false, cond_true, cond_false]
  | succ d ih =>
    intro i n hi hn
    obtain ⟨n, rfl⟩ : ∃ k, n = k + 1 := ⟨n - 1, by omega⟩
    have hlt : i < xs.length := by omega
    have g := ih (i + 1) n (by omega) (by omega)
    obtain ⟨r1, r2, r3, r4⟩ := gfs_rec hlt
    obtain ⟨s1, s2⟩ := gms.short_at hs hlt
    have ft := gfs_fit xs
    have vv : gm.sp (gg xs i).1.1 (gg xs i).1.2 (gg xs i).2.1 (gg xs i).2.2 = true := List.all_eq_true.1 hv _ (gg_mem hlt).1
    have ot : gms.o.sv (xs.take (i + 1)) = gms.o.sv (xs.take i) ++ [((pu.sv (gg xs i).1.1.toNat (gg xs i).1.2.toNat (gg xs i).2.1 (gg xs i).2.2).length : Int)] := by
      rw [gg_take hlt]; simp [gms.o.sv, gms.c.sv]
    have ol : (gms.o.sv (xs.take i)).length = i := by simp [gms.o.sv]; omega
    have tt : (gms.o.sv (xs.take i)).take i = gms.o.sv (xs.take i) := List.take_of_length_le (by omega)
    rw [ot] at g
    rw [round]
    skip
    simp -implicitDefEqProofs (disch := omega) only [r1, r2, r3, r4, s1, s2, ft, vv, tt, addL_eq, mulN_eq, beq_self_eq_true, Nat.le_refl, jPure.o.sv, ol, take_one, set_one, decide_eq_true, decide_eq_false, IntWalk.i64_in, beqT, beqF, bneT, bneF, nat_succ, ← Int.natCast_mul, ← Int.natCast_add, Int.toNat_natCast, Int.zero_mul, Int.zero_add, Int.add_zero, Nat.zero_add, Nat.add_zero, Nat.zero_mul, List.length_singleton, List.length_append, List.length_nil, List.length_cons, List.take_length, List.drop_zero, List.replicate_zero, List.take_nil, List.nil_append, Nat.reduceBEq, Nat.reduceMul, Nat.reduceLeDiff, eq_self, and_self, true_and, and_true, decide_true, decide_false, Bool.and_self, Bool.or_self, Bool.and_true, Bool.true_and, Bool.and_false, Bool.false_and, Bool.or_true, Bool.true_or, Bool.or_false, Bool.false_or, Bool.not_true, Bool.not_false, cond_true, cond_false]
    exact g
theorem loop_f (xs : List GmT) (f : Nat) (hx : xs.length ≤ 16) (hs : gms.short.sp 4611686018427387904 xs = true) (hf : 64 < f) : ∀ (d i n : Nat) (os : List Int), i + d = xs.length → d < n → os.length = i → (xs.drop i).all gms.v.sp = false →
    ∃ H', L f n (mkS 37 [(0, .ro (.recs [0, 0, 1, 1] (gfs.sv xs)) xs.length 4), (4, .nils), (5, .bool false), (6, .own 0 0 i 0 1), (7, .int .i64 (i : Int))] [⟨.typ (.ints .i64 os), 0⟩]) = some (.tup [.nils, .bool false], H') := by
  intro d
  induction d with
  | zero =>
    intro i n os hi hn hl hv
    rw [List.drop_of_length_le (by omega)] at hv
    cases hv
  | succ d ih =>
    intro i n os hi hn hl hv
    obtain ⟨n, rfl⟩ : ∃ k, n = k + 1 := ⟨n - 1, by omega⟩
    have hlt : i < xs.length := by omega
    rw [gg_drop hlt, List.all_cons] at hv
    obtain ⟨r1, r2, r3, r4⟩ := gfs_rec hlt
    obtain ⟨s1, s2⟩ := gms.short_at hs hlt
    have ft := gfs_fit xs
    have tt : os.take i = os := List.take_of_length_le (by omega)
    cases vv : gm.sp (gg xs i).1.1 (gg xs i).1.2 (gg xs i).2.1 (gg xs i).2.2
    · apply Exists.intro
      rw [round]
      skip
      simp -implicitDefEqProofs (disch := omega) only [r1, r2, r3, r4, s1, s2, ft, vv, tt, addL_eq, mulN_eq, beq_self_eq_true, Nat.le_refl, jPure.o.sv, hl, take_one, set_one, decide_eq_true, decide_eq_false, IntWalk.i64_in, beqT, beqF, bneT, bneF, nat_succ, ← Int.natCast_mul, ← Int.natCast_add, Int.toNat_natCast, Int.zero_mul, Int.zero_add, Int.add_zero, Nat.zero_add, Nat.add_zero, Nat.zero_mul, List.length_singleton, List.length_append, List.length_nil, List.length_cons, List.take_length, List.drop_zero, List.replicate_zero, List.take_nil, List.nil_append, Nat.reduceBEq, Nat.reduceMul, Nat.reduceLeDiff, eq_self, and_self, true_and, and_true, decide_true, decide_false, Bool.and_self, Bool.or_self, Bool.and_true, Bool.true_and, Bool.and_false, Bool.false_and, Bool.or_true, Bool.true_or, Bool.or_false, Bool.false_or, Bool.not_true, Bool.not_false, cond_true, cond_false]
      rfl
    · have hv : (xs.drop (i + 1)).all gms.v.sp = false := by
        have e : gms.v.sp (gg xs i) = true := vv
        rw [e, Bool.true_and] at hv; exact hv
      obtain ⟨H', g⟩ := ih (i + 1) n (os ++ [((pu.sv (gg xs i).1.1.toNat (gg xs i).1.2.toNat (gg xs i).2.1 (gg xs i).2.2).length : Int)]) (by omega) (by omega) (by simp [hl]) hv
      refine ⟨H', ?_⟩
      rw [round]
      skip
      simp -implicitDefEqProofs (disch := omega) only [r1, r2, r3, r4, s1, s2, ft, vv, tt, addL_eq, mulN_eq, beq_self_eq_true, Nat.le_refl, jPure.o.sv, hl, take_one, set_one, decide_eq_true, decide_eq_false, IntWalk.i64_in, beqT, beqF, bneT, bneF, nat_succ, ← Int.natCast_mul, ← Int.natCast_add, Int.toNat_natCast, Int.zero_mul, Int.zero_add, Int.add_zero, Nat.zero_add, Nat.add_zero, Nat.zero_mul, List.length_singleton, List.length_append, List.length_nil, List.length_cons, List.take_length, List.drop_zero, List.replicate_zero, List.take_nil, List.nil_append, Nat.reduceBEq, Nat.reduceMul, Nat.reduceLeDiff, eq_self, and_self, true_and, and_true, decide_true, decide_false, Bool.and_self, Bool.or_self, Bool.and_true, Bool.true_and, Bool.and_false, Bool.false_and, Bool.or_true, Bool.true_or, Bool.or_false, Bool.false_or, Bool.not_true, Bool.not_false, cond_true, cond_false]
      exact g
theorem runt : ∀ args v new, Rt args = some (true, v, new) → ∃ fuel, regc [0] (runFn Try.prog (orc [⟨29, l00In.R⟩, ⟨30, l02Is.R⟩, ⟨31, l02Pure.R⟩]) hd Dr.std none fuel (bodyOf Try.f7) 37 [4, 5] args []) = some (v, new) := by
  intro args v new h
  unfold Rt at h
  split at h
  · rename_i fs m w
    simp only [Option.some.injEq, Prod.mk.injEq, Bool.and_eq_true, decide_eq_true_eq, Bool.not_eq_true'] at h
    obtain ⟨⟨hl, hs, hsh, hsp⟩, rfl, rfl⟩ := h
    obtain ⟨xs, rfl⟩ : ∃ xs, fs = gfs.sv xs := ⟨_, (gsh_eq hs).symm⟩
    rw [(gsh_of xs).2] at *
    rw [gfs_len] at hl
    obtain rfl : m = xs.length := by omega
    simp only [gms.sp, Bool.and_eq_true, decide_eq_true_eq] at hsp
    obtain ⟨⟨k1, k2, k3⟩, k4⟩ := hsp
    obtain ⟨F, hF⟩ : ∃ F : Nat, F = 100 := ⟨100, rfl⟩
    refine ⟨F, ?_⟩
    rw [start]
    have g := loop_t xs F k1 hsh k4 (by omega) xs.length 0 F (by omega) (by omega)
    have t0 : gms.o.sv (xs.take 0) = [] := by simp [gms.o.sv]
    rw [t0] at g
    simp -implicitDefEqProofs (disch := omega) only [take_one, set_one, decide_eq_true, decide_eq_false, IntWalk.i64_in, beqT, beqF, bneT, bneF, nat_succ, ← Int.natCast_mul, ← Int.natCast_add, Int.toNat_natCast, Int.zero_mul, Int.zero_add, Int.add_zero, Nat.zero_add, Nat.add_zero, Nat.zero_mul, List.length_singleton, List.length_append, List.length_nil, List.length_cons, List.take_length, List.drop_zero, List.replicate_zero, List.take_nil, List.nil_append, Nat.reduceBEq, Nat.reduceMul, Nat.reduceLeDiff, eq_self, and_self, true_and, and_true, decide_true, decide_false, Bool.and_self, Bool.or_self, Bool.and_true, Bool.true_and, Bool.and_false, Bool.false_and, Bool.or_true, Bool.true_or, Bool.or_false, Bool.false_or, Bool.not_true, Bool.not_false, cond_true, cond_false]
    exact (congrArg (regc [0]) g).trans rfl
  · cases h
theorem okt : EntOk Try.prog ⟨7, Rt⟩ :=
  ent_okAG (ks := [0]) mixed (A := (orc [⟨29, l00In.R⟩, ⟨30, l02Is.R⟩, ⟨31, l02Pure.R⟩])) (orc_ok (by simp only [List.mem_cons, List.not_mem_nil, or_false, forall_eq_or_imp, forall_eq]; exact ⟨l00In.ok, l02Is.ok, l02Pure.ok⟩)) Try.func7 (by kernel_rfl) (by kernel_rfl) (n := 37) (ts := [4, 5]) (hd := hd) (dr := Dr.std) (cut := none) (by kernel_rfl) (by kernel_rfl) (by kernel_rfl) runt
theorem runf : ∀ args v new, Rf args = some (true, v, new) → ∃ fuel, regc [] (runFn Try.prog (orc [⟨29, l00In.R⟩, ⟨30, l02Is.R⟩, ⟨31, l02Pure.R⟩]) hd Dr.std none fuel (bodyOf Try.f7) 37 [4, 5] args []) = some (v, new) := by
  intro args v new h
  unfold Rf at h
  split at h
  · rename_i fs m w
    simp only [Option.some.injEq, Prod.mk.injEq, Bool.and_eq_true, decide_eq_true_eq, Bool.not_eq_true'] at h
    obtain ⟨⟨hl, hs, hsh, hsp⟩, rfl, rfl⟩ := h
    obtain ⟨xs, rfl⟩ : ∃ xs, fs = gfs.sv xs := ⟨_, (gsh_eq hs).symm⟩
    rw [(gsh_of xs).2] at *
    rw [gfs_len] at hl
    obtain rfl : m = xs.length := by omega
    simp only [gms.sp] at hsp
    obtain ⟨F, hF⟩ : ∃ F : Nat, F = 100 := ⟨100, rfl⟩
    refine ⟨F, ?_⟩
    rw [start]
    by_cases k1 : (16 : Int) < (xs.length : Int)
    · simp -implicitDefEqProofs (disch := omega) only [take_one, set_one, decide_eq_true, decide_eq_false, IntWalk.i64_in, beqT, beqF, bneT, bneF, nat_succ, ← Int.natCast_mul, ← Int.natCast_add, Int.toNat_natCast, Int.zero_mul, Int.zero_add, Int.add_zero, Nat.zero_add, Nat.add_zero, Nat.zero_mul, List.length_singleton, List.length_append, List.length_nil, List.length_cons, List.take_length, List.drop_zero, List.replicate_zero, List.take_nil, List.nil_append, Nat.reduceBEq, Nat.reduceMul, Nat.reduceLeDiff, eq_self, and_self, true_and, and_true, decide_true, decide_false, Bool.and_self, Bool.or_self, Bool.and_true, Bool.true_and, Bool.and_false, Bool.false_and, Bool.or_true, Bool.true_or, Bool.or_false, Bool.false_or, Bool.not_true, Bool.not_false, cond_true, cond_false]
      rfl
    cases k2 : (decide (1 ≤ w) && decide (w ≤ 8))
    · simp -implicitDefEqProofs (disch := omega) only [k2, take_one, set_one, decide_eq_true, decide_eq_false, IntWalk.i64_in, beqT, beqF, bneT, bneF, nat_succ, ← Int.natCast_mul, ← Int.natCast_add, Int.toNat_natCast, Int.zero_mul, Int.zero_add, Int.add_zero, Nat.zero_add, Nat.add_zero, Nat.zero_mul, List.length_singleton, List.length_append, List.length_nil, List.length_cons, List.take_length, List.drop_zero, List.replicate_zero, List.take_nil, List.nil_append, Nat.reduceBEq, Nat.reduceMul, Nat.reduceLeDiff, eq_self, and_self, true_and, and_true, decide_true, decide_false, Bool.and_self, Bool.or_self, Bool.and_true, Bool.true_and, Bool.and_false, Bool.false_and, Bool.or_true, Bool.true_or, Bool.or_false, Bool.false_or, Bool.not_true, Bool.not_false, cond_true, cond_false]
      rfl
    · rw [k2, decide_eq_true (show xs.length ≤ 16 by omega), Bool.true_and, Bool.true_and] at hsp
      obtain ⟨H', g⟩ := loop_f xs F (by omega) hsh (by omega) xs.length 0 F [] (by omega) (by omega) rfl (by rw [List.drop_zero]; exact hsp)
      simp -implicitDefEqProofs (disch := omega) only [k2, take_one, set_one, decide_eq_true, decide_eq_false, IntWalk.i64_in, beqT, beqF, bneT, bneF, nat_succ, ← Int.natCast_mul, ← Int.natCast_add, Int.toNat_natCast, Int.zero_mul, Int.zero_add, Int.add_zero, Nat.zero_add, Nat.add_zero, Nat.zero_mul, List.length_singleton, List.length_append, List.length_nil, List.length_cons, List.take_length, List.drop_zero, List.replicate_zero, List.take_nil, List.nil_append, Nat.reduceBEq, Nat.reduceMul, Nat.reduceLeDiff, eq_self, and_self, true_and, and_true, decide_true, decide_false, Bool.and_self, Bool.or_self, Bool.and_true, Bool.true_and, Bool.and_false, Bool.false_and, Bool.or_true, Bool.true_or, Bool.or_false, Bool.false_or, Bool.not_true, Bool.not_false, cond_true, cond_false]
      exact (congrArg (regc []) g).trans rfl
  · cases h
theorem okf : EntOk Try.prog ⟨7, Rf⟩ :=
  ent_okAG (ks := []) mixed (A := (orc [⟨29, l00In.R⟩, ⟨30, l02Is.R⟩, ⟨31, l02Pure.R⟩])) (orc_ok (by simp only [List.mem_cons, List.not_mem_nil, or_false, forall_eq_or_imp, forall_eq]; exact ⟨l00In.ok, l02Is.ok, l02Pure.ok⟩)) Try.func7 (by kernel_rfl) (by kernel_rfl) (n := 37) (ts := [4, 5]) (hd := hd) (dr := Dr.std) (cut := none) (by kernel_rfl) (by kernel_rfl) (by kernel_rfl) runf
end sGamesShared

end Go.Proofs.Ythecninmmojkgaa.Ab
