/-
  Functions: how often rows and columns are chosen.
-/
import Derived.Test.YtgblgofmdhekiaaFnGK
namespace Go.Proofs.Ytgblgofmdhekiaa.Ab
open Go
set_option linter.unusedVariables false
set_option linter.unusedSimpArgs false
set_option maxRecDepth 100000

namespace iLearnRows_t
def dr : Nat → Dr := fun i => bif eqN i 3 then ⟨some [999, 0, 1, 3, 4, 2, 6, 5, 7], false⟩ else bif eqN i 8 then ⟨some [0, 1, 3, 4, 2, 5, 6, 7], false⟩ else ⟨none, false⟩
def R : List AVal → Option (Bool × AVal × List Blk)
  | [.agg [.int .i64 r, .int .i64 c, .ro (.ints .i64 xs) ma 1, .ro (.ints .i64 ys) mb 1], .int .i64 n] => some (decide (ma = xs.length ∧ mb = ys.length ∧ ma ≤ 4611686018427387904 ∧ mb ≤ 4611686018427387904) && lr.sp r c xs ys n, .tup [.own 0 0 (lr.rows.sv r.toNat c.toNat xs ys n.toNat).length 0 1, .own 1 0 (lr.cols.sv r.toNat c.toNat xs ys n.toNat).length 0 1, .bool true], [⟨.typ (.ints .i64 (lr.rows.sv r.toNat c.toNat xs ys n.toNat)), 0⟩, ⟨.typ (.ints .i64 (lr.cols.sv r.toNat c.toNat xs ys n.toNat)), 0⟩])
  | _ => none
def hd : Nat → Head := fun _ => ⟨[2, 7, 8, 9, 33, 34], some 6⟩
noncomputable def L (f n : Nat) (s : State) := loopAt Try.prog (orc [⟨43, iValidGame.R⟩, ⟨40, within.R⟩, ⟨44, gTurned.R⟩, ⟨45, gAnswer.R⟩]) hd dr 0 f (bodyOf Try.f15) 0 [true, true, true, true, true, false, true] (retK Try.prog [4, 5, 6] 0 none) n s
theorem start (r c : Int) (xs ys : List Int) (v : Int) (f : Nat) :
  runFn Try.prog (orc [⟨43, iValidGame.R⟩, ⟨40, within.R⟩, ⟨44, gTurned.R⟩, ⟨45, gAnswer.R⟩]) hd dr none f (bodyOf Try.f15) 57 [4, 5, 6] [.agg [.int .i64 r, .int .i64 c, .ro (.ints .i64 xs) xs.length 1, .ro (.ints .i64 ys) ys.length 1], .int .i64 v] []
  = (bif true && true && (true && true && (true && true && (true && true && true))) then bif decide (xs.length = xs.length ∧ ys.length = ys.length ∧ xs.length ≤ (4611686018427387904 : Nat) ∧ ys.length ≤ (4611686018427387904 : Nat)) && (true && (true && (true && (true && true))) && true || true && true) then bif !gm.sp r c xs ys then some (AVal.tup [AVal.nils, AVal.nils, AVal.bool false], [{ c := BC.cells [AVal.int IntKind.i64 r, AVal.int IntKind.i64 c, AVal.ro (Cont.ints IntKind.i64 xs) xs.length (1 : Nat), AVal.ro (Cont.ints IntKind.i64 ys) ys.length (1 : Nat)], ver := (0 : Nat) }]) else bif true && (true && true || true && true) then bif !(decide ((1 : Int) ≤ v) && decide (v ≤ (1000 : Int))) then some (AVal.tup [AVal.nils, AVal.nils, AVal.bool false], [{ c := BC.cells [AVal.int IntKind.i64 r, AVal.int IntKind.i64 c, AVal.ro (Cont.ints IntKind.i64 xs) xs.length (1 : Nat), AVal.ro (Cont.ints IntKind.i64 ys) ys.length (1 : Nat)], ver := (0 : Nat) }]) else bif true && true then bif true && true then bif (1 : Nat) == (1 : Nat) && (r == r && (decide ((0 : Int) ≤ r) && (decide (r * (8 : Int) ≤ (140737488355328 : Int)) && decide (r ≤ (4611686018427387904 : Int))))) then bif (1 : Nat) == (1 : Nat) && (c == c && (decide ((0 : Int) ≤ c) && (decide (c * (8 : Int) ≤ (140737488355328 : Int)) && decide (c ≤ (4611686018427387904 : Int))))) then bif decide ((0 : Int) < (↑r.toNat : Int)) then bif true && (true && (decide ((0 : Nat) < (List.replicate r.toNat (0 : Int)).length) && true)) then bif decide ((0 : Int) < (↑c.toNat : Int)) then bif true && (true && (decide ((0 : Nat) < (List.replicate c.toNat (0 : Int)).length) && true)) then bif true && true && (true && true && (true && true && (true && true && true))) then bif decide (xs.length = xs.length ∧ ys.length = ys.length) && gm.sp r c xs ys && (true && (true && (true && (true && true))) && true || true && (true && (true && (true && true))) && (true && (true && true))) then L f f (mkS (57 : Nat) [((2 : Nat), AVal.ptr (0 : Nat) (0 : Nat) (0 : Nat)), ((7 : Nat), AVal.own (1 : Nat) (0 : Nat) r.toNat (0 : Nat) (1 : Nat)), ((8 : Nat), AVal.own ((1 : Nat) + (1 : Nat)) (0 : Nat) c.toNat (0 : Nat) (1 : Nat)), ((9 : Nat), AVal.ptr ((1 : Nat) + (1 : Nat) + (1 : Nat) + (1 : Nat) + (1 : Nat)) (0 : Nat) (0 : Nat)), ((33 : Nat), AVal.int IntKind.i64 (IntKind.i64.wrap (v - (1 : Int)))), ((34 : Nat), AVal.int IntKind.i64 (0 : Int))] [{ c := BC.cells [AVal.int IntKind.i64 r, AVal.int IntKind.i64 c, AVal.ro (Cont.ints IntKind.i64 xs) xs.length (1 : Nat), AVal.ro (Cont.ints IntKind.i64 ys) ys.length (1 : Nat)], ver := (0 : Nat) }, { c := BC.typ (Cont.ints IntKind.i64 ((List.replicate r.toNat (0 : Int)).set (0 : Nat) (1 : Int))), ver := (0 : Nat) }, { c := BC.typ (Cont.ints IntKind.i64 ((List.replicate c.toNat (0 : Int)).set (0 : Nat) (1 : Int))), ver := (0 : Nat) }, { c := BC.typ (Cont.ints IntKind.i64 (tn.sv r.toNat c.toNat ys)), ver := (0 : Nat) }, { c := BC.typ (Cont.ints IntKind.i64 (tn.sv r.toNat c.toNat xs)), ver := (0 : Nat) }, { c := BC.cells [AVal.int IntKind.i64 c, AVal.int IntKind.i64 r, AVal.own ((1 : Nat) + (1 : Nat) + (1 : Nat) + (0 : Nat)) (0 : Nat) (c * r).toNat (0 : Nat) (1 : Nat), AVal.own ((1 : Nat) + (1 : Nat) + (1 : Nat) + (1 : Nat)) (0 : Nat) (c * r).toNat (0 : Nat) (1 : Nat)], ver := (0 : Nat) }]) else none else none else none else none else none else none else none else none else none else none else none else none else none) := by kernel_rfl
theorem round (r c : Nat) (xs ys : List Int) (ta tb : List Int) (w : Nat) (ps qs : List Int) (N : Int) (i f n : Nat) :
  L f (n + 1) (mkS 57 [(2, .ptr 0 0 0), (7, .own 1 0 r 0 1), (8, .own 2 0 c 0 1), (9, .ptr 5 0 0), (33, .int .i64 N), (34, .int .i64 i)] [⟨.cells [.int .i64 r, .int .i64 c, .ro (.ints .i64 xs) xs.length 1, .ro (.ints .i64 ys) ys.length 1], 0⟩, ⟨.typ (.ints .i64 ps), 0⟩, ⟨.typ (.ints .i64 qs), 0⟩, ⟨.typ (.ints .i64 ta), 0⟩, ⟨.typ (.ints .i64 tb), 0⟩, ⟨.cells [.int .i64 c, .int .i64 r, .own 3 0 w 0 1, .own 4 0 w 0 1], 0⟩])
  = (bif decide ((↑i : Int) < N) then bif true && true && (true && true && (true && true && (true && true && true))) then bif true && true && (true && true && (true && true && (true && true && true))) then bif decide (xs.length = xs.length ∧ ys.length = ys.length ∧ c = qs.length ∧ (↑c : Int) = (↑c : Int)) && gm.sp (↑r : Int) (↑c : Int) xs ys && (true && (true && (true && (true && true))) && (false && true) || true && true) then bif decide (w = ta.length ∧ w = tb.length ∧ r = ps.length ∧ (↑r : Int) = (↑r : Int)) && gm.sp (↑c : Int) (↑r : Int) ta tb && (true && (true && (false && (false && true))) && (false && true) || true && true) then bif true && (decide ((0 : Int) ≤ an.sv (↑r : Int).toNat (↑c : Int).toNat xs qs) && decide (an.sv (↑r : Int).toNat (↑c : Int).toNat xs qs < (↑r : Int))) then bif true && decide ((an.sv (↑r : Int).toNat (↑c : Int).toNat xs qs).toNat < ps.length) then bif true && (decide ((0 : Int) ≤ an.sv (↑r : Int).toNat (↑c : Int).toNat xs qs) && decide (an.sv (↑r : Int).toNat (↑c : Int).toNat xs qs < (↑r : Int))) then bif true && (true && (decide ((an.sv (↑r : Int).toNat (↑c : Int).toNat xs qs).toNat < ps.length) && true)) then bif true && (decide ((0 : Int) ≤ an.sv (↑c : Int).toNat (↑r : Int).toNat ta ps) && decide (an.sv (↑c : Int).toNat (↑r : Int).toNat ta ps < (↑c : Int))) then bif true && decide ((an.sv (↑c : Int).toNat (↑r : Int).toNat ta ps).toNat < qs.length) then bif true && (decide ((0 : Int) ≤ an.sv (↑c : Int).toNat (↑r : Int).toNat ta ps) && decide (an.sv (↑c : Int).toNat (↑r : Int).toNat ta ps < (↑c : Int))) then bif true && (true && (decide ((an.sv (↑c : Int).toNat (↑r : Int).toNat ta ps).toNat < qs.length) && true)) then L f n (mkS (57 : Nat) [((2 : Nat), AVal.ptr (0 : Nat) (0 : Nat) (0 : Nat)), ((7 : Nat), AVal.own (1 : Nat) (0 : Nat) r (0 : Nat) (1 : Nat)), ((8 : Nat), AVal.own (2 : Nat) (0 : Nat) c (0 : Nat) (1 : Nat)), ((9 : Nat), AVal.ptr (5 : Nat) (0 : Nat) (0 : Nat)), ((33 : Nat), AVal.int IntKind.i64 N), ((34 : Nat), AVal.int IntKind.i64 (IntKind.i64.wrap ((↑i : Int) + (1 : Int))))] [{ c := BC.cells [AVal.int IntKind.i64 (↑r : Int), AVal.int IntKind.i64 (↑c : Int), AVal.ro (Cont.ints IntKind.i64 xs) xs.length (1 : Nat), AVal.ro (Cont.ints IntKind.i64 ys) ys.length (1 : Nat)], ver := (0 : Nat) }, { c := BC.typ (Cont.ints IntKind.i64 (ps.set (an.sv (↑r : Int).toNat (↑c : Int).toNat xs qs).toNat (IntKind.i64.wrap (gz ps (an.sv (↑r : Int).toNat (↑c : Int).toNat xs qs).toNat + (1 : Int))))), ver := (0 : Nat) }, { c := BC.typ (Cont.ints IntKind.i64 (qs.set (an.sv (↑c : Int).toNat (↑r : Int).toNat ta ps).toNat (IntKind.i64.wrap (gz qs (an.sv (↑c : Int).toNat (↑r : Int).toNat ta ps).toNat + (1 : Int))))), ver := (0 : Nat) }, { c := BC.typ (Cont.ints IntKind.i64 ta), ver := (0 : Nat) }, { c := BC.typ (Cont.ints IntKind.i64 tb), ver := (0 : Nat) }, { c := BC.cells [AVal.int IntKind.i64 (↑c : Int), AVal.int IntKind.i64 (↑r : Int), AVal.own (3 : Nat) (0 : Nat) w (0 : Nat) (1 : Nat), AVal.own (4 : Nat) (0 : Nat) w (0 : Nat) (1 : Nat)], ver := (0 : Nat) }]) else none else none else none else none else none else none else none else none else none else none else none else none else some (AVal.tup [AVal.own (1 : Nat) (0 : Nat) r (0 : Nat) (1 : Nat), AVal.own (2 : Nat) (0 : Nat) c (0 : Nat) (1 : Nat), AVal.bool true], [{ c := BC.cells [AVal.int IntKind.i64 (↑r : Int), AVal.int IntKind.i64 (↑c : Int), AVal.ro (Cont.ints IntKind.i64 xs) xs.length (1 : Nat), AVal.ro (Cont.ints IntKind.i64 ys) ys.length (1 : Nat)], ver := (0 : Nat) }, { c := BC.typ (Cont.ints IntKind.i64 ps), ver := (0 : Nat) }, { c := BC.typ (Cont.ints IntKind.i64 qs), ver := (0 : Nat) }, { c := BC.typ (Cont.ints IntKind.i64 ta), ver := (0 : Nat) }, { c := BC.typ (Cont.ints IntKind.i64 tb), ver := (0 : Nat) }, { c := BC.cells [AVal.int IntKind.i64 (↑c : Int), AVal.int IntKind.i64 (↑r : Int), AVal.own (3 : Nat) (0 : Nat) w (0 : Nat) (1 : Nat), AVal.own (4 : Nat) (0 : Nat) w (0 : Nat) (1 : Nat)], ver := (0 : Nat) }])) := by kernel_rfl
theorem loop (r c : Nat) (xs ys : List Int) (f : Nat) (N : Nat) (hN : N ≤ 1000) (hv : gm.sp r c xs ys = true) (hw : gm.sp c r (tn.sv r c ys) (tn.sv r c xs) = true) (hr : 1 ≤ r ∧ r ≤ 6) (hc : 1 ≤ c ∧ c ≤ 6) (hx : xs.length = r * c) (hy : ys.length = r * c) : ∀ (d i n : Nat) (ps qs : List Int), i + d = N → d < n → ps.length = r → qs.length = c →
    L f n (mkS 57 [(2, .ptr 0 0 0), (7, .own 1 0 r 0 1), (8, .own 2 0 c 0 1), (9, .ptr 5 0 0), (33, .int .i64 (N : Int)), (34, .int .i64 i)] [⟨.cells [.int .i64 r, .int .i64 c, .ro (.ints .i64 xs) xs.length 1, .ro (.ints .i64 ys) ys.length 1], 0⟩, ⟨.typ (.ints .i64 ps), 0⟩, ⟨.typ (.ints .i64 qs), 0⟩, ⟨.typ (.ints .i64 (tn.sv r c ys)), 0⟩, ⟨.typ (.ints .i64 (tn.sv r c xs)), 0⟩, ⟨.cells [.int .i64 c, .int .i64 r, .own 3 0 (c * r) 0 1, .own 4 0 (c * r) 0 1], 0⟩]) = some (.tup [.own 1 0 r 0 1, .own 2 0 c 0 1, .bool true], [⟨.cells [.int .i64 r, .int .i64 c, .ro (.ints .i64 xs) xs.length 1, .ro (.ints .i64 ys) ys.length 1], 0⟩, ⟨.typ (.ints .i64 (lr.go r c xs ys d ps qs).1), 0⟩, ⟨.typ (.ints .i64 (lr.go r c xs ys d ps qs).2), 0⟩, ⟨.typ (.ints .i64 (tn.sv r c ys)), 0⟩, ⟨.typ (.ints .i64 (tn.sv r c xs)), 0⟩, ⟨.cells [.int .i64 c, .int .i64 r, .own 3 0 (c * r) 0 1, .own 4 0 (c * r) 0 1], 0⟩]) := by
  have h36 := gm.le_36 hr.2 hc.2
  have h36c := gm.le_36 hc.2 hr.2
  have t4 : c * r ≤ 4611686018427387904 := by omega
  have t1 : (tn.sv r c ys).length = c * r := tn.sv_length _ _ _
  have t2 : (tn.sv r c xs).length = c * r := tn.sv_length _ _ _
  have t5 : (tn.sv r c ys).take (c * r) = tn.sv r c ys := List.take_of_length_le (by omega)
  have t6 : (tn.sv r c xs).take (c * r) = tn.sv r c xs := List.take_of_length_le (by omega)
  intro d
  induction d with
  | zero =>
    intro i n ps qs hi hn hp hq
    obtain ⟨n, rfl⟩ : ∃ k, n = k + 1 := ⟨n - 1, by omega⟩
    obtain rfl : i = N := by omega
    rw [round]
    simp -implicitDefEqProofs only [lr.go, Int.lt_irrefl, decide_true, decide_false, Bool.and_self, Bool.or_self, Bool.and_true, Bool.true_and, Bool.and_false, Bool.false_and, Bool.or_true, Bool.true_or, Bool.or_false, Bool.false_or, Bool.not_true, Bool.not_false, cond_true, cond_false]
    try rfl
  | succ d ih =>
    intro i n ps qs hi hn hp hq
    obtain ⟨n, rfl⟩ : ∃ k, n = k + 1 := ⟨n - 1, by omega⟩
    have h5 : (i : Int) < (N : Int) := by omega
    have wi : IntKind.i64.wrap ((i : Int) + 1) = ((i + 1 : Nat) : Int) := wrap_nat i (by omega)
    have tp : ps.take r = ps := List.take_of_length_le (by omega)
    have tq : qs.take c = qs := List.take_of_length_le (by omega)
    obtain ⟨a, ha, har⟩ := an.sv_in c xs qs (r := r) (by omega)
    obtain ⟨b, hb, hbc⟩ := an.sv_in r (tn.sv r c ys) ps (r := c) (by omega)
    have a0 : (0 : Int) ≤ (a : Int) := Int.natCast_nonneg _
    have a1 : (a : Int) < (r : Int) := by omega
    have a2 : a < ps.length := by omega
    have b0 : (0 : Int) ≤ (b : Int) := Int.natCast_nonneg _
    have b1 : (b : Int) < (c : Int) := by omega
    have b2 : b < qs.length := by omega
    have hih := ih (i + 1) n (lr.bump ps (an.sv r c xs qs)) (lr.bump qs (an.sv c r (tn.sv r c ys) ps)) (by omega) (by omega) (by rw [lr.bump_length]; exact hp) (by rw [lr.bump_length]; exact hq)
    simp only [lr.bump, ha, hb, Int.toNat_natCast] at hih
    rw [round]
    simp -implicitDefEqProofs only [lr.go, lr.bump, h5, wi, tp, tq, hp, hq, ha, hb, a0, a1, a2, b0, b1, b2, t1, t2, t4, t5, t6, hv, hw, har, hbc, Nat.le_refl, Int.toNat_natCast, List.length_set, and_self, eq_self, decide_true, decide_false, Bool.and_self, Bool.or_self, Bool.and_true, Bool.true_and, Bool.and_false, Bool.false_and, Bool.or_true, Bool.true_or, Bool.or_false, Bool.false_or, Bool.not_true, Bool.not_false, cond_true, cond_false]
    exact hih
theorem run : ∀ args v new, R args = some (true, v, new) → ∃ fuel, regc [1, 2] (runFn Try.prog (orc [⟨43, iValidGame.R⟩, ⟨40, within.R⟩, ⟨44, gTurned.R⟩, ⟨45, gAnswer.R⟩]) hd dr none fuel (bodyOf Try.f15) 57 [4, 5, 6] args []) = some (v, new) := by
  intro args v new h
  unfold R at h
  split at h
  · rename_i r c xs ma ys mb v
    simp only [Option.some.injEq, Prod.mk.injEq, Bool.and_eq_true, decide_eq_true_eq, Bool.not_eq_true'] at h
    obtain ⟨⟨⟨rfl, rfl, h3, h4⟩, hs⟩, rfl, rfl⟩ := h
    have hs2 := hs
    simp only [lr.sp, Bool.and_eq_true, decide_eq_true_eq] at hs2
    obtain ⟨hv, hv0, hv1⟩ := hs2
    have hv2 := hv
    obtain ⟨r, c, rfl, rfl, hr, hc, hx, hy, vx, vy⟩ := gm.valid hv2
    obtain ⟨v, rfl⟩ : ∃ q : Nat, v = q := ⟨v.toNat, by omega⟩
    obtain ⟨F, hF⟩ : ∃ F : Nat, F = 2000 := ⟨2000, rfl⟩
    refine ⟨F, ?_⟩
    have hl := loop r c xs ys F (v - 1) (by omega) hv (tn.valid hr hc hx hy vx vy) hr hc hx hy (v - 1) 0 F (lr.one r) (lr.one c) (by omega) (by omega) (lr.one_length _) (lr.one_length _)
    have wv : IntKind.i64.wrap ((v : Int) - 1) = ((v - 1 : Nat) : Int) := by rw [IntWalk.i64_in _ (by omega)]; omega
    have e : ((c : Int) * (r : Int)).toNat = c * r := by
      have : (c : Int) * (r : Int) = ((c * r : Nat) : Int) := by simp
      rw [this]; rfl
    have r1 : (0 : Int) ≤ (r : Int) := Int.natCast_nonneg _
    have r2 : (r : Int) * 8 ≤ 140737488355328 := by omega
    have r3 : (r : Int) ≤ 4611686018427387904 := by omega
    have c1 : (0 : Int) ≤ (c : Int) := Int.natCast_nonneg _
    have c2 : (c : Int) * 8 ≤ 140737488355328 := by omega
    have c3 : (c : Int) ≤ 4611686018427387904 := by omega
    have c4 : (0 : Int) < (c : Int) := by omega
    have r4 : (0 : Int) < (r : Int) := by omega
    have c5 : 0 < c := by omega
    have r5 : 0 < r := by omega
    rw [start, lr.rows_length, lr.cols_length]
    have hone : ∀ n : Nat, (List.replicate n (0 : Int)).set 0 1 = lr.one n := fun _ => rfl
    simp -implicitDefEqProofs only [e, wv, hone, hv, hv0, hv1, h3, h4, r1, r2, r3, r4, r5, c1, c2, c3, c4, c5, Int.le_refl, Int.toNat_zero, Int.toNat_natCast, List.length_replicate, Int.lt_irrefl, beq_self_eq_true, Nat.reduceBEq, and_self, eq_self, decide_true, decide_false, Bool.and_self, Bool.or_self, Bool.and_true, Bool.true_and, Bool.and_false, Bool.false_and, Bool.or_true, Bool.true_or, Bool.or_false, Bool.false_or, Bool.not_true, Bool.not_false, cond_true, cond_false]
    exact (congrArg (regc [1, 2]) hl).trans rfl
  · cases h
theorem ok : EntOk Try.prog ⟨15, R⟩ :=
  ent_okAG (ks := [1, 2]) mixed (A := (orc [⟨43, iValidGame.R⟩, ⟨40, within.R⟩, ⟨44, gTurned.R⟩, ⟨45, gAnswer.R⟩])) (orc_ok (by simp only [List.mem_cons, List.not_mem_nil, or_false, forall_eq_or_imp, forall_eq]; exact ⟨iValidGame.ok, within.ok, gTurned.ok, gAnswer.ok⟩)) Try.func15 (by kernel_rfl) (by kernel_rfl) (n := 57) (ts := [4, 5, 6]) (hd := hd) (dr := dr) (cut := none) (by kernel_rfl) (by kernel_rfl) (by kernel_rfl) run
end iLearnRows_t

namespace iLearnRows_f
def dr : Nat → Dr := fun i => bif eqN i 3 then ⟨some [999, 0, 1, 3, 4, 2, 6, 5, 7], false⟩ else bif eqN i 8 then ⟨some [0, 1, 3, 4, 2, 5, 6, 7], false⟩ else ⟨none, false⟩
def R : List AVal → Option (Bool × AVal × List Blk)
  | [.agg [.int .i64 r, .int .i64 c, .ro (.ints .i64 xs) ma 1, .ro (.ints .i64 ys) mb 1], .int .i64 n] => some (decide (ma = xs.length ∧ mb = ys.length ∧ ma ≤ 4611686018427387904 ∧ mb ≤ 4611686018427387904) && !lr.sp r c xs ys n, .tup [.nils, .nils, .bool false], [])
  | _ => none
def hd : Nat → Head := fun _ => ⟨[2, 7, 8, 9, 33, 34], some 6⟩
noncomputable def L (f n : Nat) (s : State) := loopAt Try.prog (orc [⟨43, iValidGame.R⟩, ⟨40, within.R⟩]) hd dr 0 f (bodyOf Try.f15) 0 [true, true, true, true, true, false, true] (retK Try.prog [4, 5, 6] 0 (some 0)) n s
theorem start (r c : Int) (xs ys : List Int) (v : Int) (f : Nat) :
  runFn Try.prog (orc [⟨43, iValidGame.R⟩, ⟨40, within.R⟩]) hd dr (some 0) f (bodyOf Try.f15) 57 [4, 5, 6] [.agg [.int .i64 r, .int .i64 c, .ro (.ints .i64 xs) xs.length 1, .ro (.ints .i64 ys) ys.length 1], .int .i64 v] []
  = (bif true && true && (true && true && (true && true && (true && true && true))) then bif decide (xs.length = xs.length ∧ ys.length = ys.length ∧ xs.length ≤ (4611686018427387904 : Nat) ∧ ys.length ≤ (4611686018427387904 : Nat)) && (true && (true && (true && (true && true))) && true || true && true) then bif !gm.sp r c xs ys then some (AVal.tup [AVal.nils, AVal.nils, AVal.bool false], []) else bif true && (true && true || true && true) then bif !(decide ((1 : Int) ≤ v) && decide (v ≤ (1000 : Int))) then some (AVal.tup [AVal.nils, AVal.nils, AVal.bool false], []) else bif true && true then bif true && true then bif (1 : Nat) == (1 : Nat) && (r == r && (decide ((0 : Int) ≤ r) && (decide (r * (8 : Int) ≤ (140737488355328 : Int)) && decide (r ≤ (4611686018427387904 : Int))))) then bif (1 : Nat) == (1 : Nat) && (c == c && (decide ((0 : Int) ≤ c) && (decide (c * (8 : Int) ≤ (140737488355328 : Int)) && decide (c ≤ (4611686018427387904 : Int))))) then bif decide ((0 : Int) < (↑r.toNat : Int)) then bif true && (true && (decide ((0 : Nat) < (List.replicate r.toNat (0 : Int)).length) && true)) then bif decide ((0 : Int) < (↑c.toNat : Int)) then bif true && (true && (decide ((0 : Nat) < (List.replicate c.toNat (0 : Int)).length) && true)) then bif true && true && (true && true && (true && true && (true && true && true))) then none else none else none else none else none else none else none else none else none else none else none else none else none) := by kernel_rfl
theorem run : ∀ args v new, R args = some (true, v, new) → ∃ fuel, runFn Try.prog (orc [⟨43, iValidGame.R⟩, ⟨40, within.R⟩]) hd dr (some 0) fuel (bodyOf Try.f15) 57 [4, 5, 6] args [] = some (v, new) := by
  intro args v new h
  unfold R at h
  split at h
  · rename_i r c xs ma ys mb v
    simp only [Option.some.injEq, Prod.mk.injEq, Bool.and_eq_true, decide_eq_true_eq, Bool.not_eq_true'] at h
    obtain ⟨⟨⟨rfl, rfl, h3, h4⟩, hs⟩, rfl, rfl⟩ := h
    refine ⟨xs.length, ?_⟩
    rw [start]
    simp only [lr.sp] at hs
    cases hg : gm.sp r c xs ys
    · simp -implicitDefEqProofs only [hg, h3, h4, and_self, eq_self, decide_true, decide_false, Bool.and_self, Bool.or_self, Bool.and_true, Bool.true_and, Bool.and_false, Bool.false_and, Bool.or_true, Bool.true_or, Bool.or_false, Bool.false_or, Bool.not_true, Bool.not_false, cond_true, cond_false]
    · rw [hg, Bool.true_and] at hs
      simp -implicitDefEqProofs only [hs, hg, h3, h4, and_self, eq_self, decide_true, decide_false, Bool.and_self, Bool.or_self, Bool.and_true, Bool.true_and, Bool.and_false, Bool.false_and, Bool.or_true, Bool.true_or, Bool.or_false, Bool.false_or, Bool.not_true, Bool.not_false, cond_true, cond_false]
  · cases h
theorem ok : EntOk Try.prog ⟨15, R⟩ :=
  ent_okA mixed (A := (orc [⟨43, iValidGame.R⟩, ⟨40, within.R⟩])) (orc_ok (by simp only [List.mem_cons, List.not_mem_nil, or_false, forall_eq_or_imp, forall_eq]; exact ⟨iValidGame.ok, within.ok⟩)) Try.func15 (by kernel_rfl) (by kernel_rfl) (n := 57) (ts := [4, 5, 6]) (hd := hd) (dr := dr) (cut := (some 0)) (by kernel_rfl) (by kernel_rfl) (by kernel_rfl) run
end iLearnRows_f

namespace iLearnRows
def Rt := iLearnRows_t.R
def Rf := iLearnRows_f.R
theorem okt : EntOk Try.prog ⟨15, Rt⟩ := iLearnRows_t.ok
theorem okf : EntOk Try.prog ⟨15, Rf⟩ := iLearnRows_f.ok
end iLearnRows




theorem lr.rows_small {r c : Int} {xs ys : List Int} {n : Int} (h : lr.sp r c xs ys n = true) : (lr.rows.sv r.toNat c.toNat xs ys n.toNat).length ≤ 1000000 := by
  obtain ⟨r, c, rfl, rfl, hr, hc, _⟩ := gm.valid (lr.sp_valid h)
  rw [lr.rows_length, Int.toNat_natCast]; omega
theorem lr.cols_small {r c : Int} {xs ys : List Int} {n : Int} (h : lr.sp r c xs ys n = true) : (lr.cols.sv r.toNat c.toNat xs ys n.toNat).length ≤ 1000000 := by
  obtain ⟨r, c, rfl, rfl, hr, hc, _⟩ := gm.valid (lr.sp_valid h)
  rw [lr.cols_length, Int.toNat_natCast]; omega




end Go.Proofs.Ytgblgofmdhekiaa.Ab
