/-
  Functions: lines, who begins when.
-/
import Derived.Test.YtadpndpbooofiaaFnXA
namespace Go.Proofs.Ytadpndpbooofiaa.Ab
open Go
set_option linter.unusedVariables false
set_option linter.unusedSimpArgs false
set_option maxRecDepth 100000

namespace iLine
def R : List AVal → Option (Bool × AVal × List Blk)
  | [.ro (.ints .i64 xs) m 1, .ro (.ints .i64 ys) k 1, .int .i64 d] => some (decide (m ≤ xs.length ∧ m ≤ 4611686018427387904 ∧ k ≤ ys.length ∧ k ≤ 4611686018427387904) && ln.sp (xs.take m) (ys.take k) d, .own 0 0 (ln.sv (xs.take m) (ys.take k) d).length 0 1, [⟨.typ (.ints .i64 (ln.sv (xs.take m) (ys.take k) d)), 0⟩])
  | _ => none
def hd : Nat → Head := fun _ => ⟨[1, 7, 8, 16, 17, 18], some 2⟩
noncomputable def L (f n : Nat) (s : State) := loopAt Try.prog (orc [⟨53, slMin.R⟩, ⟨52, slIndex.R⟩]) hd Dr.std 0 f (bodyOf Try.f43) 0 [true, true, true, false, true] (retK Try.prog [6] 0 none) n s
theorem start (xs ys : List Int) (m k : Nat) (d : Int) (f : Nat) :
  runFn Try.prog (orc [⟨53, slMin.R⟩, ⟨52, slIndex.R⟩]) hd Dr.std none f (bodyOf Try.f43) 48 [6] [.ro (.ints .i64 xs) m 1, .ro (.ints .i64 ys) k 1, .int .i64 d] []
  = (bif (1 : Nat) == (1 : Nat) && (d == d && (decide ((0 : Int) ≤ d) && (decide (d * (8 : Int) ≤ (140737488355328 : Int)) && decide (d ≤ (4611686018427387904 : Int))))) then L f f (mkS (48 : Nat) [((1 : Nat), AVal.ro (Cont.ints IntKind.i64 ys) k (1 : Nat)), ((7 : Nat), AVal.own (0 : Nat) (0 : Nat) d.toNat (0 : Nat) (1 : Nat)), ((8 : Nat), AVal.own (1 : Nat) (0 : Nat) (0 : Nat) (0 : Nat) (1 : Nat)), ((16 : Nat), AVal.ro (Cont.ints IntKind.i64 xs) m (1 : Nat)), ((17 : Nat), AVal.int IntKind.i64 (↑m : Int)), ((18 : Nat), AVal.int IntKind.i64 (0 : Int))] [{ c := BC.typ (Cont.ints IntKind.i64 (List.replicate d.toNat (0 : Int))), ver := (0 : Nat) }, { c := BC.typ (Cont.ints IntKind.i64 (List.replicate (0 : Nat) (0 : Int))), ver := (0 : Nat) }]) else none) := by kernel_rfl
theorem round (xs ys : List Int) (m k q : Nat) (fs os : List Int) (i f n : Nat) :
  L f (n + 1) (mkS 48 [(1, .ro (.ints .i64 ys) k 1), (7, .own 0 0 q 0 1), (8, .own 1 0 i 0 1), (16, .ro (.ints .i64 xs) m 1), (17, .int .i64 m), (18, .int .i64 i)] [⟨.typ (.ints .i64 fs), 0⟩, ⟨.typ (.ints .i64 os), 0⟩])
  = (bif decide ((↑i : Int) < (↑m : Int)) then bif true && (decide ((0 : Int) ≤ (↑i : Int)) && decide ((↑i : Int) < (↑m : Int))) then bif decide ((↑i : Int).toNat < xs.length) then bif decide ((0 : Nat) < q ∧ q ≤ fs.length ∧ q ≤ (4611686018427387904 : Nat)) && (false && true || true && true) then bif decide (q ≤ fs.length ∧ q ≤ (4611686018427387904 : Nat)) && (false && (true && true) || true && true) then bif true && (decide ((0 : Int) ≤ fidx.sq (fun y => ln.low.sv (List.take q fs) == y) (List.take q fs) (0 : Nat)) && decide (fidx.sq (fun y => ln.low.sv (List.take q fs) == y) (List.take q fs) (0 : Nat) < (↑q : Int))) then bif true && decide ((fidx.sq (fun y => ln.low.sv (List.take q fs) == y) (List.take q fs) (0 : Nat)).toNat < fs.length) then bif (1 : Nat) == (1 : Nat) && (1 : Nat) == (1 : Nat) && (true && (true && true) && (true && true && (decide (i + (List.take (1 : Nat) (List.drop (0 : Nat) ((List.replicate (1 : Nat) (0 : Int)).set (0 : Nat) (if gz xs (↑i : Int).toNat < gz fs (fidx.sq (fun y => ln.low.sv (List.take q fs) == y) (List.take q fs) (0 : Nat)).toNat then gz fs (fidx.sq (fun y => ln.low.sv (List.take q fs) == y) (List.take q fs) (0 : Nat)).toNat else gz xs (↑i : Int).toNat)))).length ≤ (4611686018427387904 : Nat)) && decide ((i + (List.take (1 : Nat) (List.drop (0 : Nat) ((List.replicate (1 : Nat) (0 : Int)).set (0 : Nat) (if gz xs (↑i : Int).toNat < gz fs (fidx.sq (fun y => ln.low.sv (List.take q fs) == y) (List.take q fs) (0 : Nat)).toNat then gz fs (fidx.sq (fun y => ln.low.sv (List.take q fs) == y) (List.take q fs) (0 : Nat)).toNat else gz xs (↑i : Int).toNat)))).length) * (8 : Nat) ≤ (140737488355328 : Nat))))) then bif true && (decide ((0 : Int) ≤ (↑i : Int)) && decide ((↑i : Int) < (↑k : Int))) then bif decide ((↑i : Int).toNat < ys.length) then bif true && (decide ((0 : Int) ≤ fidx.sq (fun y => ln.low.sv (List.take q fs) == y) (List.take q fs) (0 : Nat)) && decide (fidx.sq (fun y => ln.low.sv (List.take q fs) == y) (List.take q fs) (0 : Nat) < (↑q : Int))) then bif true && (true && (decide ((fidx.sq (fun y => ln.low.sv (List.take q fs) == y) (List.take q fs) (0 : Nat)).toNat < fs.length) && true)) then L f n (mkS (48 : Nat) [((1 : Nat), AVal.ro (Cont.ints IntKind.i64 ys) k (1 : Nat)), ((7 : Nat), AVal.own (0 : Nat) (0 : Nat) q (0 : Nat) (1 : Nat)), ((8 : Nat), AVal.own (1 : Nat) (0 : Nat) (i + (List.take (1 : Nat) (List.drop (0 : Nat) ((List.replicate (1 : Nat) (0 : Int)).set (0 : Nat) (if gz xs (↑i : Int).toNat < gz fs (fidx.sq (fun y => ln.low.sv (List.take q fs) == y) (List.take q fs) (0 : Nat)).toNat then gz fs (fidx.sq (fun y => ln.low.sv (List.take q fs) == y) (List.take q fs) (0 : Nat)).toNat else gz xs (↑i : Int).toNat)))).length) (0 : Nat) (1 : Nat)), ((16 : Nat), AVal.ro (Cont.ints IntKind.i64 xs) m (1 : Nat)), ((17 : Nat), AVal.int IntKind.i64 (↑m : Int)), ((18 : Nat), AVal.int IntKind.i64 (IntKind.i64.wrap ((↑i : Int) + (1 : Int))))] [{ c := BC.typ (Cont.ints IntKind.i64 (fs.set (fidx.sq (fun y => ln.low.sv (List.take q fs) == y) (List.take q fs) (0 : Nat)).toNat (IntKind.i64.wrap ((if gz xs (↑i : Int).toNat < gz fs (fidx.sq (fun y => ln.low.sv (List.take q fs) == y) (List.take q fs) (0 : Nat)).toNat then gz fs (fidx.sq (fun y => ln.low.sv (List.take q fs) == y) (List.take q fs) (0 : Nat)).toNat else gz xs (↑i : Int).toNat) + gz ys (↑i : Int).toNat)))), ver := (0 : Nat) }, { c := BC.typ (Cont.ints IntKind.i64 (List.take i os ++ List.take (1 : Nat) (List.drop (0 : Nat) ((List.replicate (1 : Nat) (0 : Int)).set (0 : Nat) (if gz xs (↑i : Int).toNat < gz fs (fidx.sq (fun y => ln.low.sv (List.take q fs) == y) (List.take q fs) (0 : Nat)).toNat then gz fs (fidx.sq (fun y => ln.low.sv (List.take q fs) == y) (List.take q fs) (0 : Nat)).toNat else gz xs (↑i : Int).toNat))))), ver := (0 : Nat) }]) else none else none else none else none else none else none else none else none else none else none else none else some (AVal.own (1 : Nat) (0 : Nat) i (0 : Nat) (1 : Nat), [{ c := BC.typ (Cont.ints IntKind.i64 fs), ver := (0 : Nat) }, { c := BC.typ (Cont.ints IntKind.i64 os), ver := (0 : Nat) }])) := by kernel_rfl
theorem loop (xs ys : List Int) (m k q : Nat) (res : List Int) (f : Nat) (hx : m ≤ xs.length) (hy : k ≤ ys.length) (hk : k = m) (hb : m ≤ 64) (hq : 0 < q) (hq8 : q ≤ 8) : ∀ (d i n : Nat) (fs os : List Int), i + d = m → d < n → fs.length = q → os.length = i → os ++ ln.go fs ((xs.take m).drop i) ((ys.take k).drop i) = res →
    ∃ fs', L f n (mkS 48 [(1, .ro (.ints .i64 ys) k 1), (7, .own 0 0 q 0 1), (8, .own 1 0 i 0 1), (16, .ro (.ints .i64 xs) m 1), (17, .int .i64 m), (18, .int .i64 i)] [⟨.typ (.ints .i64 fs), 0⟩, ⟨.typ (.ints .i64 os), 0⟩]) = some (.own 1 0 m 0 1, [⟨.typ (.ints .i64 fs'), 0⟩, ⟨.typ (.ints .i64 res), 0⟩]) := by
  intro d
  induction d with
  | zero =>
    intro i n fs os hi hn hf ho hres
    obtain ⟨n, rfl⟩ : ∃ k, n = k + 1 := ⟨n - 1, by omega⟩
    obtain rfl : i = m := by omega
    rw [round]
    have e : (xs.take i).drop i = [] := by simp
    rw [e] at hres
    simp only [ln.go, List.append_nil] at hres
    subst hres
    refine ⟨fs, ?_⟩
    simp only [Int.lt_irrefl, decide_false, cond_false]
  | succ d ih =>
    intro i n fs os hi hn hf ho hres
    obtain ⟨n, rfl⟩ : ∃ k, n = k + 1 := ⟨n - 1, by omega⟩
    have h1 : i < m := by omega
    have h2 : i < xs.length := by omega
    have h3 : i < ys.length := by omega
    have h4 : (0 : Int) ≤ (i : Int) := Int.natCast_nonneg _
    have h5 : (i : Int) < (m : Int) := by omega
    have hix := ln.ix_lt (l := fs) (by omega)
    have hcx : ((xs.take m).drop i) = xs[i] :: (xs.take m).drop (i + 1) := drop_take_cons hx h1
    have hcy : ((ys.take k).drop i) = ys[i] :: (ys.take k).drop (i + 1) := drop_take_cons hy (by omega)
    rw [hcx, hcy] at hres
    simp only [ln.go] at hres
    have q0 : (0 : Int) ≤ (ln.ix.sv fs : Int) := Int.natCast_nonneg _
    have q1 : (ln.ix.sv fs : Int) < (q : Int) := by omega
    have k1 : (i : Int) < (k : Int) := by omega
    have htf : fs.take q = fs := List.take_of_length_le (by omega)
    have hto : os.take i = os := List.take_of_length_le (by omega)
    have k0 : i + 1 ≤ 4611686018427387904 := by omega
    have k2 : (i + 1) * 8 ≤ 140737488355328 := by omega
    have q2 : 0 < q ∧ q ≤ fs.length ∧ q ≤ 4611686018427387904 := ⟨by omega, by omega, by omega⟩
    have q3 : q ≤ fs.length ∧ q ≤ 4611686018427387904 := q2.2
    obtain ⟨fs', hih⟩ := ih (i + 1) n (ln.nx.sw fs xs[i] ys[i]) (os ++ [ln.beg.sv fs xs[i]]) (by omega) (by omega) (by rw [ln.nx_length]; exact hf) (by simp; omega) (by simpa using hres)
    refine ⟨fs', ?_⟩
    rw [round]
    simp only [htf, hto, ln.ix_eq (l := fs) (by omega), Int.toNat_natCast, gz_eq h2, gz_eq h3, h2, h3, h4, h5, q0, q1, q2, q3, hix, k0, k1, k2, one_set, List.length_singleton, and_self, decide_true, Bool.and_self, Bool.or_self, Bool.and_true, Bool.true_and, Bool.or_true, cond_true, Nat.reduceBEq, wrap_nat i (by omega)]
    exact hih
theorem run : ∀ args v new, R args = some (true, v, new) → ∃ fuel, regc [1] (runFn Try.prog (orc [⟨53, slMin.R⟩, ⟨52, slIndex.R⟩]) hd Dr.std none fuel (bodyOf Try.f43) 48 [6] args []) = some (v, new) := by
  intro args v new h
  unfold R at h
  split at h
  · rename_i xs m ys k d
    simp only [Option.some.injEq, Prod.mk.injEq, Bool.and_eq_true, decide_eq_true_eq, Bool.not_eq_true'] at h
    obtain ⟨⟨⟨h1, h2, h3, h4⟩, hv⟩, rfl, rfl⟩ := h
    have e1 : (xs.take m).length = m := by simp; omega
    have e2 : (ys.take k).length = k := by simp; omega
    obtain ⟨v1, v2, v3, v4⟩ := ln.valid hv
    rw [e1] at v1 v2
    rw [e2] at v2
    obtain ⟨q, rfl⟩ : ∃ q : Nat, d = q := ⟨d.toNat, by omega⟩
    obtain ⟨F, hF⟩ : ∃ F : Nat, F = 100 := ⟨100, rfl⟩
    refine ⟨F, ?_⟩
    rw [start]
    obtain ⟨fs', hl⟩ := loop xs ys m k q (ln.sv (xs.take m) (ys.take k) (q : Int)) F h1 h3 v2 v1 (by omega) (by omega) m 0 F (List.replicate q 0) [] (by omega) (by omega) (by simp) rfl rfl
    have c1 : (0 : Int) ≤ (q : Int) := Int.natCast_nonneg _
    have c2 : (q : Int) * 8 ≤ 140737488355328 := by omega
    have c3 : (q : Int) ≤ 4611686018427387904 := by omega
    have hlen : (ln.sv (xs.take m) (ys.take k) (q : Int)).length = m := by unfold ln.sv; rw [ln.go_length _ _ _ (by omega), e1]
    rw [hlen]
    simp only [c1, c2, c3, Int.toNat_natCast, beq_self_eq_true, decide_true, Bool.and_self, Bool.and_true, cond_true, Nat.reduceBEq]
    exact (congrArg (regc [1]) hl).trans rfl
  · cases h
theorem ok : EntOk Try.prog ⟨43, R⟩ :=
  ent_okAG (ks := [1]) mixed (A := (orc [⟨53, slMin.R⟩, ⟨52, slIndex.R⟩])) (orc_ok (by simp only [List.mem_cons, List.not_mem_nil, or_false, forall_eq_or_imp, forall_eq]; exact ⟨slMin.ok, slIndex.ok⟩)) Try.func43 (by kernel_rfl) (by kernel_rfl) (n := 48) (ts := [6]) (hd := hd) (dr := Dr.std) (cut := none) (by kernel_rfl) (by kernel_rfl) (by kernel_rfl) run
end iLine


end Go.Proofs.Ytadpndpbooofiaa.Ab
