/-
  Functions: the shortest first.
-/
import Derived.Test.YtadpndpbooofiaaFnTF
import Derived.Test.YtadpndpbooofiaaFnXA
import Derived.Test.YtadpndpbooofiaaFnZA
namespace Go.Proofs.Ytadpndpbooofiaa.Ab
open Go
set_option linter.unusedVariables false
set_option linter.unusedSimpArgs false
set_option maxRecDepth 100000

namespace sf
def sp (xs : List Int) : Bool := xs.all ln.tm.sp && decide (xs.length ≤ 64)
/-- What all wait for together. -/
def sum.sv (xs : List Int) : List Int → Int → Int → Int
  | [], s, _ => s
  | o :: os, s, a => sum.sv xs os (IntKind.i64.wrap (s + a)) (IntKind.i64.wrap (a + gz xs o.toNat))
def O.sv (xs : List Int) : List Int := ss.ms.sv xs (cq.sv xs.length)
def S.sv (xs : List Int) : Int := sum.sv xs (O.sv xs) 0 0
theorem cq_mem {n : Nat} {x : Int} (h : x ∈ cq.sv n) : 0 ≤ x ∧ x < (n : Int) := by
  simp only [cq.sv, List.mem_map, List.mem_range] at h
  obtain ⟨i, hi, rfl⟩ := h
  omega
theorem cq_inr {n k : Nat} (h : n ≤ k) : ss.inr k (cq.sv n) := fun x hx => by
  have := cq_mem hx
  omega
theorem cq_asc (n : Nat) : ss.asc (cq.sv n) := by
  unfold ss.asc cq.sv
  refine List.pairwise_map.2 (List.Pairwise.imp ?_ List.pairwise_lt_range)
  intro a b h
  omega
theorem O_length (xs : List Int) : (O.sv xs).length = xs.length := by
  unfold O.sv
  rw [ss.ms_length, cq.sv_length]
theorem O_inr (xs : List Int) : ss.inr xs.length (O.sv xs) := ss.inr_perm (cq_inr (Nat.le_refl _)) (ss.ms_perm xs _)
theorem step (xs : List Int) (i : Nat) : ss.dn.sv xs 0 i (ss.ms.sv xs (cq.sv i) ++ [(i : Int)]) = ss.ms.sv xs (cq.sv (i + 1)) := by
  have h := ss.dn_app xs [] (i : Int) i (ss.ms.sv xs (cq.sv i)) [] (by rw [ss.ms_length, cq.sv_length]) (ss.ms_sorted _ _) (fun x hx y hy _ => by
    obtain rfl := List.mem_singleton.1 hy
    have := cq_mem (ss.mem_ms.1 hx)
    omega)
  simp only [List.length_nil, List.nil_append, List.append_nil] at h
  rw [h, cq.sv_succ]
  exact ss.ms_congr (List.Perm.append_right _ (ss.ms_perm _ _))
theorem many (xs : List Int) : ((decide ((0 : Int) ≤ (xs.length : Int)) && decide ((xs.length : Int) ≤ 64)) && xs.all fun x => decide (0 ≤ x) && decide (x ≤ 1000000)) = sp xs := by
  have e1 : decide ((0 : Int) ≤ (xs.length : Int)) = true := decide_eq_true (Int.natCast_nonneg _)
  have e2 : decide ((xs.length : Int) ≤ 64) = decide (xs.length ≤ 64) := by congr 1; apply propext; omega
  have e3 : (xs.all fun x => decide (0 ≤ x) && decide (x ≤ 1000000)) = xs.all ln.tm.sp := rfl
  rw [e1, e2, e3, Bool.true_and, Bool.and_comm]
  rfl
end sf

namespace sShortestFirst_t
def R : List AVal → Option (Bool × AVal × List Blk)
  | [.ro (.ints .i64 xs) m 1] => some (decide (m = xs.length ∧ m ≤ 4611686018427387904) && sf.sp xs, .tup [.own 0 0 (sf.O.sv xs).length 0 1, .int .i64 (sf.S.sv xs), .bool true], [⟨.typ (.ints .i64 (sf.O.sv xs)), 0⟩])
  | _ => none
def hd : Nat → Head := fun i => bif eqN i 2 then ⟨[0, 5, 6, 7], some 1⟩ else bif eqN i 4 then ⟨[0, 5, 9, 10, 11], some 1⟩ else ⟨[0, 5, 6], some 1⟩
noncomputable def L1 (f n : Nat) (s : State) := loopAt Try.prog (orc [⟨35, l06Times.R⟩]) hd Dr.std 0 f (bodyOf Try.f16) 0 [true, true, true, false, true] (retK Try.prog [2, 3, 4] 0 none) n s
noncomputable def L2 (f n n2 : Nat) (s : State) := loopAt Try.prog (orc [⟨35, l06Times.R⟩]) hd Dr.std 0 f (bodyAt (bodyOf Try.f16) [true, true, true, false, true]) (curAt (bodyOf Try.f16) 0 [true, true, true, false, true]) [true, false, true, true] (iterK (normE 0 (hd (curAt (bodyOf Try.f16) 0 [true, true, true, false, true]))) (L1 f n) (contAt Try.prog (orc [⟨35, l06Times.R⟩]) hd Dr.std 0 f (bodyOf Try.f16) 0 [true, true, true, false, true] (retK Try.prog [2, 3, 4] 0 none))) n2 s
noncomputable def L4 (f n : Nat) (s : State) := loopAt Try.prog (orc [⟨35, l06Times.R⟩]) hd Dr.std 0 f (bodyOf Try.f16) 0 [true, true, true, true, true, true, false, true] (retK Try.prog [2, 3, 4] 0 none) n s
theorem start (xs : List Int) (f : Nat) :
  runFn Try.prog (orc [⟨35, l06Times.R⟩]) hd Dr.std none f (bodyOf Try.f16) 86 [2, 3, 4] [.ro (.ints .i64 xs) xs.length 1] []
  = (bif decide (xs.length ≤ xs.length ∧ xs.length ≤ (4611686018427387904 : Nat)) && (true && true || true && true) then bif !((List.take xs.length xs).all ln.tm.sp && decide (xs.length ≤ (64 : Nat))) then some (AVal.tup [AVal.nils, AVal.int IntKind.i64 (0 : Int), AVal.bool false], []) else L1 f f (mkS (86 : Nat) [((0 : Nat), AVal.ro (Cont.ints IntKind.i64 xs) xs.length (1 : Nat)), ((5 : Nat), AVal.own (0 : Nat) (0 : Nat) (0 : Nat) (0 : Nat) (1 : Nat)), ((6 : Nat), AVal.int IntKind.i64 (0 : Int))] [{ c := BC.typ (Cont.ints IntKind.i64 (List.replicate (0 : Nat) (0 : Int))), ver := (0 : Nat) }]) else none) := by kernel_rfl
theorem round1 (xs os : List Int) (q i f n : Nat) :
  L1 f (n + 1) (mkS 86 [(0, .ro (.ints .i64 xs) xs.length 1), (5, .own 0 0 q 0 1), (6, .int .i64 (i : Int))] [⟨.typ (.ints .i64 os), 0⟩])
  = (bif decide ((↑i : Int) < (↑xs.length : Int)) then bif (1 : Nat) == (1 : Nat) && (1 : Nat) == (1 : Nat) && (true && (true && true) && (true && true && (decide (q + (List.take (1 : Nat) (List.drop (0 : Nat) ((List.replicate (1 : Nat) (0 : Int)).set (0 : Nat) (↑i : Int)))).length ≤ (4611686018427387904 : Nat)) && decide ((q + (List.take (1 : Nat) (List.drop (0 : Nat) ((List.replicate (1 : Nat) (0 : Int)).set (0 : Nat) (↑i : Int)))).length) * (8 : Nat) ≤ (140737488355328 : Nat))))) then L2 f n f (mkS (86 : Nat) [((0 : Nat), AVal.ro (Cont.ints IntKind.i64 xs) xs.length (1 : Nat)), ((5 : Nat), AVal.own (0 : Nat) (0 : Nat) (q + (List.take (1 : Nat) (List.drop (0 : Nat) ((List.replicate (1 : Nat) (0 : Int)).set (0 : Nat) (↑i : Int)))).length) (0 : Nat) (1 : Nat)), ((6 : Nat), AVal.int IntKind.i64 (↑i : Int)), ((7 : Nat), AVal.int IntKind.i64 (↑i : Int))] [{ c := BC.typ (Cont.ints IntKind.i64 (List.take q os ++ List.take (1 : Nat) (List.drop (0 : Nat) ((List.replicate (1 : Nat) (0 : Int)).set (0 : Nat) (↑i : Int))))), ver := (0 : Nat) }]) else none else L4 f f (mkS (86 : Nat) [((0 : Nat), AVal.ro (Cont.ints IntKind.i64 xs) xs.length (1 : Nat)), ((5 : Nat), AVal.own (0 : Nat) (0 : Nat) q (0 : Nat) (1 : Nat)), ((9 : Nat), AVal.int IntKind.i64 (0 : Int)), ((10 : Nat), AVal.int IntKind.i64 (0 : Int)), ((11 : Nat), AVal.int IntKind.i64 (0 : Int))] [{ c := BC.typ (Cont.ints IntKind.i64 os), ver := (0 : Nat) }])) := by kernel_rfl
theorem round2 (xs os : List Int) (q i j f n n2 : Nat) :
  L2 f n (n2 + 1) (mkS 86 [(0, .ro (.ints .i64 xs) xs.length 1), (5, .own 0 0 q 0 1), (6, .int .i64 (i : Int)), (7, .int .i64 (j : Int))] [⟨.typ (.ints .i64 os), 0⟩])
  = (bif decide ((0 : Int) < (↑j : Int)) then bif true && (decide ((0 : Int) ≤ (↑j : Int)) && decide ((↑j : Int) < (↑q : Int))) then bif true && decide ((↑j : Int).toNat < os.length) then bif true && (decide ((0 : Int) ≤ gz os (↑j : Int).toNat) && decide (gz os (↑j : Int).toNat < (↑xs.length : Int))) then bif decide ((gz os (↑j : Int).toNat).toNat < xs.length) then bif true && (decide ((0 : Int) ≤ IntKind.i64.wrap ((↑j : Int) - (1 : Int))) && decide (IntKind.i64.wrap ((↑j : Int) - (1 : Int)) < (↑q : Int))) then bif true && decide ((IntKind.i64.wrap ((↑j : Int) - (1 : Int))).toNat < os.length) then bif true && (decide ((0 : Int) ≤ gz os (IntKind.i64.wrap ((↑j : Int) - (1 : Int))).toNat) && decide (gz os (IntKind.i64.wrap ((↑j : Int) - (1 : Int))).toNat < (↑xs.length : Int))) then bif decide ((gz os (IntKind.i64.wrap ((↑j : Int) - (1 : Int))).toNat).toNat < xs.length) then bif decide (gz xs (gz os (↑j : Int).toNat).toNat < gz xs (gz os (IntKind.i64.wrap ((↑j : Int) - (1 : Int))).toNat).toNat) then bif true && (decide ((0 : Int) ≤ (↑j : Int)) && decide ((↑j : Int) < (↑q : Int))) then bif true && decide ((↑j : Int).toNat < os.length) then bif true && (decide ((0 : Int) ≤ IntKind.i64.wrap ((↑j : Int) - (1 : Int))) && decide (IntKind.i64.wrap ((↑j : Int) - (1 : Int)) < (↑q : Int))) then bif true && decide ((IntKind.i64.wrap ((↑j : Int) - (1 : Int))).toNat < os.length) then bif true && (decide ((0 : Int) ≤ (↑j : Int)) && decide ((↑j : Int) < (↑q : Int))) then bif true && (true && (decide ((↑j : Int).toNat < os.length) && true)) then bif true && (decide ((0 : Int) ≤ IntKind.i64.wrap ((↑j : Int) - (1 : Int))) && decide (IntKind.i64.wrap ((↑j : Int) - (1 : Int)) < (↑q : Int))) then bif true && (true && (decide ((IntKind.i64.wrap ((↑j : Int) - (1 : Int))).toNat < (os.set (↑j : Int).toNat (gz os (IntKind.i64.wrap ((↑j : Int) - (1 : Int))).toNat)).length) && true)) then L2 f n n2 (mkS (86 : Nat) [((0 : Nat), AVal.ro (Cont.ints IntKind.i64 xs) xs.length (1 : Nat)), ((5 : Nat), AVal.own (0 : Nat) (0 : Nat) q (0 : Nat) (1 : Nat)), ((6 : Nat), AVal.int IntKind.i64 (↑i : Int)), ((7 : Nat), AVal.int IntKind.i64 (IntKind.i64.wrap ((↑j : Int) - (1 : Int))))] [{ c := BC.typ (Cont.ints IntKind.i64 ((os.set (↑j : Int).toNat (gz os (IntKind.i64.wrap ((↑j : Int) - (1 : Int))).toNat)).set (IntKind.i64.wrap ((↑j : Int) - (1 : Int))).toNat (gz os (↑j : Int).toNat))), ver := (0 : Nat) }]) else none else none else none else none else none else none else none else none else L1 f n (mkS (86 : Nat) [((0 : Nat), AVal.ro (Cont.ints IntKind.i64 xs) xs.length (1 : Nat)), ((5 : Nat), AVal.own (0 : Nat) (0 : Nat) q (0 : Nat) (1 : Nat)), ((6 : Nat), AVal.int IntKind.i64 (IntKind.i64.wrap ((↑i : Int) + (1 : Int))))] [{ c := BC.typ (Cont.ints IntKind.i64 os), ver := (0 : Nat) }]) else none else none else none else none else none else none else none else none else L1 f n (mkS (86 : Nat) [((0 : Nat), AVal.ro (Cont.ints IntKind.i64 xs) xs.length (1 : Nat)), ((5 : Nat), AVal.own (0 : Nat) (0 : Nat) q (0 : Nat) (1 : Nat)), ((6 : Nat), AVal.int IntKind.i64 (IntKind.i64.wrap ((↑i : Int) + (1 : Int))))] [{ c := BC.typ (Cont.ints IntKind.i64 os), ver := (0 : Nat) }])) := by kernel_rfl
theorem round4 (xs os : List Int) (q i : Nat) (s a : Int) (f n : Nat) :
  L4 f (n + 1) (mkS 86 [(0, .ro (.ints .i64 xs) xs.length 1), (5, .own 0 0 q 0 1), (9, .int .i64 s), (10, .int .i64 a), (11, .int .i64 (i : Int))] [⟨.typ (.ints .i64 os), 0⟩])
  = (bif decide ((↑i : Int) < (↑q : Int)) then bif true && (decide ((0 : Int) ≤ (↑i : Int)) && decide ((↑i : Int) < (↑q : Int))) then bif true && decide ((↑i : Int).toNat < os.length) then bif true && (decide ((0 : Int) ≤ gz os (↑i : Int).toNat) && decide (gz os (↑i : Int).toNat < (↑xs.length : Int))) then bif decide ((gz os (↑i : Int).toNat).toNat < xs.length) then L4 f n (mkS (86 : Nat) [((0 : Nat), AVal.ro (Cont.ints IntKind.i64 xs) xs.length (1 : Nat)), ((5 : Nat), AVal.own (0 : Nat) (0 : Nat) q (0 : Nat) (1 : Nat)), ((9 : Nat), AVal.int IntKind.i64 (IntKind.i64.wrap (s + a))), ((10 : Nat), AVal.int IntKind.i64 (IntKind.i64.wrap (a + gz xs (gz os (↑i : Int).toNat).toNat))), ((11 : Nat), AVal.int IntKind.i64 (IntKind.i64.wrap ((↑i : Int) + (1 : Int))))] [{ c := BC.typ (Cont.ints IntKind.i64 os), ver := (0 : Nat) }]) else none else none else none else none else some (AVal.tup [AVal.own (0 : Nat) (0 : Nat) q (0 : Nat) (1 : Nat), AVal.int IntKind.i64 s, AVal.bool true], [{ c := BC.typ (Cont.ints IntKind.i64 os), ver := (0 : Nat) }])) := by kernel_rfl
theorem inner (xs : List Int) (f n q i : Nat) (hi : i < 64) (hq : q ≤ 64) : ∀ (d n2 : Nat) (os : List Int), d < n2 → d < q → os.length = q → ss.inr xs.length os →
    L2 f n n2 (mkS 86 [(0, .ro (.ints .i64 xs) xs.length 1), (5, .own 0 0 q 0 1), (6, .int .i64 (i : Int)), (7, .int .i64 ((d : Nat) : Int))] [⟨.typ (.ints .i64 os), 0⟩]) = L1 f n (mkS 86 [(0, .ro (.ints .i64 xs) xs.length 1), (5, .own 0 0 q 0 1), (6, .int .i64 ((i + 1 : Nat) : Int))] [⟨.typ (.ints .i64 (ss.dn.sv xs 0 d os)), 0⟩]) := by
  have wi : IntKind.i64.wrap ((i : Int) + 1) = ((i + 1 : Nat) : Int) := wrap_nat i (by omega)
  intro d
  induction d with
  | zero =>
    intro n2 os hn hd hl hin
    obtain ⟨n2, rfl⟩ : ∃ k, n2 = k + 1 := ⟨n2 - 1, by omega⟩
    have z : ¬ (0 < ((0 : Nat) : Int)) := by omega
    rw [round2]
    simp -implicitDefEqProofs only [z, wi, ss.dn.sv, decide_true, decide_false, Bool.and_self, Bool.or_self, Bool.and_true, Bool.true_and, Bool.and_false, Bool.false_and, Bool.or_true, Bool.true_or, Bool.or_false, Bool.false_or, Bool.not_true, Bool.not_false, cond_true, cond_false]
  | succ d ih =>
    intro n2 os hn hd hl hin
    obtain ⟨n2, rfl⟩ : ∃ k, n2 = k + 1 := ⟨n2 - 1, by omega⟩
    have z : 0 < ((d + 1 : Nat) : Int) := by omega
    have wj : IntKind.i64.wrap (((d + 1 : Nat) : Int) - 1) = (d : Int) := by rw [IntWalk.i64_in _ (by omega)]; omega
    have g1 : (0 : Int) ≤ ((d + 1 : Nat) : Int) := by omega
    have g2 : ((d + 1 : Nat) : Int) < (q : Int) := by omega
    have g3 : (0 : Int) ≤ (d : Int) := by omega
    have g4 : (d : Int) < (q : Int) := by omega
    have g5 : d < os.length := by omega
    have g6 : d + 1 < os.length := by omega
    obtain ⟨a1, a2⟩ := ss.inr_gz hin g6
    obtain ⟨b1, b2⟩ := ss.inr_gz hin g5
    have a3 : (gz os (d + 1)).toNat < xs.length := by omega
    have b3 : (gz os d).toNat < xs.length := by omega
    have el : decide (gz xs (gz os (d + 1)).toNat < gz xs (gz os d).toNat) = ss.lt.sp xs (gz os (d + 1)) (gz os d) := rfl
    have hih := ih n2 ((os.set (d + 1) (gz os d)).set d (gz os (d + 1))) (by omega) (by omega) (by simp; exact hl) (ss.inr_set (ss.inr_set hin ⟨b1, b2⟩ _) ⟨a1, a2⟩ _)
    rw [round2]
    simp only [ss.dn.sv, Nat.zero_add]
    simp -implicitDefEqProofs only [z, wi, wj, g1, g2, g3, g4, g5, g6, a1, a2, a3, b1, b2, b3, el, Int.toNat_natCast, List.length_set, and_self, eq_self, decide_true, decide_false, Bool.and_self, Bool.or_self, Bool.and_true, Bool.true_and, Bool.and_false, Bool.false_and, Bool.or_true, Bool.true_or, Bool.or_false, Bool.false_or, Bool.not_true, Bool.not_false, cond_true, cond_false]
    cases hc : ss.lt.sp xs (gz os (d + 1)) (gz os d)
    · simp -implicitDefEqProofs only [cond_false]
    · simp -implicitDefEqProofs only [cond_true]
      exact hih
theorem outer (xs : List Int) (f : Nat) (hx : xs.length ≤ 64) (hf : xs.length < f) : ∀ (d i n : Nat), i + d = xs.length → d < n →
    L1 f n (mkS 86 [(0, .ro (.ints .i64 xs) xs.length 1), (5, .own 0 0 i 0 1), (6, .int .i64 (i : Int))] [⟨.typ (.ints .i64 (ss.ms.sv xs (cq.sv i))), 0⟩]) = L4 f f (mkS 86 [(0, .ro (.ints .i64 xs) xs.length 1), (5, .own 0 0 xs.length 0 1), (9, .int .i64 0), (10, .int .i64 0), (11, .int .i64 ((0 : Nat) : Int))] [⟨.typ (.ints .i64 (sf.O.sv xs)), 0⟩]) := by
  intro d
  induction d with
  | zero =>
    intro i n hi hn
    obtain ⟨n, rfl⟩ : ∃ k, n = k + 1 := ⟨n - 1, by omega⟩
    obtain rfl : i = xs.length := by omega
    rw [round1]
    simp -implicitDefEqProofs only [Int.lt_irrefl, sf.O.sv, decide_true, decide_false, Bool.and_self, Bool.or_self, Bool.and_true, Bool.true_and, Bool.and_false, Bool.false_and, Bool.or_true, Bool.true_or, Bool.or_false, Bool.false_or, Bool.not_true, Bool.not_false, cond_true, cond_false]
    rfl
  | succ d ih =>
    intro i n hi hn
    obtain ⟨n, rfl⟩ : ∃ k, n = k + 1 := ⟨n - 1, by omega⟩
    have h5 : (i : Int) < (xs.length : Int) := by omega
    have k0 : i + 1 ≤ 4611686018427387904 := by omega
    have k1 : (i + 1) * 8 ≤ 140737488355328 := by omega
    have hl : (ss.ms.sv xs (cq.sv i)).length = i := by rw [ss.ms_length, cq.sv_length]
    have ht : (ss.ms.sv xs (cq.sv i)).take i = ss.ms.sv xs (cq.sv i) := List.take_of_length_le (by omega)
    have hin : ss.inr xs.length (ss.ms.sv xs (cq.sv i) ++ [(i : Int)]) := by
      intro x hx2
      rcases List.mem_append.1 hx2 with h | h
      · have := sf.cq_mem (ss.mem_ms.1 h); omega
      · obtain rfl := List.mem_singleton.1 h; omega
    have hn2 := inner xs f n (i + 1) i (by omega) (by omega) i f (ss.ms.sv xs (cq.sv i) ++ [(i : Int)]) (by omega) (by omega) (by rw [List.length_append, hl]; rfl) hin
    rw [sf.step] at hn2
    have hih := ih (i + 1) n (by omega) (by omega)
    rw [round1]
    simp -implicitDefEqProofs only [h5, ht, k0, k1, cq.one_set, List.drop_zero, List.take_length, List.length_singleton, List.take_succ_cons, List.take_zero, Nat.reduceBEq, decide_true, decide_false, Bool.and_self, Bool.or_self, Bool.and_true, Bool.true_and, Bool.and_false, Bool.false_and, Bool.or_true, Bool.true_or, Bool.or_false, Bool.false_or, Bool.not_true, Bool.not_false, cond_true, cond_false]
    exact hn2.trans hih
theorem sums (xs os : List Int) (q f : Nat) (hq : os.length = q) (hq2 : q ≤ 64) (hin : ss.inr xs.length os) : ∀ (d i n : Nat) (s a : Int), i + d = q → d < n →
    L4 f n (mkS 86 [(0, .ro (.ints .i64 xs) xs.length 1), (5, .own 0 0 q 0 1), (9, .int .i64 s), (10, .int .i64 a), (11, .int .i64 (i : Int))] [⟨.typ (.ints .i64 os), 0⟩]) = some (.tup [.own 0 0 q 0 1, .int .i64 (sf.sum.sv xs (os.drop i) s a), .bool true], [⟨.typ (.ints .i64 os), 0⟩]) := by
  intro d
  induction d with
  | zero =>
    intro i n s a hi hn
    obtain ⟨n, rfl⟩ : ∃ k, n = k + 1 := ⟨n - 1, by omega⟩
    obtain rfl : i = q := by omega
    have e : os.drop i = [] := List.drop_of_length_le (by omega)
    rw [round4, e]
    simp -implicitDefEqProofs only [Int.lt_irrefl, sf.sum.sv, decide_true, decide_false, Bool.and_self, Bool.or_self, Bool.and_true, Bool.true_and, Bool.and_false, Bool.false_and, Bool.or_true, Bool.true_or, Bool.or_false, Bool.false_or, Bool.not_true, Bool.not_false, cond_true, cond_false]
  | succ d ih =>
    intro i n s a hi hn
    obtain ⟨n, rfl⟩ : ∃ k, n = k + 1 := ⟨n - 1, by omega⟩
    have h4 : (0 : Int) ≤ (i : Int) := Int.natCast_nonneg _
    have h5 : (i : Int) < (q : Int) := by omega
    have h2 : i < os.length := by omega
    obtain ⟨a1, a2⟩ := ss.inr_gz hin h2
    have a3 : (gz os i).toNat < xs.length := by omega
    have wi : IntKind.i64.wrap ((i : Int) + 1) = ((i + 1 : Nat) : Int) := wrap_nat i (by omega)
    have e : os.drop i = gz os i :: os.drop (i + 1) := by rw [List.drop_eq_getElem_cons h2, gz_eq h2]
    have hih := ih (i + 1) n (IntKind.i64.wrap (s + a)) (IntKind.i64.wrap (a + gz xs (gz os i).toNat)) (by omega) (by omega)
    rw [round4, e]
    simp -implicitDefEqProofs only [h4, h5, h2, a1, a2, a3, wi, sf.sum.sv, Int.toNat_natCast, decide_true, decide_false, Bool.and_self, Bool.or_self, Bool.and_true, Bool.true_and, Bool.and_false, Bool.false_and, Bool.or_true, Bool.true_or, Bool.or_false, Bool.false_or, Bool.not_true, Bool.not_false, cond_true, cond_false]
    exact hih
theorem run : ∀ args v new, R args = some (true, v, new) → ∃ fuel, runFn Try.prog (orc [⟨35, l06Times.R⟩]) hd Dr.std none fuel (bodyOf Try.f16) 86 [2, 3, 4] args [] = some (v, new) := by
  intro args v new h
  unfold R at h
  split at h
  · rename_i xs m
    simp only [Option.some.injEq, Prod.mk.injEq, Bool.and_eq_true, decide_eq_true_eq, Bool.not_eq_true'] at h
    obtain ⟨⟨⟨rfl, h3⟩, hs⟩, rfl, rfl⟩ := h
    have hs2 := hs
    simp only [sf.sp, Bool.and_eq_true, decide_eq_true_eq] at hs2
    obtain ⟨_, h64⟩ := hs2
    obtain ⟨F, hF⟩ : ∃ F : Nat, F = 100 := ⟨100, rfl⟩
    refine ⟨F, ?_⟩
    have ho := outer xs F h64 (by omega) xs.length 0 F (by omega) (by omega)
    have hsu := sums xs (sf.O.sv xs) xs.length F (sf.O_length xs) h64 (sf.O_inr xs) xs.length 0 F 0 0 (by omega) (by omega)
    rw [List.drop_zero] at hsu
    have e : (xs.all ln.tm.sp && decide (xs.length ≤ 64)) = true := hs
    have e0 : ss.ms.sv xs (cq.sv 0) = [] := ss.ms_nil xs
    rw [e0] at ho
    rw [start, sf.O_length]
    simp -implicitDefEqProofs only [h3, e, List.take_length, List.replicate_zero, Nat.le_refl, and_self, eq_self, decide_true, decide_false, Bool.and_self, Bool.or_self, Bool.and_true, Bool.true_and, Bool.and_false, Bool.false_and, Bool.or_true, Bool.true_or, Bool.or_false, Bool.false_or, Bool.not_true, Bool.not_false, cond_true, cond_false]
    exact ho.trans hsu
  · cases h
theorem ok : EntOk Try.prog ⟨16, R⟩ :=
  ent_okA mixed (A := (orc [⟨35, l06Times.R⟩])) (orc_ok (by simp only [List.mem_cons, List.not_mem_nil, or_false, forall_eq_or_imp, forall_eq]; exact l06Times.ok)) Try.func16 (by kernel_rfl) (by kernel_rfl) (n := 86) (ts := [2, 3, 4]) (hd := hd) (dr := Dr.std) (cut := none) (by kernel_rfl) (by kernel_rfl) (by kernel_rfl) run
end sShortestFirst_t

namespace sShortestFirst_f
def R : List AVal → Option (Bool × AVal × List Blk)
  | [.ro (.ints .i64 xs) m 1] => some (decide (m = xs.length ∧ m ≤ 4611686018427387904) && !sf.sp xs, .tup [.nils, .int .i64 0, .bool false], [])
  | _ => none
def hd : Nat → Head := fun i => bif eqN i 2 then ⟨[0, 5, 6, 7], some 1⟩ else bif eqN i 4 then ⟨[0, 5, 9, 10, 11], some 1⟩ else ⟨[0, 5, 6], some 1⟩
noncomputable def L1 (f n : Nat) (s : State) := loopAt Try.prog (orc [⟨35, l06Times.R⟩]) hd Dr.std 0 f (bodyOf Try.f16) 0 [true, true, true, false, true] (retK Try.prog [2, 3, 4] 0 (some 0)) n s
theorem start (xs : List Int) (f : Nat) :
  runFn Try.prog (orc [⟨35, l06Times.R⟩]) hd Dr.std (some 0) f (bodyOf Try.f16) 86 [2, 3, 4] [.ro (.ints .i64 xs) xs.length 1] []
  = (bif decide (xs.length ≤ xs.length ∧ xs.length ≤ (4611686018427387904 : Nat)) && (true && true || true && true) then bif !((List.take xs.length xs).all ln.tm.sp && decide (xs.length ≤ (64 : Nat))) then some (AVal.tup [AVal.nils, AVal.int IntKind.i64 (0 : Int), AVal.bool false], []) else L1 f f (mkS (86 : Nat) [((0 : Nat), AVal.ro (Cont.ints IntKind.i64 xs) xs.length (1 : Nat)), ((5 : Nat), AVal.own (0 : Nat) (0 : Nat) (0 : Nat) (0 : Nat) (1 : Nat)), ((6 : Nat), AVal.int IntKind.i64 (0 : Int))] [{ c := BC.typ (Cont.ints IntKind.i64 (List.replicate (0 : Nat) (0 : Int))), ver := (0 : Nat) }]) else none) := by kernel_rfl
theorem run : ∀ args v new, R args = some (true, v, new) → ∃ fuel, runFn Try.prog (orc [⟨35, l06Times.R⟩]) hd Dr.std (some 0) fuel (bodyOf Try.f16) 86 [2, 3, 4] args [] = some (v, new) := by
  intro args v new h
  unfold R at h
  split at h
  · rename_i xs m
    simp only [Option.some.injEq, Prod.mk.injEq, Bool.and_eq_true, decide_eq_true_eq, Bool.not_eq_true'] at h
    obtain ⟨⟨⟨rfl, h3⟩, hs⟩, rfl, rfl⟩ := h
    refine ⟨0, ?_⟩
    have e : (xs.all ln.tm.sp && decide (xs.length ≤ 64)) = false := hs
    rw [start]
    simp -implicitDefEqProofs only [h3, e, List.take_length, Nat.le_refl, and_self, eq_self, decide_true, decide_false, Bool.and_self, Bool.or_self, Bool.and_true, Bool.true_and, Bool.and_false, Bool.false_and, Bool.or_true, Bool.true_or, Bool.or_false, Bool.false_or, Bool.not_true, Bool.not_false, cond_true, cond_false]
  · cases h
theorem ok : EntOk Try.prog ⟨16, R⟩ :=
  ent_okA mixed (A := (orc [⟨35, l06Times.R⟩])) (orc_ok (by simp only [List.mem_cons, List.not_mem_nil, or_false, forall_eq_or_imp, forall_eq]; exact l06Times.ok)) Try.func16 (by kernel_rfl) (by kernel_rfl) (n := 86) (ts := [2, 3, 4]) (hd := hd) (dr := Dr.std) (cut := (some 0)) (by kernel_rfl) (by kernel_rfl) (by kernel_rfl) run
end sShortestFirst_f

namespace sShortestFirst
def Rt := sShortestFirst_t.R
def Rf := sShortestFirst_f.R
theorem okt : EntOk Try.prog ⟨16, Rt⟩ := sShortestFirst_t.ok
theorem okf : EntOk Try.prog ⟨16, Rf⟩ := sShortestFirst_f.ok
end sShortestFirst

namespace iShortestFirst_t
def R : List AVal → Option (Bool × AVal × List Blk)
  | [.ro (.ints .i64 xs) m 1] => some (decide (m = xs.length ∧ m ≤ 4611686018427387904) && sf.sp xs, .tup [.own 0 0 (sf.O.sv xs).length 0 1, .int .i64 (sf.S.sv xs), .bool true], [⟨.typ (.ints .i64 (sf.O.sv xs)), 0⟩])
  | _ => none
def hd : Nat → Head := fun i => ⟨[1, 5, 6, 7, 19, 20, 21], some 2⟩
noncomputable def L (f n : Nat) (s : State) := loopAt Try.prog (orcW [⟨37, sortSt.R⟩] [⟨36, areMany.R⟩, ⟨26, counting2.R⟩]) hd Dr.std 0 f (bodyOf Try.f17) 0 [true, true, true, true, true, false, true] (retK Try.prog [2, 3, 4] 0 none) n s
theorem start (xs : List Int) (f : Nat) :
  runFn Try.prog (orcW [⟨37, sortSt.R⟩] [⟨36, areMany.R⟩, ⟨26, counting2.R⟩]) hd Dr.std none f (bodyOf Try.f17) 37 [2, 3, 4] [.ro (.ints .i64 xs) xs.length 1] []
  = (bif true && true then bif decide (xs.length ≤ xs.length ∧ xs.length ≤ (4611686018427387904 : Nat)) && (true && true || true && true) then bif !(decide ((0 : Int) ≤ (↑xs.length : Int)) && decide ((↑xs.length : Int) ≤ (64 : Int)) && (List.take xs.length xs).all fun x => decide ((0 : Int) ≤ x) && decide (x ≤ (1000000 : Int))) then some (AVal.tup [AVal.nils, AVal.int IntKind.i64 (0 : Int), AVal.bool false], [{ c := BC.cells [AVal.ro (Cont.ints IntKind.i64 xs) xs.length (1 : Nat)], ver := (0 : Nat) }]) else bif true && true then bif decide ((0 : Int) ≤ (↑xs.length : Int) ∧ (↑xs.length : Int) ≤ (1000 : Int)) && (true && true || true && (true && true)) then bif decide ((cq.sv (↑xs.length : Int).toNat).length = (cq.sv (↑xs.length : Int).toNat).length ∧ (cq.sv (↑xs.length : Int).toNat).length ≤ (1000 : Nat) ∧ xs.length ≤ xs.length ∧ (38 : Nat) = (38 : FuncId)) && ss.okI.sp xs.length (0 : Nat) (cq.sv (↑xs.length : Int).toNat).length (cq.sv (↑xs.length : Int).toNat) && (true && (true && (true && true))) then L f f (mkS (37 : Nat) [((1 : Nat), AVal.ptr (0 : Nat) (0 : Nat) (0 : Nat)), ((5 : Nat), AVal.own (1 : Nat) (0 : Nat) (cq.sv (↑xs.length : Int).toNat).length (0 : Nat) (1 : Nat)), ((6 : Nat), AVal.int IntKind.i64 (0 : Int)), ((7 : Nat), AVal.int IntKind.i64 (0 : Int)), ((19 : Nat), AVal.own (1 : Nat) (0 : Nat) (cq.sv (↑xs.length : Int).toNat).length (0 : Nat) (1 : Nat)), ((20 : Nat), AVal.int IntKind.i64 (↑(cq.sv (↑xs.length : Int).toNat).length : Int)), ((21 : Nat), AVal.int IntKind.i64 (0 : Int))] [{ c := BC.cells [AVal.ro (Cont.ints IntKind.i64 xs) xs.length (1 : Nat)], ver := (0 : Nat) }, { c := BC.typ (Cont.ints IntKind.i64 (ss.ms.sv xs (cq.sv (↑xs.length : Int).toNat))), ver := (0 : Nat) }]) else none else none else none else none else none) := by kernel_rfl
theorem round (xs os : List Int) (q i : Nat) (s a : Int) (f n : Nat) :
  L f (n + 1) (mkS 37 [(1, .ptr 0 0 0), (5, .own 1 0 q 0 1), (6, .int .i64 a), (7, .int .i64 s), (19, .own 1 0 q 0 1), (20, .int .i64 (q : Int)), (21, .int .i64 (i : Int))] [⟨.cells [.ro (.ints .i64 xs) xs.length 1], 0⟩, ⟨.typ (.ints .i64 os), 0⟩])
  = (bif decide ((↑i : Int) < (↑q : Int)) then bif true && (decide ((0 : Int) ≤ (↑i : Int)) && decide ((↑i : Int) < (↑q : Int))) then bif true && decide ((↑i : Int).toNat < os.length) then bif true && true then bif true && (decide ((0 : Int) ≤ gz os (↑i : Int).toNat) && decide (gz os (↑i : Int).toNat < (↑xs.length : Int))) then bif decide ((gz os (↑i : Int).toNat).toNat < xs.length) then L f n (mkS (37 : Nat) [((1 : Nat), AVal.ptr (0 : Nat) (0 : Nat) (0 : Nat)), ((5 : Nat), AVal.own (1 : Nat) (0 : Nat) q (0 : Nat) (1 : Nat)), ((6 : Nat), AVal.int IntKind.i64 (IntKind.i64.wrap (a + gz xs (gz os (↑i : Int).toNat).toNat))), ((7 : Nat), AVal.int IntKind.i64 (IntKind.i64.wrap (s + a))), ((19 : Nat), AVal.own (1 : Nat) (0 : Nat) q (0 : Nat) (1 : Nat)), ((20 : Nat), AVal.int IntKind.i64 (↑q : Int)), ((21 : Nat), AVal.int IntKind.i64 (IntKind.i64.wrap ((↑i : Int) + (1 : Int))))] [{ c := BC.cells [AVal.ro (Cont.ints IntKind.i64 xs) xs.length (1 : Nat)], ver := (0 : Nat) }, { c := BC.typ (Cont.ints IntKind.i64 os), ver := (0 : Nat) }]) else none else none else none else none else none else some (AVal.tup [AVal.own (1 : Nat) (0 : Nat) q (0 : Nat) (1 : Nat), AVal.int IntKind.i64 s, AVal.bool true], [{ c := BC.cells [AVal.ro (Cont.ints IntKind.i64 xs) xs.length (1 : Nat)], ver := (0 : Nat) }, { c := BC.typ (Cont.ints IntKind.i64 os), ver := (0 : Nat) }])) := by kernel_rfl
theorem sums (xs os : List Int) (q f : Nat) (hq : os.length = q) (hq2 : q ≤ 64) (hin : ss.inr xs.length os) : ∀ (d i n : Nat) (s a : Int), i + d = q → d < n →
    L f n (mkS 37 [(1, .ptr 0 0 0), (5, .own 1 0 q 0 1), (6, .int .i64 a), (7, .int .i64 s), (19, .own 1 0 q 0 1), (20, .int .i64 (q : Int)), (21, .int .i64 (i : Int))] [⟨.cells [.ro (.ints .i64 xs) xs.length 1], 0⟩, ⟨.typ (.ints .i64 os), 0⟩]) = some (.tup [.own 1 0 q 0 1, .int .i64 (sf.sum.sv xs (os.drop i) s a), .bool true], [⟨.cells [.ro (.ints .i64 xs) xs.length 1], 0⟩, ⟨.typ (.ints .i64 os), 0⟩]) := by
  intro d
  induction d with
  | zero =>
    intro i n s a hi hn
    obtain ⟨n, rfl⟩ : ∃ k, n = k + 1 := ⟨n - 1, by omega⟩
    obtain rfl : i = q := by omega
    have e : os.drop i = [] := List.drop_of_length_le (by omega)
    rw [round, e]
    simp -implicitDefEqProofs only [Int.lt_irrefl, sf.sum.sv, decide_true, decide_false, Bool.and_self, Bool.or_self, Bool.and_true, Bool.true_and, Bool.and_false, Bool.false_and, Bool.or_true, Bool.true_or, Bool.or_false, Bool.false_or, Bool.not_true, Bool.not_false, cond_true, cond_false]
  | succ d ih =>
    intro i n s a hi hn
    obtain ⟨n, rfl⟩ : ∃ k, n = k + 1 := ⟨n - 1, by omega⟩
    have h4 : (0 : Int) ≤ (i : Int) := Int.natCast_nonneg _
    have h5 : (i : Int) < (q : Int) := by omega
    have h2 : i < os.length := by omega
    obtain ⟨a1, a2⟩ := ss.inr_gz hin h2
    have a3 : (gz os i).toNat < xs.length := by omega
    have wi : IntKind.i64.wrap ((i : Int) + 1) = ((i + 1 : Nat) : Int) := wrap_nat i (by omega)
    have e : os.drop i = gz os i :: os.drop (i + 1) := by rw [List.drop_eq_getElem_cons h2, gz_eq h2]
    have hih := ih (i + 1) n (IntKind.i64.wrap (s + a)) (IntKind.i64.wrap (a + gz xs (gz os i).toNat)) (by omega) (by omega)
    rw [round, e]
    simp -implicitDefEqProofs only [h4, h5, h2, a1, a2, a3, wi, sf.sum.sv, Int.toNat_natCast, decide_true, decide_false, Bool.and_self, Bool.or_self, Bool.and_true, Bool.true_and, Bool.and_false, Bool.false_and, Bool.or_true, Bool.true_or, Bool.or_false, Bool.false_or, Bool.not_true, Bool.not_false, cond_true, cond_false]
    exact hih
theorem run : ∀ args v new, R args = some (true, v, new) → ∃ fuel, regc [1] (runFn Try.prog (orcW [⟨37, sortSt.R⟩] [⟨36, areMany.R⟩, ⟨26, counting2.R⟩]) hd Dr.std none fuel (bodyOf Try.f17) 37 [2, 3, 4] args []) = some (v, new) := by
  intro args v new h
  unfold R at h
  split at h
  · rename_i xs m
    simp only [Option.some.injEq, Prod.mk.injEq, Bool.and_eq_true, decide_eq_true_eq, Bool.not_eq_true'] at h
    obtain ⟨⟨⟨rfl, h3⟩, hs⟩, rfl, rfl⟩ := h
    have hs2 := hs
    simp only [sf.sp, Bool.and_eq_true, decide_eq_true_eq] at hs2
    obtain ⟨_, h64⟩ := hs2
    obtain ⟨F, hF⟩ : ∃ F : Nat, F = 100 := ⟨100, rfl⟩
    refine ⟨F, ?_⟩
    have hm : ((decide ((0 : Int) ≤ (xs.length : Int)) && decide ((xs.length : Int) ≤ 64)) && xs.all fun x => decide (0 ≤ x) && decide (x ≤ 1000000)) = true := (sf.many xs).trans hs
    have hsu := sums xs (sf.O.sv xs) xs.length F (sf.O_length xs) h64 (sf.O_inr xs) xs.length 0 F 0 0 (by omega) (by omega)
    rw [List.drop_zero] at hsu
    have m0 : (0 : Int) ≤ (xs.length : Int) := Int.natCast_nonneg _
    have hm2 := hm
    simp only [m0, decide_true, Bool.true_and] at hm2
    have m1 : (xs.length : Int) ≤ 1000 := by omega
    have m2 : xs.length ≤ 1000 := by omega
    have cl : (cq.sv xs.length).length = xs.length := cq.sv_length _
    have hseg : ss.seg.sv 0 xs.length (cq.sv xs.length) = cq.sv xs.length := by
      unfold ss.seg.sv
      rw [List.drop_zero, List.take_of_length_le (by omega)]
    have hok : ss.okI.sp xs.length 0 xs.length (cq.sv xs.length) = true := by
      unfold ss.okI.sp
      rw [hseg]
      simp only [sf.cq_inr (Nat.le_refl xs.length), sf.cq_asc xs.length, decide_true, Bool.and_self]
    have eO : ss.ms.sv xs (cq.sv xs.length) = sf.O.sv xs := rfl
    rw [start, sf.O_length]
    simp -implicitDefEqProofs only [h3, hm2, m0, m1, m2, cl, hok, eO, Int.toNat_natCast, List.take_length, Nat.le_refl, and_self, eq_self, decide_true, decide_false, Bool.and_self, Bool.or_self, Bool.and_true, Bool.true_and, Bool.and_false, Bool.false_and, Bool.or_true, Bool.true_or, Bool.or_false, Bool.false_or, Bool.not_true, Bool.not_false, cond_true, cond_false]
    exact (congrArg (regc [1]) hsu).trans rfl
  · cases h
theorem ok : EntOk Try.prog ⟨17, R⟩ :=
  ent_okAG (ks := [1]) mixed (A := (orcW [⟨37, sortSt.R⟩] [⟨36, areMany.R⟩, ⟨26, counting2.R⟩])) (orcW_ok (by simp only [List.mem_cons, List.not_mem_nil, or_false, forall_eq_or_imp, forall_eq]; exact sortSt.ok) (by simp only [List.mem_cons, List.not_mem_nil, or_false, forall_eq_or_imp, forall_eq]; exact ⟨areMany.ok, counting2.ok⟩)) Try.func17 (by kernel_rfl) (by kernel_rfl) (n := 37) (ts := [2, 3, 4]) (hd := hd) (dr := Dr.std) (cut := none) (by kernel_rfl) (by kernel_rfl) (by kernel_rfl) run
end iShortestFirst_t

namespace iShortestFirst_f
def R : List AVal → Option (Bool × AVal × List Blk)
  | [.ro (.ints .i64 xs) m 1] => some (decide (m = xs.length ∧ m ≤ 4611686018427387904) && !sf.sp xs, .tup [.nils, .int .i64 0, .bool false], [])
  | _ => none
def hd : Nat → Head := fun i => ⟨[1, 5, 6, 7, 19, 20, 21], some 2⟩
noncomputable def L (f n : Nat) (s : State) := loopAt Try.prog (orcW [⟨37, sortSt.R⟩] [⟨36, areMany.R⟩, ⟨26, counting2.R⟩]) hd Dr.std 0 f (bodyOf Try.f17) 0 [true, true, true, true, true, false, true] (retK Try.prog [2, 3, 4] 0 (some 0)) n s
theorem start (xs : List Int) (f : Nat) :
  runFn Try.prog (orcW [⟨37, sortSt.R⟩] [⟨36, areMany.R⟩, ⟨26, counting2.R⟩]) hd Dr.std (some 0) f (bodyOf Try.f17) 37 [2, 3, 4] [.ro (.ints .i64 xs) xs.length 1] []
  = (bif true && true then bif decide (xs.length ≤ xs.length ∧ xs.length ≤ (4611686018427387904 : Nat)) && (true && true || true && true) then bif !(decide ((0 : Int) ≤ (↑xs.length : Int)) && decide ((↑xs.length : Int) ≤ (64 : Int)) && (List.take xs.length xs).all fun x => decide ((0 : Int) ≤ x) && decide (x ≤ (1000000 : Int))) then some (AVal.tup [AVal.nils, AVal.int IntKind.i64 (0 : Int), AVal.bool false], []) else bif true && true then bif decide ((0 : Int) ≤ (↑xs.length : Int) ∧ (↑xs.length : Int) ≤ (1000 : Int)) && (true && true || true && (true && true)) then bif decide ((cq.sv (↑xs.length : Int).toNat).length = (cq.sv (↑xs.length : Int).toNat).length ∧ (cq.sv (↑xs.length : Int).toNat).length ≤ (1000 : Nat) ∧ xs.length ≤ xs.length ∧ (38 : Nat) = (38 : FuncId)) && ss.okI.sp xs.length (0 : Nat) (cq.sv (↑xs.length : Int).toNat).length (cq.sv (↑xs.length : Int).toNat) && (true && (true && (true && true))) then L f f (mkS (37 : Nat) [((1 : Nat), AVal.ptr (0 : Nat) (0 : Nat) (0 : Nat)), ((5 : Nat), AVal.own (1 : Nat) (0 : Nat) (cq.sv (↑xs.length : Int).toNat).length (0 : Nat) (1 : Nat)), ((6 : Nat), AVal.int IntKind.i64 (0 : Int)), ((7 : Nat), AVal.int IntKind.i64 (0 : Int)), ((19 : Nat), AVal.own (1 : Nat) (0 : Nat) (cq.sv (↑xs.length : Int).toNat).length (0 : Nat) (1 : Nat)), ((20 : Nat), AVal.int IntKind.i64 (↑(cq.sv (↑xs.length : Int).toNat).length : Int)), ((21 : Nat), AVal.int IntKind.i64 (0 : Int))] [{ c := BC.cells [AVal.ro (Cont.ints IntKind.i64 xs) xs.length (1 : Nat)], ver := (0 : Nat) }, { c := BC.typ (Cont.ints IntKind.i64 (ss.ms.sv xs (cq.sv (↑xs.length : Int).toNat))), ver := (0 : Nat) }]) else none else none else none else none else none) := by kernel_rfl
theorem run : ∀ args v new, R args = some (true, v, new) → ∃ fuel, runFn Try.prog (orcW [⟨37, sortSt.R⟩] [⟨36, areMany.R⟩, ⟨26, counting2.R⟩]) hd Dr.std (some 0) fuel (bodyOf Try.f17) 37 [2, 3, 4] args [] = some (v, new) := by
  intro args v new h
  unfold R at h
  split at h
  · rename_i xs m
    simp only [Option.some.injEq, Prod.mk.injEq, Bool.and_eq_true, decide_eq_true_eq, Bool.not_eq_true'] at h
    obtain ⟨⟨⟨rfl, h3⟩, hs⟩, rfl, rfl⟩ := h
    have hm : ((decide ((0 : Int) ≤ (xs.length : Int)) && decide ((xs.length : Int) ≤ 64)) && xs.all fun x => decide (0 ≤ x) && decide (x ≤ 1000000)) = false := (sf.many xs).trans hs
    refine ⟨0, ?_⟩
    rw [start]
    simp -implicitDefEqProofs only [h3, hm, List.take_length, Nat.le_refl, and_self, eq_self, decide_true, decide_false, Bool.and_self, Bool.or_self, Bool.and_true, Bool.true_and, Bool.and_false, Bool.false_and, Bool.or_true, Bool.true_or, Bool.or_false, Bool.false_or, Bool.not_true, Bool.not_false, cond_true, cond_false]
  · cases h
theorem ok : EntOk Try.prog ⟨17, R⟩ :=
  ent_okA mixed (A := (orcW [⟨37, sortSt.R⟩] [⟨36, areMany.R⟩, ⟨26, counting2.R⟩])) (orcW_ok (by simp only [List.mem_cons, List.not_mem_nil, or_false, forall_eq_or_imp, forall_eq]; exact sortSt.ok) (by simp only [List.mem_cons, List.not_mem_nil, or_false, forall_eq_or_imp, forall_eq]; exact ⟨areMany.ok, counting2.ok⟩)) Try.func17 (by kernel_rfl) (by kernel_rfl) (n := 37) (ts := [2, 3, 4]) (hd := hd) (dr := Dr.std) (cut := (some 0)) (by kernel_rfl) (by kernel_rfl) (by kernel_rfl) run
end iShortestFirst_f

namespace iShortestFirst
def Rt := iShortestFirst_t.R
def Rf := iShortestFirst_f.R
theorem okt : EntOk Try.prog ⟨17, Rt⟩ := iShortestFirst_t.ok
theorem okf : EntOk Try.prog ⟨17, Rf⟩ := iShortestFirst_f.ok
end iShortestFirst

namespace FnExactShortestFirstt
def R : List AVal → Option (Bool × AVal × List Blk)
  | [.ro (.ints .i64 xs) m 1] => some (decide ((1048576 : Int) < (m : Int)) || (decide (m ≤ xs.length ∧ m ≤ 1048576) && (sf.sp (xs.take m))), .bool true, [])
  | _ => none
theorem go (xs : List Int) (m : Nat) :
  runFn Try.prog (orcW [⟨11, markInt64S.R⟩] [⟨8, toInt64S.R⟩, ⟨16, sShortestFirst.Rt⟩, ⟨17, iShortestFirst.Rt⟩, ⟨10, eqInt64N.R⟩, ⟨12, heldInt64S.R⟩]) hd0 Dr.std (some 0) 0 (bodyOf Try.f5) 114 [2] [.ro (.ints .i64 xs) m 1] []
  = (bif decide ((1048576 : Int) < (↑m : Int)) then some (AVal.bool true, []) else bif decide (m ≤ xs.length ∧ m ≤ (1048576 : Nat)) && (true && true || true && (true && true)) then bif decide (m = (List.take m xs).length ∧ m ≤ (4611686018427387904 : Nat)) && sf.sp (List.take m xs) && (false && true || true && (true && true) && (true && true)) then bif decide (m ≤ xs.length ∧ m ≤ (1048576 : Nat)) && (true && true || true && (true && true)) then bif decide (m = (List.take m xs).length ∧ m ≤ (4611686018427387904 : Nat)) && sf.sp (List.take m xs) && (false && true || true && (true && true) && (true && true)) then bif decide ((sf.O.sv (List.take m xs)).length ≤ (sf.O.sv (List.take m xs)).length ∧ (sf.O.sv (List.take m xs)).length ≤ (sf.O.sv (List.take m xs)).length ∧ (sf.O.sv (List.take m xs)).length ≤ (4611686018427387904 : Nat)) && (false && (false && true) || true && true) then bif !decide (List.take (sf.O.sv (List.take m xs)).length (sf.O.sv (List.take m xs)) = List.take (sf.O.sv (List.take m xs)).length (sf.O.sv (List.take m xs))) then some (AVal.bool false, []) else bif sf.S.sv (List.take m xs) != sf.S.sv (List.take m xs) then some (AVal.bool false, []) else bif decide (m ≤ xs.length ∧ m ≤ (1048576 : Nat)) && (true && true || true && (true && true)) then bif decide (m ≤ (List.take m xs).length ∧ m ≤ (List.take m xs).length ∧ m ≤ (4611686018427387904 : Nat)) && (false && (false && true) || true && true) then bif !decide (List.take m (List.take m xs) = List.take m (List.take m xs)) then some (AVal.bool false, []) else bif decide (m = (List.take m xs).length ∧ m ≤ (4611686018427387904 : Nat) ∧ (0 : Int) ≤ (1 : Int) ∧ (1 : Int) ≤ (1000000000 : Int)) && (true && true && (true && true)) then bif decide ((1 : Int) + (↑m : Int) < (0 : Int)) then some (AVal.bool false, []) else bif decide ((sf.O.sv (List.take m xs)).length ≤ (sf.O.sv (List.take m xs)).length ∧ (sf.O.sv (List.take m xs)).length ≤ (sf.O.sv (List.take m xs)).length ∧ (sf.O.sv (List.take m xs)).length ≤ (4611686018427387904 : Nat)) && (false && (false && true) || true && true) then bif !decide (List.take (sf.O.sv (List.take m xs)).length (sf.O.sv (List.take m xs)) = List.take (sf.O.sv (List.take m xs)).length (sf.O.sv (List.take m xs))) then some (AVal.bool false, []) else bif sf.S.sv (List.take m xs) != sf.S.sv (List.take m xs) then some (AVal.bool false, []) else bif decide ((sf.O.sv (List.take m xs)).length = (sf.O.sv (List.take m xs)).length ∧ (sf.O.sv (List.take m xs)).length ≤ (4611686018427387904 : Nat) ∧ (0 : Int) ≤ (1 : Int) ∧ (1 : Int) ≤ (1000000000 : Int)) && (true && true && (true && true)) then bif decide ((sf.O.sv (List.take m xs)).length ≤ (marks.sv (1 : Int) (sf.O.sv (List.take m xs)).length).length ∧ (sf.O.sv (List.take m xs)).length ≤ (4611686018427387904 : Nat) ∧ (0 : Int) ≤ (1 : Int) ∧ (1 : Int) ≤ (1000000000 : Int)) && (false && true || true && true) then bif decide ((bif decide (List.take (sf.O.sv (List.take m xs)).length (marks.sv (1 : Int) (sf.O.sv (List.take m xs)).length) = marks.sv (1 : Int) (sf.O.sv (List.take m xs)).length) then (1 : Int) + (↑(sf.O.sv (List.take m xs)).length : Int) else (-1 : Int)) < (0 : Int)) then some (AVal.bool false, []) else bif (bif decide (List.take (sf.O.sv (List.take m xs)).length (marks.sv (1 : Int) (sf.O.sv (List.take m xs)).length) = marks.sv (1 : Int) (sf.O.sv (List.take m xs)).length) then (1 : Int) + (↑(sf.O.sv (List.take m xs)).length : Int) else (-1 : Int)) != (1 : Int) + (↑(sf.O.sv (List.take m xs)).length : Int) then some (AVal.bool false, []) else bif decide (m ≤ xs.length ∧ m ≤ (1048576 : Nat)) && (true && true || true && (true && true)) then bif decide (m = (List.take m xs).length ∧ m ≤ (4611686018427387904 : Nat)) && sf.sp (List.take m xs) && (false && true || true && (true && true) && (true && true)) then bif decide ((sf.O.sv (List.take m xs)).length ≤ (sf.O.sv (List.take m xs)).length ∧ (sf.O.sv (List.take m xs)).length ≤ (sf.O.sv (List.take m xs)).length ∧ (sf.O.sv (List.take m xs)).length ≤ (4611686018427387904 : Nat)) && (false && (false && true) || true && true) then bif !decide (List.take (sf.O.sv (List.take m xs)).length (sf.O.sv (List.take m xs)) = List.take (sf.O.sv (List.take m xs)).length (sf.O.sv (List.take m xs))) then some (AVal.bool false, []) else bif sf.S.sv (List.take m xs) != sf.S.sv (List.take m xs) then some (AVal.bool false, []) else bif decide ((sf.O.sv (List.take m xs)).length ≤ (marks.sv (1 : Int) (sf.O.sv (List.take m xs)).length).length ∧ (sf.O.sv (List.take m xs)).length ≤ (4611686018427387904 : Nat) ∧ (0 : Int) ≤ (1 : Int) ∧ (1 : Int) ≤ (1000000000 : Int)) && (false && true || true && true) then bif decide ((bif decide (List.take (sf.O.sv (List.take m xs)).length (marks.sv (1 : Int) (sf.O.sv (List.take m xs)).length) = marks.sv (1 : Int) (sf.O.sv (List.take m xs)).length) then (1 : Int) + (↑(sf.O.sv (List.take m xs)).length : Int) else (-1 : Int)) < (0 : Int)) then some (AVal.bool false, []) else bif (bif decide (List.take (sf.O.sv (List.take m xs)).length (marks.sv (1 : Int) (sf.O.sv (List.take m xs)).length) = marks.sv (1 : Int) (sf.O.sv (List.take m xs)).length) then (1 : Int) + (↑(sf.O.sv (List.take m xs)).length : Int) else (-1 : Int)) != (1 : Int) + (↑(sf.O.sv (List.take m xs)).length : Int) then some (AVal.bool false, []) else some (AVal.bool true, []) else none else none else none else none else none else none else none else none else none else none else none else none else none else none else none) := by kernel_rfl
theorem run : ∀ args v new, R args = some (true, v, new) → ∃ fuel, runFn Try.prog (orcW [⟨11, markInt64S.R⟩] [⟨8, toInt64S.R⟩, ⟨16, sShortestFirst.Rt⟩, ⟨17, iShortestFirst.Rt⟩, ⟨10, eqInt64N.R⟩, ⟨12, heldInt64S.R⟩]) hd0 Dr.std (some 0) fuel (bodyOf Try.f5) 114 [2] args [] = some (v, new) := by
  intro args v new h
  unfold R at h
  split at h
  · rename_i xs m
    simp only [Option.some.injEq, Prod.mk.injEq, Bool.or_eq_true, Bool.and_eq_true, decide_eq_true_eq, Bool.not_eq_true'] at h
    obtain ⟨h, rfl, rfl⟩ := h
    refine ⟨0, ?_⟩
    rw [go]
    by_cases b0 : (1048576 : Int) < (m : Int)
    · simp only [b0, decide_true, decide_false, cond_true, cond_false]
    rcases h with h | h
    · exact absurd h (by omega)
    obtain ⟨⟨hl0, hl1⟩, hc⟩ := h
    have e0 : (xs.take m).length = m := by simp; omega
    have g0 : m ≤ 4611686018427387904 := by omega
    have o0 : (sf.O.sv (xs.take m)).length ≤ 4611686018427387904 := by rw [sf.O_length]; omega
    simp only [b0, e0, g0, hl0, hl1, hc, o0, List.take_take, Nat.min_self, Nat.le_refl, List.take_length, marks_length, take_marks, one_neg, i0_1, i1_b, true_and, and_true, and_self, decide_true, decide_false, Bool.and_self, Bool.or_self, Bool.and_true, Bool.true_and, Bool.and_false, Bool.false_and, Bool.or_true, Bool.true_or, Bool.or_false, Bool.false_or, Bool.not_true, Bool.not_false, cond_true, cond_false, bne_self_eq_false, beq_self_eq_true]
  · cases h
theorem ok : EntOk Try.prog ⟨5, R⟩ :=
  ent_okA mixed (A := (orcW [⟨11, markInt64S.R⟩] [⟨8, toInt64S.R⟩, ⟨16, sShortestFirst.Rt⟩, ⟨17, iShortestFirst.Rt⟩, ⟨10, eqInt64N.R⟩, ⟨12, heldInt64S.R⟩])) (orcW_ok (by simp only [List.mem_cons, List.not_mem_nil, or_false, forall_eq_or_imp, forall_eq]; exact markInt64S.ok) (by simp only [List.mem_cons, List.not_mem_nil, or_false, forall_eq_or_imp, forall_eq]; exact ⟨toInt64S.ok, sShortestFirst.okt, iShortestFirst.okt, eqInt64N.ok, heldInt64S.ok⟩)) Try.func5 (by kernel_rfl) (by kernel_rfl) (n := 114) (ts := [2]) (hd := hd0) (dr := Dr.std) (cut := (some 0)) (by kernel_rfl) (by kernel_rfl) (by kernel_rfl) run
end FnExactShortestFirstt

namespace FnExactShortestFirstf
def R : List AVal → Option (Bool × AVal × List Blk)
  | [.ro (.ints .i64 xs) m 1] => some (decide ((1048576 : Int) < (m : Int)) || (decide (m ≤ xs.length ∧ m ≤ 1048576) && !(sf.sp (xs.take m))), .bool true, [])
  | _ => none
theorem go (xs : List Int) (m : Nat) :
  runFn Try.prog (orcW [⟨11, markInt64S.R⟩] [⟨8, toInt64S.R⟩, ⟨16, sShortestFirst.Rf⟩, ⟨17, iShortestFirst.Rf⟩, ⟨10, eqInt64N.R⟩, ⟨12, heldInt64S.R⟩]) hd0 Dr.std (some 0) 0 (bodyOf Try.f5) 114 [2] [.ro (.ints .i64 xs) m 1] []
  = (bif decide ((1048576 : Int) < (↑m : Int)) then some (AVal.bool true, []) else bif decide (m ≤ xs.length ∧ m ≤ (1048576 : Nat)) && (true && true || true && (true && true)) then bif decide (m = (List.take m xs).length ∧ m ≤ (4611686018427387904 : Nat)) && !sf.sp (List.take m xs) && (false && true || true && true) then bif decide (m ≤ xs.length ∧ m ≤ (1048576 : Nat)) && (true && true || true && (true && true)) then bif decide (m = (List.take m xs).length ∧ m ≤ (4611686018427387904 : Nat)) && !sf.sp (List.take m xs) && (false && true || true && true) then bif decide (m ≤ xs.length ∧ m ≤ (1048576 : Nat)) && (true && true || true && (true && true)) then bif decide (m ≤ (List.take m xs).length ∧ m ≤ (List.take m xs).length ∧ m ≤ (4611686018427387904 : Nat)) && (false && (false && true) || true && true) then bif !decide (List.take m (List.take m xs) = List.take m (List.take m xs)) then some (AVal.bool false, []) else bif decide (m = (List.take m xs).length ∧ m ≤ (4611686018427387904 : Nat) ∧ (0 : Int) ≤ (1 : Int) ∧ (1 : Int) ≤ (1000000000 : Int)) && (true && (true && true)) then bif decide ((1 : Int) + (↑m : Int) < (0 : Int)) then some (AVal.bool false, []) else bif true && (true && true) then bif decide (m ≤ xs.length ∧ m ≤ (1048576 : Nat)) && (true && true || true && (true && true)) then bif decide (m = (List.take m xs).length ∧ m ≤ (4611686018427387904 : Nat)) && !sf.sp (List.take m xs) && (false && true || true && true) then some (AVal.bool true, []) else none else none else none else none else none else none else none else none else none else none) := by kernel_rfl
theorem run : ∀ args v new, R args = some (true, v, new) → ∃ fuel, runFn Try.prog (orcW [⟨11, markInt64S.R⟩] [⟨8, toInt64S.R⟩, ⟨16, sShortestFirst.Rf⟩, ⟨17, iShortestFirst.Rf⟩, ⟨10, eqInt64N.R⟩, ⟨12, heldInt64S.R⟩]) hd0 Dr.std (some 0) fuel (bodyOf Try.f5) 114 [2] args [] = some (v, new) := by
  intro args v new h
  unfold R at h
  split at h
  · rename_i xs m
    simp only [Option.some.injEq, Prod.mk.injEq, Bool.or_eq_true, Bool.and_eq_true, decide_eq_true_eq, Bool.not_eq_true'] at h
    obtain ⟨h, rfl, rfl⟩ := h
    refine ⟨0, ?_⟩
    rw [go]
    by_cases b0 : (1048576 : Int) < (m : Int)
    · simp only [b0, decide_true, decide_false, cond_true, cond_false]
    rcases h with h | h
    · exact absurd h (by omega)
    obtain ⟨⟨hl0, hl1⟩, hc⟩ := h
    have e0 : (xs.take m).length = m := by simp; omega
    have g0 : m ≤ 4611686018427387904 := by omega
    simp only [b0, e0, g0, hl0, hl1, hc, List.take_take, Nat.min_self, Nat.le_refl, List.take_length, marks_length, take_marks, one_neg, i0_1, i1_b, true_and, and_true, and_self, decide_true, decide_false, Bool.and_self, Bool.or_self, Bool.and_true, Bool.true_and, Bool.and_false, Bool.false_and, Bool.or_true, Bool.true_or, Bool.or_false, Bool.false_or, Bool.not_true, Bool.not_false, cond_true, cond_false, bne_self_eq_false, beq_self_eq_true]
  · cases h
theorem ok : EntOk Try.prog ⟨5, R⟩ :=
  ent_okA mixed (A := (orcW [⟨11, markInt64S.R⟩] [⟨8, toInt64S.R⟩, ⟨16, sShortestFirst.Rf⟩, ⟨17, iShortestFirst.Rf⟩, ⟨10, eqInt64N.R⟩, ⟨12, heldInt64S.R⟩])) (orcW_ok (by simp only [List.mem_cons, List.not_mem_nil, or_false, forall_eq_or_imp, forall_eq]; exact markInt64S.ok) (by simp only [List.mem_cons, List.not_mem_nil, or_false, forall_eq_or_imp, forall_eq]; exact ⟨toInt64S.ok, sShortestFirst.okf, iShortestFirst.okf, eqInt64N.ok, heldInt64S.ok⟩)) Try.func5 (by kernel_rfl) (by kernel_rfl) (n := 114) (ts := [2]) (hd := hd0) (dr := Dr.std) (cut := (some 0)) (by kernel_rfl) (by kernel_rfl) (by kernel_rfl) run
end FnExactShortestFirstf

namespace FnExactShortestFirst
def R : List AVal → Option (Bool × AVal × List Blk)
  | [.ro (.ints .i64 xs) m 1] => some (decide (m ≤ xs.length), .bool true, [])
  | _ => none
theorem ok : EntOk Try.prog ⟨5, R⟩ := by
  refine EntOk.cases FnExactShortestFirstt.ok FnExactShortestFirstf.ok fun args v new h => ?_
  unfold R at h
  split at h
  · rename_i xs m
    simp only [Option.some.injEq, Prod.mk.injEq, decide_eq_true_eq] at h
    obtain ⟨h, rfl, rfl⟩ := h
    simp only [FnExactShortestFirstt.R, FnExactShortestFirstf.R, Option.some.injEq, Prod.mk.injEq, Bool.or_eq_true, Bool.and_eq_true, decide_eq_true_eq, Bool.not_eq_true', and_true]
    by_cases hb : (1048576 : Int) < (m : Int)
    · exact .inl (.inl hb)
    · have hs : m ≤ xs.length ∧ m ≤ 1048576 := by omega
      cases hc : (sf.sp (xs.take m) : Bool)
      · exact .inr (.inr ⟨hs, rfl⟩)
      · exact .inl (.inr ⟨hs, rfl⟩)
  · cases h
end FnExactShortestFirst

end Go.Proofs.Ytadpndpbooofiaa.Ab
