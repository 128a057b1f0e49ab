/-
  Functions: who brings nothing, who is alike, what is brought in an order.
-/
import Derived.Test.YtekadpddilfolaaFnWD
import Derived.Test.YtekadpddilfolaaFnQ
namespace Go.Proofs.Ytekadpddilfolaa.Ab
open Go
set_option linter.unusedVariables false
set_option linter.unusedSimpArgs false
set_option maxRecDepth 100000



namespace wo
def st.sv (os : List Int) : Nat → Nat
  | 0 => 0
  | k + 1 => up.sv (st.sv os k) (gz os k).toNat
def br.sv (p : Nat) (ws os : List Int) : Nat → List Int
  | 0 => List.replicate p 0
  | k + 1 => (br.sv p ws os k).set (gz os k).toNat (mo.sv ws (st.sv os k) (gz os k).toNat)
theorem br_length (p : Nat) (ws os : List Int) : ∀ i, (br.sv p ws os i).length = p
  | 0 => List.length_replicate
  | i + 1 => by rw [br.sv, List.length_set, br_length p ws os i]
theorem uniq_in {n : Int} : ∀ {xs pre : List Int}, uniq.sq n pre xs = true → ∀ x ∈ xs, 0 ≤ x ∧ x ≤ n - 1
  | [], _, _, x, hx => by cases hx
  | y :: r, pre, h, x, hx => by
    simp only [uniq.sq, Bool.and_eq_true, decide_eq_true_eq] at h
    rcases List.mem_cons.1 hx with rfl | hx
    · exact h.1.1
    · exact uniq_in h.2 x hx
theorem st_lt {p : Nat} {os : List Int} (h : ∀ x ∈ os, 0 ≤ x ∧ x ≤ (p : Int) - 1) : ∀ k, k ≤ os.length → st.sv os k < 2 ^ p
  | 0, _ => Nat.pos_of_ne_zero (by have := pow_pos p; omega)
  | k + 1, hk => by
    have := h _ (gz_mem (show k < os.length by omega))
    exact up_lt (st_lt h k (by omega)) (by omega)
end wo

namespace iMoreInOrder
def R : List AVal → Option (Bool × AVal × List Blk)
  | [.agg [.int .i64 p, .ro (.ints .i64 ws) m 1], .ro (.ints .i64 os) l 1] => some (decide (m = ws.length ∧ l = os.length ∧ (l : Int) = p) && (wo.sp p ws && uniq.sq p [] os), .tup [.ro (.ints .i64 (wo.br.sv p.toNat ws os os.length)) p.toNat 1, .bool true], [])
  | _ => none
def hd : Nat → Head := fun _ => ⟨[2, 6, 7, 28, 29, 30], some 2⟩
noncomputable def L (f n : Nat) (s : State) := loopAt Try.prog (orc [⟨62, iValidWorths.R⟩, ⟨63, isAll.R⟩, ⟨64, wMore.R⟩]) hd Dr.std 0 f (bodyOf Try.f17) 0 [true, true, true, true, false, true] (retK Try.prog [4, 5] 0 (some 0)) n s
theorem start (p : Nat) (ws os : List Int) (f : Nat) :
  runFn Try.prog (orc [⟨62, iValidWorths.R⟩, ⟨63, isAll.R⟩, ⟨64, wMore.R⟩]) hd Dr.std (some 0) f (bodyOf Try.f17) 47 [4, 5] [.agg [.int .i64 p, .ro (.ints .i64 ws) ws.length 1], .ro (.ints .i64 os) os.length 1] []
  = (bif true && true && (true && true && true) then bif decide (ws.length = ws.length) && wo.sp (↑p : Int) ws && (true && (true && true) && true || true && true) then bif true && true then bif (↑os.length : Int) != (↑p : Int) then some (AVal.tup [AVal.nils, AVal.bool false], []) else bif decide (os.length ≤ os.length ∧ os.length ≤ (1000000000 : Nat)) && (true && true || true && true) then bif !uniq.sq (↑os.length : Int) [] (List.take os.length os) then some (AVal.tup [AVal.nils, AVal.bool false], []) else bif true && true then bif (1 : Nat) == (1 : Nat) && ((↑p : Int) == (↑p : Int) && (decide ((0 : Int) ≤ (↑p : Int)) && (decide ((↑p : Int) * (8 : Int) ≤ (140737488355328 : Int)) && decide ((↑p : Int) ≤ (4611686018427387904 : Int))))) then L f f (mkS (47 : Nat) [((2 : Nat), AVal.ptr (0 : Nat) (0 : Nat) (0 : Nat)), ((6 : Nat), AVal.own (1 : Nat) (0 : Nat) (↑p : Int).toNat (0 : Nat) (1 : Nat)), ((7 : Nat), AVal.int IntKind.i64 (0 : Int)), ((28 : Nat), AVal.ro (Cont.ints IntKind.i64 os) os.length (1 : Nat)), ((29 : Nat), AVal.int IntKind.i64 (↑os.length : Int)), ((30 : Nat), AVal.int IntKind.i64 (0 : Int))] [{ c := BC.cells [AVal.int IntKind.i64 (↑p : Int), AVal.ro (Cont.ints IntKind.i64 ws) ws.length (1 : Nat)], ver := (0 : Nat) }, { c := BC.typ (Cont.ints IntKind.i64 (List.replicate (↑p : Int).toNat (0 : Int))), ver := (0 : Nat) }]) else none else none else none else none else none else none) := by kernel_rfl
theorem round (p s l k : Nat) (ws os bs : List Int) (q f n : Nat) :
  L f (n + 1) (mkS 47 [(2, .ptr 0 0 0), (6, .own 1 0 q 0 1), (7, .int .i64 s), (28, .ro (.ints .i64 os) os.length 1), (29, .int .i64 l), (30, .int .i64 k)] [⟨.cells [.int .i64 p, .ro (.ints .i64 ws) ws.length 1], 0⟩, ⟨.typ (.ints .i64 bs), 0⟩])
  = (bif decide ((↑k : Int) < (↑l : Int)) then bif true && (decide ((0 : Int) ≤ (↑k : Int)) && decide ((↑k : Int) < (↑os.length : Int))) then bif decide ((↑k : Int).toNat < os.length) then bif true && true && (true && true && true) then bif decide (ws.length = ws.length ∧ (0 : Int) ≤ (↑s : Int) ∧ (0 : Int) ≤ gz os (↑k : Int).toNat ∧ gz os (↑k : Int).toNat < (↑p : Int) ∧ (↑s : Int) < (↑ws.length : Int)) && wo.sp (↑p : Int) ws && (true && (true && true) && (true && (true && true)) || true && true) then bif true && (decide ((0 : Int) ≤ gz os (↑k : Int).toNat) && decide (gz os (↑k : Int).toNat < (↑q : Int))) then bif true && (true && (decide ((gz os (↑k : Int).toNat).toNat < bs.length) && true)) then bif decide ((0 : Int) ≤ gz os (↑k : Int).toNat) then L f n (mkS (47 : Nat) [((2 : Nat), AVal.ptr (0 : Nat) (0 : Nat) (0 : Nat)), ((6 : Nat), AVal.own (1 : Nat) (0 : Nat) q (0 : Nat) (1 : Nat)), ((7 : Nat), AVal.int IntKind.i64 (ior.sv IntKind.i64 (↑s : Int) (ishl.sv IntKind.i64 (1 : Int) (gz os (↑k : Int).toNat)))), ((28 : Nat), AVal.ro (Cont.ints IntKind.i64 os) os.length (1 : Nat)), ((29 : Nat), AVal.int IntKind.i64 (↑l : Int)), ((30 : Nat), AVal.int IntKind.i64 (IntKind.i64.wrap ((↑k : Int) + (1 : Int))))] [{ c := BC.cells [AVal.int IntKind.i64 (↑p : Int), AVal.ro (Cont.ints IntKind.i64 ws) ws.length (1 : Nat)], ver := (0 : Nat) }, { c := BC.typ (Cont.ints IntKind.i64 (bs.set (gz os (↑k : Int).toNat).toNat (wo.mo.sv ws (↑s : Int).toNat (gz os (↑k : Int).toNat).toNat))), ver := (0 : Nat) }]) else none else none else none else none else none else none else none else some (AVal.tup [AVal.ro (Cont.ints IntKind.i64 bs) q (1 : Nat), AVal.bool true], [])) := by kernel_rfl
theorem loop (p : Nat) (ws os : List Int) (f : Nat) (hs : wo.sp p ws = true) (hp : 1 ≤ p ∧ p ≤ 6) (hw : ws.length = 2 ^ p) (h0 : gz ws 0 = 0) (v : ∀ x ∈ ws, -10000 ≤ x ∧ x ≤ 10000) (hl : os.length = p) (ho : ∀ x ∈ os, 0 ≤ x ∧ x ≤ (p : Int) - 1) : ∀ (d k n : Nat), k + d = os.length → d < n →
    L f n (mkS 47 [(2, .ptr 0 0 0), (6, .own 1 0 p 0 1), (7, .int .i64 ((wo.st.sv os k : Nat) : Int)), (28, .ro (.ints .i64 os) os.length 1), (29, .int .i64 ((os.length : Nat) : Int)), (30, .int .i64 ((k : Nat) : Int))] [⟨.cells [.int .i64 p, .ro (.ints .i64 ws) ws.length 1], 0⟩, ⟨.typ (.ints .i64 (wo.br.sv p ws os k)), 0⟩]) = some (.tup [.ro (.ints .i64 (wo.br.sv p ws os os.length)) p 1, .bool true], []) := by
  have h64 := wo.pow_le hp.2
  intro d
  induction d with
  | zero =>
    intro k n hk hn
    obtain ⟨n, rfl⟩ : ∃ k, n = k + 1 := ⟨n - 1, by omega⟩
    obtain rfl : k = os.length := by omega
    rw [round]
    simp -implicitDefEqProofs (disch := omega) only [take_one, set_one, decide_eq_true, decide_eq_false, IntWalk.i64_in, beqT, beqF, bneT, bneF, nat_succ, ← Int.natCast_mul, ← Int.natCast_add, Int.toNat_natCast, Int.zero_mul, Int.zero_add, Int.add_zero, Nat.zero_add, Nat.add_zero, Nat.zero_mul, List.length_singleton, List.length_append, List.length_nil, List.length_cons, List.take_length, List.drop_zero, List.replicate_zero, List.take_nil, List.nil_append, Nat.reduceBEq, Nat.reduceMul, Nat.reduceLeDiff, eq_self, and_self, true_and, and_true, decide_true, decide_false, Bool.and_self, Bool.or_self, Bool.and_true, Bool.true_and, Bool.and_false, Bool.false_and, Bool.or_true, Bool.true_or, Bool.or_false, Bool.false_or, Bool.not_true, Bool.not_false, cond_true, cond_false]
  | succ d ih =>
    intro k n hk hn
    obtain ⟨n, rfl⟩ : ∃ k, n = k + 1 := ⟨n - 1, by omega⟩
    have g := ih (k + 1) n (by omega) (by omega)
    have hb := wo.br_length p ws os k
    have hst := wo.st_lt ho k (by omega)
    have hx := ho _ (gz_mem (show k < os.length by omega))
    simp only [wo.br.sv, wo.st.sv] at g
    obtain ⟨x, hx2⟩ : ∃ x : Nat, gz os k = x := ⟨(gz os k).toNat, by omega⟩
    rw [hx2] at g hx
    simp only [Int.toNat_natCast] at g
    have s1 := wo.shl_one x (by omega)
    have s2 := wo.or_shl (wo.st.sv os k) (by omega) x (by omega)
    have q1 : (2 ^ x : Nat) ≤ 64 := wo.pow_le (by omega)
    rw [round]
    simp -implicitDefEqProofs (disch := omega) only [hs, hb, hx2, s1, s2, take_one, set_one, decide_eq_true, decide_eq_false, IntWalk.i64_in, beqT, beqF, bneT, bneF, nat_succ, ← Int.natCast_mul, ← Int.natCast_add, Int.toNat_natCast, Int.zero_mul, Int.zero_add, Int.add_zero, Nat.zero_add, Nat.add_zero, Nat.zero_mul, List.length_singleton, List.length_append, List.length_nil, List.length_cons, List.take_length, List.drop_zero, List.replicate_zero, List.take_nil, List.nil_append, Nat.reduceBEq, Nat.reduceMul, Nat.reduceLeDiff, eq_self, and_self, true_and, and_true, decide_true, decide_false, Bool.and_self, Bool.or_self, Bool.and_true, Bool.true_and, Bool.and_false, Bool.false_and, Bool.or_true, Bool.true_or, Bool.or_false, Bool.false_or, Bool.not_true, Bool.not_false, cond_true, cond_false]
    exact g
theorem run : ∀ args v new, R args = some (true, v, new) → ∃ fuel, runFn Try.prog (orc [⟨62, iValidWorths.R⟩, ⟨63, isAll.R⟩, ⟨64, wMore.R⟩]) hd Dr.std (some 0) fuel (bodyOf Try.f17) 47 [4, 5] args [] = some (v, new) := by
  intro args v new h
  unfold R at h
  split at h
  · rename_i p ws m os l
    simp only [Option.some.injEq, Prod.mk.injEq, Bool.and_eq_true, decide_eq_true_eq] at h
    obtain ⟨⟨⟨rfl, rfl, h3⟩, hs, hu⟩, rfl, rfl⟩ := h
    have hs2 := hs
    obtain ⟨p, rfl, hp, hw, h0, v⟩ := wo.valid hs2
    obtain rfl : os.length = p := by omega
    have ho := wo.uniq_in hu
    obtain ⟨F, hF⟩ : ∃ F : Nat, F = 100 := ⟨100, rfl⟩
    refine ⟨F, ?_⟩
    have g := loop os.length ws os F hs hp hw h0 v rfl ho os.length 0 F (by omega) (by omega)
    rw [start]
    simp -implicitDefEqProofs (disch := omega) only [hs, hu, take_one, set_one, decide_eq_true, decide_eq_false, IntWalk.i64_in, beqT, beqF, bneT, bneF, nat_succ, ← Int.natCast_mul, ← Int.natCast_add, Int.toNat_natCast, Int.zero_mul, Int.zero_add, Int.add_zero, Nat.zero_add, Nat.add_zero, Nat.zero_mul, List.length_singleton, List.length_append, List.length_nil, List.length_cons, List.take_length, List.drop_zero, List.replicate_zero, List.take_nil, List.nil_append, Nat.reduceBEq, Nat.reduceMul, Nat.reduceLeDiff, eq_self, and_self, true_and, and_true, decide_true, decide_false, Bool.and_self, Bool.or_self, Bool.and_true, Bool.true_and, Bool.and_false, Bool.false_and, Bool.or_true, Bool.true_or, Bool.or_false, Bool.false_or, Bool.not_true, Bool.not_false, cond_true, cond_false]
    exact g
  · cases h
theorem ok : EntOk Try.prog ⟨17, R⟩ :=
  ent_okA mixed (A := (orc [⟨62, iValidWorths.R⟩, ⟨63, isAll.R⟩, ⟨64, wMore.R⟩])) (orc_ok (by simp only [List.mem_cons, List.not_mem_nil, or_false, forall_eq_or_imp, forall_eq]; exact ⟨iValidWorths.ok, isAll.ok, wMore.ok⟩)) Try.func17 (by kernel_rfl) (by kernel_rfl) (n := 47) (ts := [4, 5]) (hd := hd) (dr := Dr.std) (cut := (some 0)) (by kernel_rfl) (by kernel_rfl) (by kernel_rfl) run
end iMoreInOrder

namespace areWorkersG
def R : List AVal → Option (Bool × AVal × List Blk)
  | [.int .i64 n] => some (true, .bool (decide (1 ≤ n) && decide (n ≤ 8)), [])
  | _ => none
theorem go (n : Int) :
  runFn Try.prog (orc [⟨74, within.R⟩]) hd0 Dr.std none 0 (bodyOf Try.f110) 5 [2] [.int .i64 n] []
  = (bif true && (true && true || true && true) then some (AVal.bool (decide ((1 : Int) ≤ n) && decide (n ≤ (8 : Int))), []) else none) := by kernel_rfl
theorem run : ∀ args v new, R args = some (true, v, new) → ∃ fuel, runFn Try.prog (orc [⟨74, within.R⟩]) hd0 Dr.std none fuel (bodyOf Try.f110) 5 [2] args [] = some (v, new) := by
  intro args v new h
  unfold R at h
  split at h
  · rename_i n
    simp only [Option.some.injEq, Prod.mk.injEq] at h
    obtain ⟨_, rfl, rfl⟩ := h
    refine ⟨0, ?_⟩
    rw [go]
    simp -implicitDefEqProofs (disch := omega) only [take_one, set_one, decide_eq_true, decide_eq_false, IntWalk.i64_in, beqT, beqF, bneT, bneF, nat_succ, ← Int.natCast_mul, ← Int.natCast_add, Int.toNat_natCast, Int.zero_mul, Int.zero_add, Int.add_zero, Nat.zero_add, Nat.add_zero, Nat.zero_mul, List.length_singleton, List.length_append, List.length_nil, List.length_cons, List.take_length, List.drop_zero, List.replicate_zero, List.take_nil, List.nil_append, Nat.reduceBEq, Nat.reduceMul, Nat.reduceLeDiff, eq_self, and_self, true_and, and_true, decide_true, decide_false, Bool.and_self, Bool.or_self, Bool.and_true, Bool.true_and, Bool.and_false, Bool.false_and, Bool.or_true, Bool.true_or, Bool.or_false, Bool.false_or, Bool.not_true, Bool.not_false, cond_true, cond_false]
  · cases h
theorem ok : EntOk Try.prog ⟨110, R⟩ :=
  ent_okA mixed (A := (orc [⟨74, within.R⟩])) (orc_ok (by simp only [List.mem_cons, List.not_mem_nil, or_false, forall_eq_or_imp, forall_eq]; exact within.ok)) Try.func110 (by kernel_rfl) (by kernel_rfl) (n := 5) (ts := [2]) (hd := hd0) (dr := Dr.std) (cut := none) (by kernel_rfl) (by kernel_rfl) (by kernel_rfl) run
end areWorkersG

namespace iSharesOfL
def R : List AVal → Option (Bool × AVal × List Blk)
  | [.agg [.int .i64 1, .ro (.ints .i64 ws) m 1]] => some (decide (m = ws.length) && wo.sp 1 ws, .tup [.ro (.ints .i64 [wo.sh.sv 1 ws 0 ws.length]) 1 1, .int .i64 1, .bool true], [])
  | [.agg [.int .i64 2, .ro (.ints .i64 ws) m 1]] => some (decide (m = ws.length) && wo.sp 2 ws, .tup [.ro (.ints .i64 [wo.sh.sv 2 ws 0 ws.length, wo.sh.sv 2 ws 1 ws.length]) 2 1, .int .i64 2, .bool true], [])
  | [.agg [.int .i64 3, .ro (.ints .i64 ws) m 1]] => some (decide (m = ws.length) && wo.sp 3 ws, .tup [.ro (.ints .i64 [wo.sh.sv 3 ws 0 ws.length, wo.sh.sv 3 ws 1 ws.length, wo.sh.sv 3 ws 2 ws.length]) 3 1, .int .i64 6, .bool true], [])
  | [.agg [.int .i64 4, .ro (.ints .i64 ws) m 1]] => some (decide (m = ws.length) && wo.sp 4 ws, .tup [.ro (.ints .i64 [wo.sh.sv 4 ws 0 ws.length, wo.sh.sv 4 ws 1 ws.length, wo.sh.sv 4 ws 2 ws.length, wo.sh.sv 4 ws 3 ws.length]) 4 1, .int .i64 24, .bool true], [])
  | [.agg [.int .i64 5, .ro (.ints .i64 ws) m 1]] => some (decide (m = ws.length) && wo.sp 5 ws, .tup [.ro (.ints .i64 [wo.sh.sv 5 ws 0 ws.length, wo.sh.sv 5 ws 1 ws.length, wo.sh.sv 5 ws 2 ws.length, wo.sh.sv 5 ws 3 ws.length, wo.sh.sv 5 ws 4 ws.length]) 5 1, .int .i64 120, .bool true], [])
  | _ => none
theorem ok : EntOk Try.prog ⟨19, R⟩ := by
  refine EntOk.cases iSharesOf.ok iSharesOf.ok fun args v new h => ?_
  unfold R at h
  split at h
  · rename_i ws m
    simp only [Option.some.injEq, Prod.mk.injEq, Bool.and_eq_true, decide_eq_true_eq] at h
    obtain ⟨⟨rfl, hs⟩, rfl, rfl⟩ := h
    left
    simp only [iSharesOf.R, hs, decide_true, Bool.and_self]
    rfl
  · rename_i ws m
    simp only [Option.some.injEq, Prod.mk.injEq, Bool.and_eq_true, decide_eq_true_eq] at h
    obtain ⟨⟨rfl, hs⟩, rfl, rfl⟩ := h
    left
    simp only [iSharesOf.R, hs, decide_true, Bool.and_self]
    rfl
  · rename_i ws m
    simp only [Option.some.injEq, Prod.mk.injEq, Bool.and_eq_true, decide_eq_true_eq] at h
    obtain ⟨⟨rfl, hs⟩, rfl, rfl⟩ := h
    left
    simp only [iSharesOf.R, hs, decide_true, Bool.and_self]
    rfl
  · rename_i ws m
    simp only [Option.some.injEq, Prod.mk.injEq, Bool.and_eq_true, decide_eq_true_eq] at h
    obtain ⟨⟨rfl, hs⟩, rfl, rfl⟩ := h
    left
    simp only [iSharesOf.R, hs, decide_true, Bool.and_self]
    rfl
  · rename_i ws m
    simp only [Option.some.injEq, Prod.mk.injEq, Bool.and_eq_true, decide_eq_true_eq] at h
    obtain ⟨⟨rfl, hs⟩, rfl, rfl⟩ := h
    left
    simp only [iSharesOf.R, hs, decide_true, Bool.and_self]
    rfl
  · cases h
end iSharesOfL


end Go.Proofs.Ytekadpddilfolaa.Ab
