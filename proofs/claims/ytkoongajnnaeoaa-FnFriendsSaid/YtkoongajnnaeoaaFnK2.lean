/-
  Functions: the most that can be given around: the program.
-/
import Derived.Test.YtkoongajnnaeoaaFnK1
import Derived.Test.YtkoongajnnaeoaaAbWk
namespace Go.Proofs.Ytkoongajnnaeoaa.Ab
open Go
set_option linter.unusedVariables false
set_option linter.unusedSimpArgs false
set_option maxRecDepth 100000

-- numbers
namespace gvs
/-- Rings of at most 8, each of at most 8. -/
structure QOk (Q : List (List Int)) : Prop where
  len : ∀ i, i < Q.length → (gr Q i).length ≤ 8
  ran : ∀ i, i < Q.length → ∀ x ∈ gr Q i, 0 ≤ x ∧ x < 8
theorem us_lt {q : List Int} (h : ∀ x ∈ q, 0 ≤ x ∧ x < 8) {u : Nat} (hu : u < 256) : ∀ k, k ≤ q.length → us.sv q u k < 256
  | 0, _ => hu
  | k + 1, hk => by
    have hg := h _ (gz_mem (show k < q.length by omega))
    exact up_lt _ (us_lt h hu k (by omega)) _ (by omega)
theorem su_lt {Q : List (List Int)} (g : QOk Q) {l : List Int} (hl : ∀ x ∈ l, 0 ≤ x ∧ x < (Q.length : Int)) : ∀ k, k ≤ l.length → su.sv Q l k < 256
  | 0, _ => by rw [su.sv]; decide
  | k + 1, hk => by
    have hg := hl _ (gz_mem (show k < l.length by omega))
    exact us_lt (g.ran _ (by omega)) (su_lt g hl k (by omega)) _ (Nat.le_refl _)
theorem sc_le {Q : List (List Int)} (g : QOk Q) {l : List Int} (hl : ∀ x ∈ l, 0 ≤ x ∧ x < (Q.length : Int)) : ∀ k, k ≤ l.length → sc.sv Q l k ≤ k * 8
  | 0, _ => Nat.le_refl _
  | k + 1, hk => by
    have hg := hl _ (gz_mem (show k < l.length by omega))
    have h1 := sc_le g hl k (by omega)
    have h2 := g.len (gz l k).toNat (by omega)
    rw [sc.sv]
    omega
theorem mb_ran {m n : Nat} : ∀ x ∈ mb.sv m n, 0 ≤ x ∧ x < (n : Int) := fun x hx => by
  obtain ⟨i, a, b, _⟩ := mb_mem n x hx
  omega
theorem pk_length (Q : List (List Int)) (l : List Int) : ∀ k, (pk.sv Q l k).length = k
  | 0 => rfl
  | k + 1 => by rw [pk.sv, List.length_append, pk_length Q l k]; rfl
theorem rs_qok {W : List (List Int)} (g : GV W) {L : Nat} (hL : L ≤ 4) : QOk (rs.sv W L) := by
  have h : ∀ i, i < (rs.sv W L).length → Rg W.length (gr (rs.sv W L) i) ∧ (gr (rs.sv W L) i).length ≤ L := fun i hi => by
    rw [gr_eq hi]
    exact rs_in g _ (List.getElem_mem hi)
  have h8 := g.h8
  exact ⟨fun i hi => by have := (h i hi).2; omega, fun i hi x hx => by have := (h i hi).1.ran x hx; omega⟩
def mo.sp (W : List (List Int)) (L : Nat) : Bool := decide ((rs.sv W L).length ≤ 16)
def best (W : List (List Int)) (L : Nat) : Nat × Nat := bs (rs.sv W L) (rs.sv W L).length (2 ^ (rs.sv W L).length)
def mc.sv (W : List (List Int)) (L : Nat) : Nat := bif mo.sp W L then (best W L).2 else 0
def mr.sv (W : List (List Int)) (L : Nat) : List (List Int) := bif mo.sp W L then Pk (rs.sv W L) (mb.sv (best W L).1 (rs.sv W L).length) else []
theorem pow_16 {n : Nat} (h : n ≤ 16) : 1 ≤ 2 ^ n ∧ 2 ^ n ≤ 65536 := ⟨Nat.one_le_two_pow, Nat.le_trans (Nat.pow_le_pow_right (by omega) h) (by decide)⟩
end gvs

namespace iMostGiven
def Rt : List AVal → Option (Bool × AVal × List Blk)
  | [.ro (.rows .i64 W) m 1, .int .i64 l] => some (decide (m = W.length) && (gvs.gv.sp W l && gvs.mo.sp W l.toNat), .tup [.int .i64 ((gvs.mc.sv W l.toNat : Nat) : Int), .ro (.rows .i64 (gvs.mr.sv W l.toNat)) (gvs.mr.sv W l.toNat).length 1, .bool true], [])
  | _ => none
def Rf : List AVal → Option (Bool × AVal × List Blk)
  | [.ro (.rows .i64 W) m 1, .int .i64 l] => some (decide (m = W.length) && (gvs.gv.sp W l && !gvs.mo.sp W l.toNat), .tup [.int .i64 0, .nils, .bool false], [])
  | _ => none
def hd : Nat → Head := fun i => bif eqN i 0 then ⟨[998, 7, 9, 10, 37, 38], none⟩ else bif eqN i 2 then ⟨[998, 7, 9, 10, 11, 12, 13, 14, 37, 38, 42, 43, 44], none⟩ else bif eqN i 4 then ⟨[998, 7, 9, 10, 11, 12, 13, 14, 16, 37, 38, 42, 43, 44, 51, 52, 53], none⟩ else ⟨[998, 7, 10, 19, 86, 87, 88], none⟩
noncomputable def L0 (f n : Nat) (s : State) := loopAt Try.prog (orcF [⟨86, layF members.R⟩] (orc [⟨52, iGiveRings.R⟩])) hd Dr.std 0 f (bodyOf Try.f26) 0 [true, true, true, true, false, true] (retK Try.prog [4, 5, 6] 0 (some 0)) n s
noncomputable def L2 (f n n2 : Nat) (s : State) := loopAt Try.prog (orcF [⟨86, layF members.R⟩] (orc [⟨52, iGiveRings.R⟩])) hd Dr.std 0 f (bodyAt (bodyOf Try.f26) [true, true, true, true, false, true]) (curAt (bodyOf Try.f26) 0 [true, true, true, true, false, true]) [true, true, false, true, true, false, true] (iterK (normE 0 (hd (curAt (bodyOf Try.f26) 0 [true, true, true, true, false, true]))) (L0 f n) (contAt Try.prog (orcF [⟨86, layF members.R⟩] (orc [⟨52, iGiveRings.R⟩])) hd Dr.std 0 f (bodyOf Try.f26) 0 [true, true, true, true, false, true] (retK Try.prog [4, 5, 6] 0 (some 0)))) n2 s
noncomputable def L4 (f n n2 n3 : Nat) (s : State) := loopAt Try.prog (orcF [⟨86, layF members.R⟩] (orc [⟨52, iGiveRings.R⟩])) hd Dr.std 0 f (bodyAt (bodyAt (bodyOf Try.f26) [true, true, true, true, false, true]) [true, true, false, true, true, false, true]) (curAt (bodyAt (bodyOf Try.f26) [true, true, true, true, false, true]) (curAt (bodyOf Try.f26) 0 [true, true, true, true, false, true]) [true, true, false, true, true, false, true]) [true, true, false, true, false, true] (iterK (normE 0 (hd (curAt (bodyAt (bodyOf Try.f26) [true, true, true, true, false, true]) (curAt (bodyOf Try.f26) 0 [true, true, true, true, false, true]) [true, true, false, true, true, false, true]))) (L2 f n n2) (contAt Try.prog (orcF [⟨86, layF members.R⟩] (orc [⟨52, iGiveRings.R⟩])) hd Dr.std 0 f (bodyAt (bodyOf Try.f26) [true, true, true, true, false, true]) (curAt (bodyOf Try.f26) 0 [true, true, true, true, false, true]) [true, true, false, true, true, false, true] (iterK (normE 0 (hd (curAt (bodyOf Try.f26) 0 [true, true, true, true, false, true]))) (L0 f n) (contAt Try.prog (orcF [⟨86, layF members.R⟩] (orc [⟨52, iGiveRings.R⟩])) hd Dr.std 0 f (bodyOf Try.f26) 0 [true, true, true, true, false, true] (retK Try.prog [4, 5, 6] 0 (some 0)))))) n3 s
noncomputable def L6 (f n : Nat) (s : State) := loopAt Try.prog (orcF [⟨86, layF members.R⟩] (orc [⟨52, iGiveRings.R⟩])) hd Dr.std 0 f (bodyOf Try.f26) 0 [true, true, true, true, true, true, false, true] (retK Try.prog [4, 5, 6] 0 (some 0)) n s
theorem start (W : List (List Int)) (l : Int) (f : Nat) :
  runFn Try.prog (orcF [⟨86, layF members.R⟩] (orc [⟨52, iGiveRings.R⟩])) hd Dr.std (some 0) f (bodyOf Try.f26) 102 [4, 5, 6] [.ro (.rows .i64 W) W.length 1, .int .i64 l] []
  = (bif decide (W.length = W.length) && gvs.gv.sp W l && (true && (true && true) || false && true && true) then bif decide ((16 : Int) < (↑(gvs.rs.sv W l.toNat).length : Int)) then some (AVal.tup [AVal.int IntKind.i64 (0 : Int), AVal.nils, AVal.bool false], []) else bif decide ((0 : Int) ≤ (↑(gvs.rs.sv W l.toNat).length : Int)) then L0 f f (mkS (102 : Nat) [((7 : Nat), AVal.ro (Cont.rows IntKind.i64 (gvs.rs.sv W l.toNat)) (gvs.rs.sv W l.toNat).length (1 : Nat)), ((9 : Nat), AVal.int IntKind.i64 (0 : Int)), ((10 : Nat), AVal.int IntKind.i64 (0 : Int)), ((37 : Nat), AVal.int IntKind.i64 (ishl.sv IntKind.i64 (1 : Int) (↑(gvs.rs.sv W l.toNat).length : Int))), ((38 : Nat), AVal.int IntKind.i64 (0 : Int))] []) else none else none) := by kernel_rfl
theorem round0 (Q : List (List Int)) (b c z m : Int) (f n : Nat) :
  L0 f (n + 1) (mkS 102 [(7, .ro (.rows .i64 Q) Q.length 1), (9, .int .i64 b), (10, .int .i64 c), (37, .int .i64 z), (38, .int .i64 m)] [])
  = (bif decide (m < z) then bif decide ((0 : Int) ≤ m ∧ m < (65536 : Int)) && (true && (true && true)) then L2 f n f (mkS (102 : Nat) [((7 : Nat), AVal.ro (Cont.rows IntKind.i64 Q) Q.length (1 : Nat)), ((9 : Nat), AVal.int IntKind.i64 b), ((10 : Nat), AVal.int IntKind.i64 c), ((11 : Nat), AVal.int IntKind.i64 m), ((12 : Nat), AVal.int IntKind.i64 (0 : Int)), ((13 : Nat), AVal.int IntKind.i64 (0 : Int)), ((14 : Nat), AVal.bool true), ((37 : Nat), AVal.int IntKind.i64 z), ((38 : Nat), AVal.int IntKind.i64 m), ((42 : Nat), AVal.ro (Cont.ints IntKind.i64 (gvs.mb.sv m.toNat (gvs.ln.sv m.toNat))) (gvs.mb.sv m.toNat (gvs.ln.sv m.toNat)).length (1 : Nat)), ((43 : Nat), AVal.int IntKind.i64 (↑(gvs.mb.sv m.toNat (gvs.ln.sv m.toNat)).length : Int)), ((44 : Nat), AVal.int IntKind.i64 (0 : Int))] []) else none else bif decide ((0 : Int) ≤ b ∧ b < (65536 : Int)) && (true && (true && true)) then L6 f f (mkS (102 : Nat) [((7 : Nat), AVal.ro (Cont.rows IntKind.i64 Q) Q.length (1 : Nat)), ((10 : Nat), AVal.int IntKind.i64 c), ((19 : Nat), AVal.own (0 : Nat) (0 : Nat) (0 : Nat) (0 : Nat) (1 : Nat)), ((86 : Nat), AVal.ro (Cont.ints IntKind.i64 (gvs.mb.sv b.toNat (gvs.ln.sv b.toNat))) (gvs.mb.sv b.toNat (gvs.ln.sv b.toNat)).length (1 : Nat)), ((87 : Nat), AVal.int IntKind.i64 (↑(gvs.mb.sv b.toNat (gvs.ln.sv b.toNat)).length : Int)), ((88 : Nat), AVal.int IntKind.i64 (0 : Int))] [{ c := BC.typ (Cont.rows IntKind.i64 (List.replicate (0 : Nat) [])), ver := (0 : Nat) }]) else none) := by kernel_rfl
theorem round2 (Q : List (List Int)) (b c z m : Int) (l : List Int) (u n : Int) (ok : Bool) (k f n0 n2 : Nat) :
  L2 f n0 (n2 + 1) (mkS 102 [(7, .ro (.rows .i64 Q) Q.length 1), (9, .int .i64 b), (10, .int .i64 c), (11, .int .i64 m), (12, .int .i64 u), (13, .int .i64 n), (14, .bool ok), (37, .int .i64 z), (38, .int .i64 m), (42, .ro (.ints .i64 l) l.length 1), (43, .int .i64 ((l.length : Nat) : Int)), (44, .int .i64 ((k : Nat) : Int))] [])
  = (bif decide ((↑k : Int) < (↑l.length : Int)) then bif true && (decide ((0 : Int) ≤ (↑k : Int)) && decide ((↑k : Int) < (↑l.length : Int))) then bif decide ((↑k : Int).toNat < l.length) then bif true && (decide ((0 : Int) ≤ gz l (↑k : Int).toNat) && decide (gz l (↑k : Int).toNat < (↑Q.length : Int))) then bif decide ((gz l (↑k : Int).toNat).toNat < Q.length) then L4 f n0 n2 f (mkS (102 : Nat) [((7 : Nat), AVal.ro (Cont.rows IntKind.i64 Q) Q.length (1 : Nat)), ((9 : Nat), AVal.int IntKind.i64 b), ((10 : Nat), AVal.int IntKind.i64 c), ((11 : Nat), AVal.int IntKind.i64 m), ((12 : Nat), AVal.int IntKind.i64 u), ((13 : Nat), AVal.int IntKind.i64 n), ((14 : Nat), AVal.bool ok), ((16 : Nat), AVal.int IntKind.i64 (gz l (↑k : Int).toNat)), ((37 : Nat), AVal.int IntKind.i64 z), ((38 : Nat), AVal.int IntKind.i64 m), ((42 : Nat), AVal.ro (Cont.ints IntKind.i64 l) l.length (1 : Nat)), ((43 : Nat), AVal.int IntKind.i64 (↑l.length : Int)), ((44 : Nat), AVal.int IntKind.i64 (↑k : Int)), ((51 : Nat), AVal.ro (Cont.ints IntKind.i64 (gr Q (gz l (↑k : Int).toNat).toNat)) (gr Q (gz l (↑k : Int).toNat).toNat).length (1 : Nat)), ((52 : Nat), AVal.int IntKind.i64 (↑(gr Q (gz l (↑k : Int).toNat).toNat).length : Int)), ((53 : Nat), AVal.int IntKind.i64 (0 : Int))] []) else none else none else none else none else bif ok then bif decide (c < n) then L0 f n0 (mkS (102 : Nat) [((7 : Nat), AVal.ro (Cont.rows IntKind.i64 Q) Q.length (1 : Nat)), ((9 : Nat), AVal.int IntKind.i64 m), ((10 : Nat), AVal.int IntKind.i64 n), ((37 : Nat), AVal.int IntKind.i64 z), ((38 : Nat), AVal.int IntKind.i64 (IntKind.i64.wrap (m + (1 : Int))))] []) else L0 f n0 (mkS (102 : Nat) [((7 : Nat), AVal.ro (Cont.rows IntKind.i64 Q) Q.length (1 : Nat)), ((9 : Nat), AVal.int IntKind.i64 b), ((10 : Nat), AVal.int IntKind.i64 c), ((37 : Nat), AVal.int IntKind.i64 z), ((38 : Nat), AVal.int IntKind.i64 (IntKind.i64.wrap (m + (1 : Int))))] []) else L0 f n0 (mkS (102 : Nat) [((7 : Nat), AVal.ro (Cont.rows IntKind.i64 Q) Q.length (1 : Nat)), ((9 : Nat), AVal.int IntKind.i64 b), ((10 : Nat), AVal.int IntKind.i64 c), ((37 : Nat), AVal.int IntKind.i64 z), ((38 : Nat), AVal.int IntKind.i64 (IntKind.i64.wrap (m + (1 : Int))))] [])) := by kernel_rfl
theorem round4 (Q : List (List Int)) (b c z m : Int) (l r : List Int) (u n i : Int) (ok : Bool) (k j f n0 n2 n4 : Nat) :
  L4 f n0 n2 (n4 + 1) (mkS 102 [(7, .ro (.rows .i64 Q) Q.length 1), (9, .int .i64 b), (10, .int .i64 c), (11, .int .i64 m), (12, .int .i64 u), (13, .int .i64 n), (14, .bool ok), (16, .int .i64 i), (37, .int .i64 z), (38, .int .i64 m), (42, .ro (.ints .i64 l) l.length 1), (43, .int .i64 ((l.length : Nat) : Int)), (44, .int .i64 ((k : Nat) : Int)), (51, .ro (.ints .i64 r) r.length 1), (52, .int .i64 ((r.length : Nat) : Int)), (53, .int .i64 ((j : Nat) : Int))] [])
  = (bif decide ((↑j : Int) < (↑r.length : Int)) then bif true && (decide ((0 : Int) ≤ (↑j : Int)) && decide ((↑j : Int) < (↑r.length : Int))) then bif decide ((↑j : Int).toNat < r.length) then bif decide ((0 : Int) ≤ gz r (↑j : Int).toNat) then bif iand.sv IntKind.i64 (ishr.sv IntKind.i64 u (gz r (↑j : Int).toNat)) (1 : Int) == (1 : Int) then bif decide ((0 : Int) ≤ gz r (↑j : Int).toNat) then L4 f n0 n2 n4 (mkS (102 : Nat) [((7 : Nat), AVal.ro (Cont.rows IntKind.i64 Q) Q.length (1 : Nat)), ((9 : Nat), AVal.int IntKind.i64 b), ((10 : Nat), AVal.int IntKind.i64 c), ((11 : Nat), AVal.int IntKind.i64 m), ((12 : Nat), AVal.int IntKind.i64 (ior.sv IntKind.i64 u (ishl.sv IntKind.i64 (1 : Int) (gz r (↑j : Int).toNat)))), ((13 : Nat), AVal.int IntKind.i64 n), ((14 : Nat), AVal.bool false), ((16 : Nat), AVal.int IntKind.i64 i), ((37 : Nat), AVal.int IntKind.i64 z), ((38 : Nat), AVal.int IntKind.i64 m), ((42 : Nat), AVal.ro (Cont.ints IntKind.i64 l) l.length (1 : Nat)), ((43 : Nat), AVal.int IntKind.i64 (↑l.length : Int)), ((44 : Nat), AVal.int IntKind.i64 (↑k : Int)), ((51 : Nat), AVal.ro (Cont.ints IntKind.i64 r) r.length (1 : Nat)), ((52 : Nat), AVal.int IntKind.i64 (↑r.length : Int)), ((53 : Nat), AVal.int IntKind.i64 (IntKind.i64.wrap ((↑j : Int) + (1 : Int))))] []) else none else bif decide ((0 : Int) ≤ gz r (↑j : Int).toNat) then L4 f n0 n2 n4 (mkS (102 : Nat) [((7 : Nat), AVal.ro (Cont.rows IntKind.i64 Q) Q.length (1 : Nat)), ((9 : Nat), AVal.int IntKind.i64 b), ((10 : Nat), AVal.int IntKind.i64 c), ((11 : Nat), AVal.int IntKind.i64 m), ((12 : Nat), AVal.int IntKind.i64 (ior.sv IntKind.i64 u (ishl.sv IntKind.i64 (1 : Int) (gz r (↑j : Int).toNat)))), ((13 : Nat), AVal.int IntKind.i64 n), ((14 : Nat), AVal.bool ok), ((16 : Nat), AVal.int IntKind.i64 i), ((37 : Nat), AVal.int IntKind.i64 z), ((38 : Nat), AVal.int IntKind.i64 m), ((42 : Nat), AVal.ro (Cont.ints IntKind.i64 l) l.length (1 : Nat)), ((43 : Nat), AVal.int IntKind.i64 (↑l.length : Int)), ((44 : Nat), AVal.int IntKind.i64 (↑k : Int)), ((51 : Nat), AVal.ro (Cont.ints IntKind.i64 r) r.length (1 : Nat)), ((52 : Nat), AVal.int IntKind.i64 (↑r.length : Int)), ((53 : Nat), AVal.int IntKind.i64 (IntKind.i64.wrap ((↑j : Int) + (1 : Int))))] []) else none else none else none else none else bif true && (decide ((0 : Int) ≤ i) && decide (i < (↑Q.length : Int))) then bif decide (i.toNat < Q.length) then L2 f n0 n2 (mkS (102 : Nat) [((7 : Nat), AVal.ro (Cont.rows IntKind.i64 Q) Q.length (1 : Nat)), ((9 : Nat), AVal.int IntKind.i64 b), ((10 : Nat), AVal.int IntKind.i64 c), ((11 : Nat), AVal.int IntKind.i64 m), ((12 : Nat), AVal.int IntKind.i64 u), ((13 : Nat), AVal.int IntKind.i64 (IntKind.i64.wrap (n + (↑(gr Q i.toNat).length : Int)))), ((14 : Nat), AVal.bool ok), ((37 : Nat), AVal.int IntKind.i64 z), ((38 : Nat), AVal.int IntKind.i64 m), ((42 : Nat), AVal.ro (Cont.ints IntKind.i64 l) l.length (1 : Nat)), ((43 : Nat), AVal.int IntKind.i64 (↑l.length : Int)), ((44 : Nat), AVal.int IntKind.i64 (IntKind.i64.wrap ((↑k : Int) + (1 : Int))))] []) else none else none) := by kernel_rfl
theorem round6 (Q o : List (List Int)) (l : List Int) (c : Int) (q k f n : Nat) :
  L6 f (n + 1) (mkS 102 [(7, .ro (.rows .i64 Q) Q.length 1), (10, .int .i64 c), (19, .own 0 0 q 0 1), (86, .ro (.ints .i64 l) l.length 1), (87, .int .i64 ((l.length : Nat) : Int)), (88, .int .i64 ((k : Nat) : Int))] [⟨.typ (.rows .i64 o), 0⟩])
  = (bif decide ((↑k : Int) < (↑l.length : Int)) then bif true && (decide ((0 : Int) ≤ (↑k : Int)) && decide ((↑k : Int) < (↑l.length : Int))) then bif decide ((↑k : Int).toNat < l.length) then bif true && (decide ((0 : Int) ≤ gz l (↑k : Int).toNat) && decide (gz l (↑k : Int).toNat < (↑Q.length : Int))) then bif decide ((gz l (↑k : Int).toNat).toNat < Q.length) then bif (1 : Nat) == (1 : Nat) && (1 : Nat) == (1 : Nat) && (true && (true && true) && (true && true && (decide (q + (List.take (1 : Nat) (List.drop (0 : Nat) ((List.replicate (1 : Nat) []).set (0 : Nat) (List.take (gr Q (gz l (↑k : Int).toNat).toNat).length (gr Q (gz l (↑k : Int).toNat).toNat))))).length ≤ (4611686018427387904 : Nat)) && decide ((q + (List.take (1 : Nat) (List.drop (0 : Nat) ((List.replicate (1 : Nat) []).set (0 : Nat) (List.take (gr Q (gz l (↑k : Int).toNat).toNat).length (gr Q (gz l (↑k : Int).toNat).toNat))))).length) * (24 : Nat) ≤ (140737488355328 : Nat))))) then L6 f n (mkS (102 : Nat) [((7 : Nat), AVal.ro (Cont.rows IntKind.i64 Q) Q.length (1 : Nat)), ((10 : Nat), AVal.int IntKind.i64 c), ((19 : Nat), AVal.own (0 : Nat) (0 : Nat) (q + (List.take (1 : Nat) (List.drop (0 : Nat) ((List.replicate (1 : Nat) []).set (0 : Nat) (List.take (gr Q (gz l (↑k : Int).toNat).toNat).length (gr Q (gz l (↑k : Int).toNat).toNat))))).length) (0 : Nat) (1 : Nat)), ((86 : Nat), AVal.ro (Cont.ints IntKind.i64 l) l.length (1 : Nat)), ((87 : Nat), AVal.int IntKind.i64 (↑l.length : Int)), ((88 : Nat), AVal.int IntKind.i64 (IntKind.i64.wrap ((↑k : Int) + (1 : Int))))] [{ c := BC.typ (Cont.rows IntKind.i64 (List.take q o ++ List.take (1 : Nat) (List.drop (0 : Nat) ((List.replicate (1 : Nat) []).set (0 : Nat) (List.take (gr Q (gz l (↑k : Int).toNat).toNat).length (gr Q (gz l (↑k : Int).toNat).toNat)))))), ver := (0 : Nat) }]) else none else none else none else none else none else some (AVal.tup [AVal.int IntKind.i64 c, AVal.ro (Cont.rows IntKind.i64 o) q (1 : Nat), AVal.bool true], [])) := by kernel_rfl
theorem loop4 (Q : List (List Int)) (l r : List Int) (b c z m u0 n k f n0 n2 : Nat) (x : Int) (okb : Bool) (hx : 0 ≤ x ∧ x < (Q.length : Int)) (er : gr Q x.toNat = r) (h8 : r.length ≤ 8) (hin : ∀ y ∈ r, 0 ≤ y ∧ y < 8) (hu : u0 < 256) (hn : n ≤ 1000) (hl : l.length ≤ 16) (hk : k < l.length) : ∀ (d j n4 : Nat), j + d = r.length → d < n4 →
    L4 f n0 n2 n4 (mkS 102 [(7, .ro (.rows .i64 Q) Q.length 1), (9, .int .i64 ((b : Nat) : Int)), (10, .int .i64 ((c : Nat) : Int)), (11, .int .i64 ((m : Nat) : Int)), (12, .int .i64 (((gvs.us.sv r u0 j) : Nat) : Int)), (13, .int .i64 ((n : Nat) : Int)), (14, .bool (okb && gvs.un.sp r u0 j)), (16, .int .i64 x), (37, .int .i64 ((z : Nat) : Int)), (38, .int .i64 ((m : Nat) : Int)), (42, .ro (.ints .i64 l) l.length 1), (43, .int .i64 ((l.length : Nat) : Int)), (44, .int .i64 ((k : Nat) : Int)), (51, .ro (.ints .i64 r) r.length 1), (52, .int .i64 ((r.length : Nat) : Int)), (53, .int .i64 ((j : Nat) : Int))] []) = L2 f n0 n2 (mkS 102 [(7, .ro (.rows .i64 Q) Q.length 1), (9, .int .i64 ((b : Nat) : Int)), (10, .int .i64 ((c : Nat) : Int)), (11, .int .i64 ((m : Nat) : Int)), (12, .int .i64 (((gvs.us.sv r u0 r.length) : Nat) : Int)), (13, .int .i64 (((n + r.length) : Nat) : Int)), (14, .bool (okb && gvs.un.sp r u0 r.length)), (37, .int .i64 ((z : Nat) : Int)), (38, .int .i64 ((m : Nat) : Int)), (42, .ro (.ints .i64 l) l.length 1), (43, .int .i64 ((l.length : Nat) : Int)), (44, .int .i64 (((k + 1) : Nat) : Int))] []) := by
  intro d
  induction d with
  | zero =>
    intro j n4 hj hn4
    obtain ⟨n4, rfl⟩ : ∃ q, n4 = q + 1 := ⟨n4 - 1, by omega⟩
    obtain rfl : j = r.length := by omega
    rw [round4]
    simp -implicitDefEqProofs (disch := omega) only [er, take_one, set_one, decide_eq_true, decide_eq_false, IntWalk.i64_in, beqT, beqF, bneT, bneF, nat_succ, ← Int.natCast_mul, ← Int.natCast_add, Int.toNat_natCast, Int.zero_mul, Int.zero_add, Int.add_zero, Nat.zero_add, Nat.add_zero, Nat.zero_mul, List.length_singleton, List.length_append, List.length_nil, List.length_cons, List.take_length, List.drop_zero, List.replicate_zero, List.take_nil, List.nil_append, Nat.reduceBEq, Nat.reduceMul, Nat.reduceLeDiff, eq_self, and_self, true_and, and_true, decide_true, decide_false, Bool.and_self, Bool.or_self, Bool.and_true, Bool.true_and, Bool.and_false, Bool.false_and, Bool.or_true, Bool.true_or, Bool.or_false, Bool.false_or, Bool.not_true, Bool.not_false, cond_true, cond_false]
  | succ d ih =>
    intro j n4 hj hn4
    obtain ⟨n4, rfl⟩ : ∃ q, n4 = q + 1 := ⟨n4 - 1, by omega⟩
    have g := ih (j + 1) n4 (by omega) (by omega)
    have hy := hin _ (gz_mem (show j < r.length by omega))
    obtain ⟨y, ey⟩ : ∃ y : Nat, gz r j = y := ⟨(gz r j).toNat, by omega⟩
    have hu2 := gvs.us_lt hin hu j (by omega)
    have u1 := gvs.shr_and (k := gvs.us.sv r u0 j) (i := y) (by omega) (by omega)
    have u2 := gvs.shl_one (i := y) (by omega)
    have u3 := gvs.or_shl _ hu2 y (by omega)
    rw [gvs.us.sv, gvs.un.sp, ey, Int.toNat_natCast] at g
    rw [round4]
    cases ho : gvs.off.sp (gvs.us.sv r u0 j) y
    · rw [ho, cond_false] at u1
      rw [ho, Bool.and_false, Bool.and_false] at g
      simp -implicitDefEqProofs (disch := omega) only [ey, u1, u2, u3, take_one, set_one, decide_eq_true, decide_eq_false, IntWalk.i64_in, beqT, beqF, bneT, bneF, nat_succ, ← Int.natCast_mul, ← Int.natCast_add, Int.toNat_natCast, Int.zero_mul, Int.zero_add, Int.add_zero, Nat.zero_add, Nat.add_zero, Nat.zero_mul, List.length_singleton, List.length_append, List.length_nil, List.length_cons, List.take_length, List.drop_zero, List.replicate_zero, List.take_nil, List.nil_append, Nat.reduceBEq, Nat.reduceMul, Nat.reduceLeDiff, eq_self, and_self, true_and, and_true, decide_true, decide_false, Bool.and_self, Bool.or_self, Bool.and_true, Bool.true_and, Bool.and_false, Bool.false_and, Bool.or_true, Bool.true_or, Bool.or_false, Bool.false_or, Bool.not_true, Bool.not_false, cond_true, cond_false]
      exact g
    · rw [ho, cond_true] at u1
      rw [ho, Bool.and_true] at g
      simp -implicitDefEqProofs (disch := omega) only [ey, u1, u2, u3, take_one, set_one, decide_eq_true, decide_eq_false, IntWalk.i64_in, beqT, beqF, bneT, bneF, nat_succ, ← Int.natCast_mul, ← Int.natCast_add, Int.toNat_natCast, Int.zero_mul, Int.zero_add, Int.add_zero, Nat.zero_add, Nat.add_zero, Nat.zero_mul, List.length_singleton, List.length_append, List.length_nil, List.length_cons, List.take_length, List.drop_zero, List.replicate_zero, List.take_nil, List.nil_append, Nat.reduceBEq, Nat.reduceMul, Nat.reduceLeDiff, eq_self, and_self, true_and, and_true, decide_true, decide_false, Bool.and_self, Bool.or_self, Bool.and_true, Bool.true_and, Bool.and_false, Bool.false_and, Bool.or_true, Bool.true_or, Bool.or_false, Bool.false_or, Bool.not_true, Bool.not_false, cond_true, cond_false]
      exact g
theorem loop2 (Q : List (List Int)) (l : List Int) (b c z m f n0 : Nat) (hf : 100 < f) (g : gvs.QOk Q) (hl : l.length ≤ 16) (hr : ∀ x ∈ l, 0 ≤ x ∧ x < (Q.length : Int)) (hm : m < 65536) (hc : c ≤ 1000) : ∀ (d k n2 : Nat), k + d = l.length → d < n2 →
    L2 f n0 n2 (mkS 102 [(7, .ro (.rows .i64 Q) Q.length 1), (9, .int .i64 ((b : Nat) : Int)), (10, .int .i64 ((c : Nat) : Int)), (11, .int .i64 ((m : Nat) : Int)), (12, .int .i64 (((gvs.su.sv Q l k) : Nat) : Int)), (13, .int .i64 (((gvs.sc.sv Q l k) : Nat) : Int)), (14, .bool (gvs.sk.sp Q l k)), (37, .int .i64 ((z : Nat) : Int)), (38, .int .i64 ((m : Nat) : Int)), (42, .ro (.ints .i64 l) l.length 1), (43, .int .i64 ((l.length : Nat) : Int)), (44, .int .i64 ((k : Nat) : Int))] []) = L0 f n0 (mkS 102 [(7, .ro (.rows .i64 Q) Q.length 1), (9, .int .i64 (((bif gvs.Sk Q l && decide (c < gvs.Sc Q l) then m else b) : Nat) : Int)), (10, .int .i64 (((bif gvs.Sk Q l && decide (c < gvs.Sc Q l) then gvs.Sc Q l else c) : Nat) : Int)), (37, .int .i64 ((z : Nat) : Int)), (38, .int .i64 (((m + 1) : Nat) : Int))] []) := by
  intro d
  induction d with
  | zero =>
    intro k n2 hk hn2
    obtain ⟨n2, rfl⟩ : ∃ q, n2 = q + 1 := ⟨n2 - 1, by omega⟩
    obtain rfl : k = l.length := by omega
    have e1 : gvs.sk.sp Q l l.length = gvs.Sk Q l := rfl
    have e2 : gvs.sc.sv Q l l.length = gvs.Sc Q l := rfl
    rw [round2, e1, e2]
    cases gvs.Sk Q l
    · simp -implicitDefEqProofs (disch := omega) only [take_one, set_one, decide_eq_true, decide_eq_false, IntWalk.i64_in, beqT, beqF, bneT, bneF, nat_succ, ← Int.natCast_mul, ← Int.natCast_add, Int.toNat_natCast, Int.zero_mul, Int.zero_add, Int.add_zero, Nat.zero_add, Nat.add_zero, Nat.zero_mul, List.length_singleton, List.length_append, List.length_nil, List.length_cons, List.take_length, List.drop_zero, List.replicate_zero, List.take_nil, List.nil_append, Nat.reduceBEq, Nat.reduceMul, Nat.reduceLeDiff, eq_self, and_self, true_and, and_true, decide_true, decide_false, Bool.and_self, Bool.or_self, Bool.and_true, Bool.true_and, Bool.and_false, Bool.false_and, Bool.or_true, Bool.true_or, Bool.or_false, Bool.false_or, Bool.not_true, Bool.not_false, cond_true, cond_false]
    · by_cases cc : c < gvs.Sc Q l
      · simp -implicitDefEqProofs (disch := omega) only [take_one, set_one, decide_eq_true, decide_eq_false, IntWalk.i64_in, beqT, beqF, bneT, bneF, nat_succ, ← Int.natCast_mul, ← Int.natCast_add, Int.toNat_natCast, Int.zero_mul, Int.zero_add, Int.add_zero, Nat.zero_add, Nat.add_zero, Nat.zero_mul, List.length_singleton, List.length_append, List.length_nil, List.length_cons, List.take_length, List.drop_zero, List.replicate_zero, List.take_nil, List.nil_append, Nat.reduceBEq, Nat.reduceMul, Nat.reduceLeDiff, eq_self, and_self, true_and, and_true, decide_true, decide_false, Bool.and_self, Bool.or_self, Bool.and_true, Bool.true_and, Bool.and_false, Bool.false_and, Bool.or_true, Bool.true_or, Bool.or_false, Bool.false_or, Bool.not_true, Bool.not_false, cond_true, cond_false]
      · simp -implicitDefEqProofs (disch := omega) only [take_one, set_one, decide_eq_true, decide_eq_false, IntWalk.i64_in, beqT, beqF, bneT, bneF, nat_succ, ← Int.natCast_mul, ← Int.natCast_add, Int.toNat_natCast, Int.zero_mul, Int.zero_add, Int.add_zero, Nat.zero_add, Nat.add_zero, Nat.zero_mul, List.length_singleton, List.length_append, List.length_nil, List.length_cons, List.take_length, List.drop_zero, List.replicate_zero, List.take_nil, List.nil_append, Nat.reduceBEq, Nat.reduceMul, Nat.reduceLeDiff, eq_self, and_self, true_and, and_true, decide_true, decide_false, Bool.and_self, Bool.or_self, Bool.and_true, Bool.true_and, Bool.and_false, Bool.false_and, Bool.or_true, Bool.true_or, Bool.or_false, Bool.false_or, Bool.not_true, Bool.not_false, cond_true, cond_false]
  | succ d ih =>
    intro k n2 hk hn2
    obtain ⟨n2, rfl⟩ : ∃ q, n2 = q + 1 := ⟨n2 - 1, by omega⟩
    have hg := hr _ (gz_mem (show k < l.length by omega))
    have h1 := gvs.sc_le g hr k (by omega)
    have h2 := gvs.su_lt g hr k (by omega)
    have g8 := g.len (gz l k).toNat (by omega)
    have g2 := loop4 Q l (gr Q (gz l k).toNat) b c z m (gvs.su.sv Q l k) (gvs.sc.sv Q l k) k f n0 n2 (gz l k) (gvs.sk.sp Q l k) hg rfl g8 (g.ran _ (by omega)) h2 (by omega) hl (by omega) (gr Q (gz l k).toNat).length 0 f (by omega) (by omega)
    have g3 := ih (k + 1) n2 (by omega) (by omega)
    rw [gvs.su.sv, gvs.sc.sv, gvs.sk.sp] at g3
    rw [gvs.us.sv, gvs.un.sp, Bool.and_true] at g2
    rw [round2]
    simp -implicitDefEqProofs (disch := omega) only [take_one, set_one, decide_eq_true, decide_eq_false, IntWalk.i64_in, beqT, beqF, bneT, bneF, nat_succ, ← Int.natCast_mul, ← Int.natCast_add, Int.toNat_natCast, Int.zero_mul, Int.zero_add, Int.add_zero, Nat.zero_add, Nat.add_zero, Nat.zero_mul, List.length_singleton, List.length_append, List.length_nil, List.length_cons, List.take_length, List.drop_zero, List.replicate_zero, List.take_nil, List.nil_append, Nat.reduceBEq, Nat.reduceMul, Nat.reduceLeDiff, eq_self, and_self, true_and, and_true, decide_true, decide_false, Bool.and_self, Bool.or_self, Bool.and_true, Bool.true_and, Bool.and_false, Bool.false_and, Bool.or_true, Bool.true_or, Bool.or_false, Bool.false_or, Bool.not_true, Bool.not_false, cond_true, cond_false]
    exact g2.trans g3
theorem loop6 (Q : List (List Int)) (l : List Int) (c f : Nat) (g : gvs.QOk Q) (hl : l.length ≤ 16) (hr : ∀ x ∈ l, 0 ≤ x ∧ x < (Q.length : Int)) (Z : List (List Int)) (hZ : gvs.Pk Q l = Z) : ∀ (d k n : Nat), k + d = l.length → d < n →
    L6 f n (mkS 102 [(7, .ro (.rows .i64 Q) Q.length 1), (10, .int .i64 ((c : Nat) : Int)), (19, .own 0 0 k 0 1), (86, .ro (.ints .i64 l) l.length 1), (87, .int .i64 ((l.length : Nat) : Int)), (88, .int .i64 ((k : Nat) : Int))] [⟨.typ (.rows .i64 (gvs.pk.sv Q l k)), 0⟩]) = some (.tup [.int .i64 ((c : Nat) : Int), .ro (.rows .i64 Z) Z.length 1, .bool true], []) := by
  intro d
  induction d with
  | zero =>
    intro k n hk hn
    obtain ⟨n, rfl⟩ : ∃ q, n = q + 1 := ⟨n - 1, by omega⟩
    obtain rfl : k = l.length := by omega
    have e : gvs.pk.sv Q l l.length = Z := hZ
    have e2 : Z.length = l.length := by rw [← e, gvs.pk_length]
    rw [round6, e, e2]
    simp -implicitDefEqProofs (disch := omega) only [take_one, set_one, decide_eq_true, decide_eq_false, IntWalk.i64_in, beqT, beqF, bneT, bneF, nat_succ, ← Int.natCast_mul, ← Int.natCast_add, Int.toNat_natCast, Int.zero_mul, Int.zero_add, Int.add_zero, Nat.zero_add, Nat.add_zero, Nat.zero_mul, List.length_singleton, List.length_append, List.length_nil, List.length_cons, List.take_length, List.drop_zero, List.replicate_zero, List.take_nil, List.nil_append, Nat.reduceBEq, Nat.reduceMul, Nat.reduceLeDiff, eq_self, and_self, true_and, and_true, decide_true, decide_false, Bool.and_self, Bool.or_self, Bool.and_true, Bool.true_and, Bool.and_false, Bool.false_and, Bool.or_true, Bool.true_or, Bool.or_false, Bool.false_or, Bool.not_true, Bool.not_false, cond_true, cond_false]
  | succ d ih =>
    intro k n hk hn
    obtain ⟨n, rfl⟩ : ∃ q, n = q + 1 := ⟨n - 1, by omega⟩
    have hg := hr _ (gz_mem (show k < l.length by omega))
    have g3 := ih (k + 1) n (by omega) (by omega)
    have pl := gvs.pk_length Q l k
    have tp : (gvs.pk.sv Q l k).take k = gvs.pk.sv Q l k := List.take_of_length_le (by omega)
    have s1 : (List.replicate 1 ([] : List Int)).set 0 (gr Q (gz l k).toNat) = [gr Q (gz l k).toNat] := rfl
    have s2 : [gr Q (gz l k).toNat].take 1 = [gr Q (gz l k).toNat] := rfl
    rw [gvs.pk.sv] at g3
    rw [round6]
    simp -implicitDefEqProofs (disch := omega) only [tp, s1, s2, take_one, set_one, decide_eq_true, decide_eq_false, IntWalk.i64_in, beqT, beqF, bneT, bneF, nat_succ, ← Int.natCast_mul, ← Int.natCast_add, Int.toNat_natCast, Int.zero_mul, Int.zero_add, Int.add_zero, Nat.zero_add, Nat.add_zero, Nat.zero_mul, List.length_singleton, List.length_append, List.length_nil, List.length_cons, List.take_length, List.drop_zero, List.replicate_zero, List.take_nil, List.nil_append, Nat.reduceBEq, Nat.reduceMul, Nat.reduceLeDiff, eq_self, and_self, true_and, and_true, decide_true, decide_false, Bool.and_self, Bool.or_self, Bool.and_true, Bool.true_and, Bool.and_false, Bool.false_and, Bool.or_true, Bool.true_or, Bool.or_false, Bool.false_or, Bool.not_true, Bool.not_false, cond_true, cond_false]
    exact g3
theorem loop0 (Q : List (List Int)) (f : Nat) (hf : 100 < f) (g : gvs.QOk Q) (h16 : Q.length ≤ 16) (C : Nat) (Z : List (List Int)) (z : Nat) (hz : z = 2 ^ Q.length) (hC : (gvs.bs Q Q.length z).2 = C) (hZ : gvs.Pk Q (gvs.mb.sv (gvs.bs Q Q.length z).1 Q.length) = Z) : ∀ (d m n : Nat), m + d = z → d < n →
    L0 f n (mkS 102 [(7, .ro (.rows .i64 Q) Q.length 1), (9, .int .i64 (((gvs.bs Q Q.length m).1 : Nat) : Int)), (10, .int .i64 (((gvs.bs Q Q.length m).2 : Nat) : Int)), (37, .int .i64 ((z : Nat) : Int)), (38, .int .i64 ((m : Nat) : Int))] []) = some (.tup [.int .i64 ((C : Nat) : Int), .ro (.rows .i64 Z) Z.length 1, .bool true], []) := by
  have hp := gvs.pow_16 h16
  intro d
  induction d with
  | zero =>
    intro m n hm hn
    obtain ⟨n, rfl⟩ : ∃ q, n = q + 1 := ⟨n - 1, by omega⟩
    obtain rfl : m = z := by omega
    obtain ⟨b1, b2, b3⟩ := gvs.bs_good Q Q.length m (by omega)
    have em := gvs.mb_ln h16 b1
    have ml := gvs.mb_length (gvs.bs Q Q.length m).1 Q.length
    have g6 := loop6 Q (gvs.mb.sv (gvs.bs Q Q.length m).1 Q.length) C f g (by omega) gvs.mb_ran Z hZ (gvs.mb.sv (gvs.bs Q Q.length m).1 Q.length).length 0 f (by omega) (by omega)
    rw [gvs.pk.sv] at g6
    rw [round0, hC]
    simp -implicitDefEqProofs (disch := omega) only [em, take_one, set_one, decide_eq_true, decide_eq_false, IntWalk.i64_in, beqT, beqF, bneT, bneF, nat_succ, ← Int.natCast_mul, ← Int.natCast_add, Int.toNat_natCast, Int.zero_mul, Int.zero_add, Int.add_zero, Nat.zero_add, Nat.add_zero, Nat.zero_mul, List.length_singleton, List.length_append, List.length_nil, List.length_cons, List.take_length, List.drop_zero, List.replicate_zero, List.take_nil, List.nil_append, Nat.reduceBEq, Nat.reduceMul, Nat.reduceLeDiff, eq_self, and_self, true_and, and_true, decide_true, decide_false, Bool.and_self, Bool.or_self, Bool.and_true, Bool.true_and, Bool.and_false, Bool.false_and, Bool.or_true, Bool.true_or, Bool.or_false, Bool.false_or, Bool.not_true, Bool.not_false, cond_true, cond_false]
    exact g6
  | succ d ih =>
    intro m n hm hn
    obtain ⟨n, rfl⟩ : ∃ q, n = q + 1 := ⟨n - 1, by omega⟩
    have g1 := ih (m + 1) n (by omega) (by omega)
    have em := gvs.mb_ln (k := m) h16 (by omega)
    have ml := gvs.mb_length m Q.length
    obtain ⟨b1, b2, b3⟩ := gvs.bs_good Q Q.length m (by omega)
    have ml2 := gvs.mb_length (gvs.bs Q Q.length m).1 Q.length
    have hs := gvs.sc_le g (l := gvs.mb.sv (gvs.bs Q Q.length m).1 Q.length) gvs.mb_ran _ (Nat.le_refl _)
    have e3 : gvs.Sc Q (gvs.mb.sv (gvs.bs Q Q.length m).1 Q.length) = gvs.sc.sv Q (gvs.mb.sv (gvs.bs Q Q.length m).1 Q.length) (gvs.mb.sv (gvs.bs Q Q.length m).1 Q.length).length := rfl
    have g2 := loop2 Q (gvs.mb.sv m Q.length) (gvs.bs Q Q.length m).1 (gvs.bs Q Q.length m).2 z m f n hf g (by omega) gvs.mb_ran (by omega) (by omega) (gvs.mb.sv m Q.length).length 0 f (by omega) (by omega)
    rw [gvs.su.sv, gvs.sc.sv, gvs.sk.sp] at g2
    have e4 : (gvs.bs Q Q.length (m + 1)).1 = bif gvs.Sk Q (gvs.mb.sv m Q.length) && decide ((gvs.bs Q Q.length m).2 < gvs.Sc Q (gvs.mb.sv m Q.length)) then m else (gvs.bs Q Q.length m).1 := by
      rw [gvs.bs]; cases gvs.Sk Q (gvs.mb.sv m Q.length) && decide ((gvs.bs Q Q.length m).2 < gvs.Sc Q (gvs.mb.sv m Q.length)) <;> rfl
    have e5 : (gvs.bs Q Q.length (m + 1)).2 = bif gvs.Sk Q (gvs.mb.sv m Q.length) && decide ((gvs.bs Q Q.length m).2 < gvs.Sc Q (gvs.mb.sv m Q.length)) then gvs.Sc Q (gvs.mb.sv m Q.length) else (gvs.bs Q Q.length m).2 := by
      rw [gvs.bs]; cases gvs.Sk Q (gvs.mb.sv m Q.length) && decide ((gvs.bs Q Q.length m).2 < gvs.Sc Q (gvs.mb.sv m Q.length)) <;> rfl
    rw [e4, e5] at g1
    rw [round0]
    simp -implicitDefEqProofs (disch := omega) only [em, take_one, set_one, decide_eq_true, decide_eq_false, IntWalk.i64_in, beqT, beqF, bneT, bneF, nat_succ, ← Int.natCast_mul, ← Int.natCast_add, Int.toNat_natCast, Int.zero_mul, Int.zero_add, Int.add_zero, Nat.zero_add, Nat.add_zero, Nat.zero_mul, List.length_singleton, List.length_append, List.length_nil, List.length_cons, List.take_length, List.drop_zero, List.replicate_zero, List.take_nil, List.nil_append, Nat.reduceBEq, Nat.reduceMul, Nat.reduceLeDiff, eq_self, and_self, true_and, and_true, decide_true, decide_false, Bool.and_self, Bool.or_self, Bool.and_true, Bool.true_and, Bool.and_false, Bool.false_and, Bool.or_true, Bool.true_or, Bool.or_false, Bool.false_or, Bool.not_true, Bool.not_false, cond_true, cond_false]
    exact g2.trans g1
theorem runt : ∀ args v new, Rt args = some (true, v, new) → ∃ fuel, runFn Try.prog (orcF [⟨86, layF members.R⟩] (orc [⟨52, iGiveRings.R⟩])) hd Dr.std (some 0) fuel (bodyOf Try.f26) 102 [4, 5, 6] args [] = some (v, new) := by
  intro args v new h
  unfold Rt at h
  split at h
  · rename_i W m l
    simp only [Option.some.injEq, Prod.mk.injEq, Bool.and_eq_true, decide_eq_true_eq] at h
    obtain ⟨⟨rfl, hv, hmo⟩, rfl, rfl⟩ := h
    obtain ⟨g, hM2, hM4⟩ := gvs.valid hv
    have h8 := g.h8
    obtain ⟨M, rfl⟩ : ∃ x : Nat, l = x := ⟨l.toNat, by omega⟩
    rw [Int.toNat_natCast] at hmo
--N
    have h16 : (gvs.rs.sv W M).length ≤ 16 := of_decide_eq_true hmo
    have hp := gvs.pow_16 h16
    have u2 := gvs.shl_one (i := (gvs.rs.sv W M).length) (by omega)
    obtain ⟨F, hF⟩ : ∃ F : Nat, F = 70000 := ⟨70000, rfl⟩
    refine ⟨F, ?_⟩
    have ec : gvs.mc.sv W M = (gvs.best W M).2 := by unfold gvs.mc.sv; rw [hmo]; rfl
    have er : gvs.mr.sv W M = gvs.Pk (gvs.rs.sv W M) (gvs.mb.sv (gvs.best W M).1 (gvs.rs.sv W M).length) := by unfold gvs.mr.sv; rw [hmo]; rfl
    have g2 := loop0 (gvs.rs.sv W M) F (by omega) (gvs.rs_qok g (by omega)) h16 (gvs.mc.sv W M) (gvs.mr.sv W M) (2 ^ (gvs.rs.sv W M).length) rfl ec.symm er.symm (2 ^ (gvs.rs.sv W M).length) 0 F (by omega) (by omega)
    rw [gvs.bs] at g2
    rw [start, Int.toNat_natCast]
    simp -implicitDefEqProofs (disch := omega) only [hv, u2, take_one, set_one, decide_eq_true, decide_eq_false, IntWalk.i64_in, beqT, beqF, bneT, bneF, nat_succ, ← Int.natCast_mul, ← Int.natCast_add, Int.toNat_natCast, Int.zero_mul, Int.zero_add, Int.add_zero, Nat.zero_add, Nat.add_zero, Nat.zero_mul, List.length_singleton, List.length_append, List.length_nil, List.length_cons, List.take_length, List.drop_zero, List.replicate_zero, List.take_nil, List.nil_append, Nat.reduceBEq, Nat.reduceMul, Nat.reduceLeDiff, eq_self, and_self, true_and, and_true, decide_true, decide_false, Bool.and_self, Bool.or_self, Bool.and_true, Bool.true_and, Bool.and_false, Bool.false_and, Bool.or_true, Bool.true_or, Bool.or_false, Bool.false_or, Bool.not_true, Bool.not_false, cond_true, cond_false]
    exact g2
  · cases h
theorem okt : EntOk Try.prog ⟨26, Rt⟩ :=
  ent_okA mixed (A := (orcF [⟨86, layF members.R⟩] (orc [⟨52, iGiveRings.R⟩]))) (orcF_ok (by simp only [List.mem_cons, List.not_mem_nil, or_false, forall_eq_or_imp, forall_eq]; exact members.ok.frz) (orc_ok (by simp only [List.mem_cons, List.not_mem_nil, or_false, forall_eq_or_imp, forall_eq]; exact iGiveRings.ok))) Try.func26 (by kernel_rfl) (by kernel_rfl) (n := 102) (ts := [4, 5, 6]) (hd := hd) (dr := Dr.std) (cut := (some 0)) (by kernel_rfl) (by kernel_rfl) (by kernel_rfl) runt
theorem runf : ∀ args v new, Rf args = some (true, v, new) → ∃ fuel, runFn Try.prog (orcF [⟨86, layF members.R⟩] (orc [⟨52, iGiveRings.R⟩])) hd Dr.std (some 0) fuel (bodyOf Try.f26) 102 [4, 5, 6] args [] = some (v, new) := by
  intro args v new h
  unfold Rf at h
  split at h
  · rename_i W m l
    simp only [Option.some.injEq, Prod.mk.injEq, Bool.and_eq_true, decide_eq_true_eq] at h
    obtain ⟨⟨rfl, hv, hmo⟩, rfl, rfl⟩ := h
    obtain ⟨g, hM2, hM4⟩ := gvs.valid hv
    have h8 := g.h8
    obtain ⟨M, rfl⟩ : ∃ x : Nat, l = x := ⟨l.toNat, by omega⟩
    rw [Int.toNat_natCast] at hmo
    rw [Bool.not_eq_true'] at hmo
    have h16 : ¬ (gvs.rs.sv W M).length ≤ 16 := of_decide_eq_false hmo
    refine ⟨0, ?_⟩
    rw [start, Int.toNat_natCast]
    simp -implicitDefEqProofs (disch := omega) only [hv, take_one, set_one, decide_eq_true, decide_eq_false, IntWalk.i64_in, beqT, beqF, bneT, bneF, nat_succ, ← Int.natCast_mul, ← Int.natCast_add, Int.toNat_natCast, Int.zero_mul, Int.zero_add, Int.add_zero, Nat.zero_add, Nat.add_zero, Nat.zero_mul, List.length_singleton, List.length_append, List.length_nil, List.length_cons, List.take_length, List.drop_zero, List.replicate_zero, List.take_nil, List.nil_append, Nat.reduceBEq, Nat.reduceMul, Nat.reduceLeDiff, eq_self, and_self, true_and, and_true, decide_true, decide_false, Bool.and_self, Bool.or_self, Bool.and_true, Bool.true_and, Bool.and_false, Bool.false_and, Bool.or_true, Bool.true_or, Bool.or_false, Bool.false_or, Bool.not_true, Bool.not_false, cond_true, cond_false]
  · cases h
theorem okf : EntOk Try.prog ⟨26, Rf⟩ :=
  ent_okA mixed (A := (orcF [⟨86, layF members.R⟩] (orc [⟨52, iGiveRings.R⟩]))) (orcF_ok (by simp only [List.mem_cons, List.not_mem_nil, or_false, forall_eq_or_imp, forall_eq]; exact members.ok.frz) (orc_ok (by simp only [List.mem_cons, List.not_mem_nil, or_false, forall_eq_or_imp, forall_eq]; exact iGiveRings.ok))) Try.func26 (by kernel_rfl) (by kernel_rfl) (n := 102) (ts := [4, 5, 6]) (hd := hd) (dr := Dr.std) (cut := (some 0)) (by kernel_rfl) (by kernel_rfl) (by kernel_rfl) runf
end iMostGiven

namespace iMostGivenE
def R (args : List AVal) : Option (Bool × AVal × List Blk) := match args with
  | [.ro (.rows .i64 W) m 1, .int .i64 l] => some (decide (m = W.length) && gvs.gv.sp W l, .tup [.int .i64 ((gvs.mc.sv W l.toNat : Nat) : Int), .ro (.rows .i64 (gvs.mr.sv W l.toNat)) (gvs.mr.sv W l.toNat).length 1, .bool (gvs.mo.sp W l.toNat)], [])
  | _ => none
theorem ok : EntOk Try.prog ⟨26, R⟩ := by
  refine EntOk.cases iMostGiven.okt.wkR iMostGiven.okf.wkR fun args v new h => ?_
  unfold R at h
  split at h
  · rename_i W m l
    simp only [Option.some.injEq, Prod.mk.injEq, Bool.and_eq_true, decide_eq_true_eq] at h
    obtain ⟨⟨h1, h2⟩, rfl, rfl⟩ := h
    cases hb : gvs.mo.sp W l.toNat
    · right
      have e1 : gvs.mr.sv W l.toNat = [] := by unfold gvs.mr.sv; rw [hb]; rfl
      have e2 : gvs.mc.sv W l.toNat = 0 := by unfold gvs.mc.sv; rw [hb]; rfl
      have e : iMostGiven.Rf [.ro (.rows .i64 W) m 1, .int .i64 l] = some (true, .tup [.int .i64 0, .nils, .bool false], []) := by
        simp only [iMostGiven.Rf, h1, h2, hb, decide_true, Bool.and_self, Bool.not_false]
      unfold wkR
      rw [e, e1, e2]
      rfl
    · left
      have e : iMostGiven.Rt [.ro (.rows .i64 W) m 1, .int .i64 l] = some (true, .tup [.int .i64 ((gvs.mc.sv W l.toNat : Nat) : Int), .ro (.rows .i64 (gvs.mr.sv W l.toNat)) (gvs.mr.sv W l.toNat).length 1, .bool true], []) := by
        simp only [iMostGiven.Rt, h1, h2, hb, decide_true, Bool.and_self]
      unfold wkR
      rw [e]
      rfl
  · cases h
end iMostGivenE


-- numbers
namespace sMostGiven
def Rt : List AVal → Option (Bool × AVal × List Blk)
  | [.ro (.rows .i64 W) m 1, .int .i64 l] => some (decide (m = W.length) && (gvs.gv.sp W l && gvs.mo.sp W l.toNat), .tup [.int .i64 ((gvs.mc.sv W l.toNat : Nat) : Int), .ro (.rows .i64 (gvs.mr.sv W l.toNat)) (gvs.mr.sv W l.toNat).length 1, .bool true], [])
  | _ => none
def Rf : List AVal → Option (Bool × AVal × List Blk)
  | [.ro (.rows .i64 W) m 1, .int .i64 l] => some (decide (m = W.length) && (gvs.gv.sp W l && !gvs.mo.sp W l.toNat), .tup [.int .i64 0, .nils, .bool false], [])
  | _ => none
def hd : Nat → Head := fun i => bif eqN i 0 then ⟨[998, 7, 8, 9, 10], none⟩ else bif eqN i 2 then ⟨[998, 7, 8, 9, 10, 11, 12, 13, 38, 39], none⟩ else bif eqN i 4 then ⟨[998, 7, 8, 9, 10, 11, 12, 13, 14, 38, 39, 52, 53], none⟩ else ⟨[998, 7, 8, 9, 17, 94, 95], none⟩
noncomputable def L0 (f n : Nat) (s : State) := loopAt Try.prog (orc [⟨83, l05Gives.R⟩, ⟨84, l05Rings.R⟩]) hd Dr.std 0 f (bodyOf Try.f24) 0 [true, true, true, true, true, true, false, true] (retK Try.prog [4, 5, 6] 0 (some 0)) n s
noncomputable def L2 (f n n2 : Nat) (s : State) := loopAt Try.prog (orc [⟨83, l05Gives.R⟩, ⟨84, l05Rings.R⟩]) hd Dr.std 0 f (bodyAt (bodyOf Try.f24) [true, true, true, true, true, true, false, true]) (curAt (bodyOf Try.f24) 0 [true, true, true, true, true, true, false, true]) [true, false, true, true, true, false, true] (iterK (normE 0 (hd (curAt (bodyOf Try.f24) 0 [true, true, true, true, true, true, false, true]))) (L0 f n) (contAt Try.prog (orc [⟨83, l05Gives.R⟩, ⟨84, l05Rings.R⟩]) hd Dr.std 0 f (bodyOf Try.f24) 0 [true, true, true, true, true, true, false, true] (retK Try.prog [4, 5, 6] 0 (some 0)))) n2 s
noncomputable def L4 (f n n2 n3 : Nat) (s : State) := loopAt Try.prog (orc [⟨83, l05Gives.R⟩, ⟨84, l05Rings.R⟩]) hd Dr.std 0 f (bodyAt (bodyAt (bodyOf Try.f24) [true, true, true, true, true, true, false, true]) [true, false, true, true, true, false, true]) (curAt (bodyAt (bodyOf Try.f24) [true, true, true, true, true, true, false, true]) (curAt (bodyOf Try.f24) 0 [true, true, true, true, true, true, false, true]) [true, false, true, true, true, false, true]) [true, true, false, true, true, false, true] (iterK (normE 0 (hd (curAt (bodyAt (bodyOf Try.f24) [true, true, true, true, true, true, false, true]) (curAt (bodyOf Try.f24) 0 [true, true, true, true, true, true, false, true]) [true, false, true, true, true, false, true]))) (L2 f n n2) (contAt Try.prog (orc [⟨83, l05Gives.R⟩, ⟨84, l05Rings.R⟩]) hd Dr.std 0 f (bodyAt (bodyOf Try.f24) [true, true, true, true, true, true, false, true]) (curAt (bodyOf Try.f24) 0 [true, true, true, true, true, true, false, true]) [true, false, true, true, true, false, true] (iterK (normE 0 (hd (curAt (bodyOf Try.f24) 0 [true, true, true, true, true, true, false, true]))) (L0 f n) (contAt Try.prog (orc [⟨83, l05Gives.R⟩, ⟨84, l05Rings.R⟩]) hd Dr.std 0 f (bodyOf Try.f24) 0 [true, true, true, true, true, true, false, true] (retK Try.prog [4, 5, 6] 0 (some 0)))))) n3 s
noncomputable def L6 (f n : Nat) (s : State) := loopAt Try.prog (orc [⟨83, l05Gives.R⟩, ⟨84, l05Rings.R⟩]) hd Dr.std 0 f (bodyOf Try.f24) 0 [true, true, true, true, true, true, true, true, false, true] (retK Try.prog [4, 5, 6] 0 (some 0)) n s
theorem start (W : List (List Int)) (l : Int) (f : Nat) :
  runFn Try.prog (orc [⟨83, l05Gives.R⟩, ⟨84, l05Rings.R⟩]) hd Dr.std (some 0) f (bodyOf Try.f24) 114 [4, 5, 6] [.ro (.rows .i64 W) W.length 1, .int .i64 l] []
  = (bif decide (W.length = W.length ∧ W.length ≤ (4611686018427387904 : Nat)) && short.sp (4611686018427387904 : Nat) W && (true && (true && true) || true && true) then bif !gvs.gv.sp W l then some (AVal.tup [AVal.int IntKind.i64 (0 : Int), AVal.nils, AVal.bool false], []) else bif decide (W.length = W.length) && gvs.gv.sp W l && (true && (true && true) || false && true) then bif decide ((16 : Int) < (↑(gvs.rs.sv W l.toNat).length : Int)) then some (AVal.tup [AVal.int IntKind.i64 (0 : Int), AVal.nils, AVal.bool false], []) else L0 f f (mkS (114 : Nat) [((7 : Nat), AVal.ro (Cont.rows IntKind.i64 (gvs.rs.sv W l.toNat)) (gvs.rs.sv W l.toNat).length (1 : Nat)), ((8 : Nat), AVal.int IntKind.i64 (0 : Int)), ((9 : Nat), AVal.int IntKind.i64 (0 : Int)), ((10 : Nat), AVal.int IntKind.i64 (0 : Int))] []) else none else none) := by kernel_rfl
theorem round0 (Q : List (List Int)) (b c m : Int) (f n : Nat) :
  L0 f (n + 1) (mkS 114 [(7, .ro (.rows .i64 Q) Q.length 1), (8, .int .i64 b), (9, .int .i64 c), (10, .int .i64 m)] [])
  = (bif decide ((0 : Int) ≤ IntKind.u64.wrap (↑Q.length : Int)) then bif decide (m < ishl.sv IntKind.i64 (1 : Int) (IntKind.u64.wrap (↑Q.length : Int))) then L2 f n f (mkS (114 : Nat) [((7 : Nat), AVal.ro (Cont.rows IntKind.i64 Q) Q.length (1 : Nat)), ((8 : Nat), AVal.int IntKind.i64 b), ((9 : Nat), AVal.int IntKind.i64 c), ((10 : Nat), AVal.int IntKind.i64 m), ((11 : Nat), AVal.int IntKind.i64 (0 : Int)), ((12 : Nat), AVal.int IntKind.i64 (0 : Int)), ((13 : Nat), AVal.bool true), ((38 : Nat), AVal.int IntKind.i64 (↑Q.length : Int)), ((39 : Nat), AVal.int IntKind.i64 (0 : Int))] []) else L6 f f (mkS (114 : Nat) [((7 : Nat), AVal.ro (Cont.rows IntKind.i64 Q) Q.length (1 : Nat)), ((8 : Nat), AVal.int IntKind.i64 b), ((9 : Nat), AVal.int IntKind.i64 c), ((17 : Nat), AVal.own (0 : Nat) (0 : Nat) (0 : Nat) (0 : Nat) (1 : Nat)), ((94 : Nat), AVal.int IntKind.i64 (↑Q.length : Int)), ((95 : Nat), AVal.int IntKind.i64 (0 : Int))] [{ c := BC.typ (Cont.rows IntKind.i64 (List.replicate (0 : Nat) [])), ver := (0 : Nat) }]) else none) := by kernel_rfl
theorem round2 (Q : List (List Int)) (b c m : Int) (u n : Int) (ok : Bool) (i f n0 n2 : Nat) :
  L2 f n0 (n2 + 1) (mkS 114 [(7, .ro (.rows .i64 Q) Q.length 1), (8, .int .i64 b), (9, .int .i64 c), (10, .int .i64 m), (11, .int .i64 u), (12, .int .i64 n), (13, .bool ok), (38, .int .i64 ((Q.length : Nat) : Int)), (39, .int .i64 ((i : Nat) : Int))] [])
  = (bif decide ((↑i : Int) < (↑Q.length : Int)) then bif decide ((0 : Int) ≤ IntKind.u64.wrap (↑i : Int)) then bif iand.sv IntKind.i64 (ishr.sv IntKind.i64 m (IntKind.u64.wrap (↑i : Int))) (1 : Int) == (0 : Int) then L2 f n0 n2 (mkS (114 : Nat) [((7 : Nat), AVal.ro (Cont.rows IntKind.i64 Q) Q.length (1 : Nat)), ((8 : Nat), AVal.int IntKind.i64 b), ((9 : Nat), AVal.int IntKind.i64 c), ((10 : Nat), AVal.int IntKind.i64 m), ((11 : Nat), AVal.int IntKind.i64 u), ((12 : Nat), AVal.int IntKind.i64 n), ((13 : Nat), AVal.bool ok), ((38 : Nat), AVal.int IntKind.i64 (↑Q.length : Int)), ((39 : Nat), AVal.int IntKind.i64 (IntKind.i64.wrap ((↑i : Int) + (1 : Int))))] []) else bif true && (decide ((0 : Int) ≤ (↑i : Int)) && decide ((↑i : Int) < (↑Q.length : Int))) then bif decide ((↑i : Int).toNat < Q.length) then L4 f n0 n2 f (mkS (114 : Nat) [((7 : Nat), AVal.ro (Cont.rows IntKind.i64 Q) Q.length (1 : Nat)), ((8 : Nat), AVal.int IntKind.i64 b), ((9 : Nat), AVal.int IntKind.i64 c), ((10 : Nat), AVal.int IntKind.i64 m), ((11 : Nat), AVal.int IntKind.i64 u), ((12 : Nat), AVal.int IntKind.i64 n), ((13 : Nat), AVal.bool ok), ((14 : Nat), AVal.int IntKind.i64 (↑i : Int)), ((38 : Nat), AVal.int IntKind.i64 (↑Q.length : Int)), ((39 : Nat), AVal.int IntKind.i64 (↑i : Int)), ((52 : Nat), AVal.int IntKind.i64 (↑(gr Q (↑i : Int).toNat).length : Int)), ((53 : Nat), AVal.int IntKind.i64 (0 : Int))] []) else none else none else none else bif ok then bif decide (c < n) then L0 f n0 (mkS (114 : Nat) [((7 : Nat), AVal.ro (Cont.rows IntKind.i64 Q) Q.length (1 : Nat)), ((8 : Nat), AVal.int IntKind.i64 m), ((9 : Nat), AVal.int IntKind.i64 n), ((10 : Nat), AVal.int IntKind.i64 (IntKind.i64.wrap (m + (1 : Int))))] []) else L0 f n0 (mkS (114 : Nat) [((7 : Nat), AVal.ro (Cont.rows IntKind.i64 Q) Q.length (1 : Nat)), ((8 : Nat), AVal.int IntKind.i64 b), ((9 : Nat), AVal.int IntKind.i64 c), ((10 : Nat), AVal.int IntKind.i64 (IntKind.i64.wrap (m + (1 : Int))))] []) else L0 f n0 (mkS (114 : Nat) [((7 : Nat), AVal.ro (Cont.rows IntKind.i64 Q) Q.length (1 : Nat)), ((8 : Nat), AVal.int IntKind.i64 b), ((9 : Nat), AVal.int IntKind.i64 c), ((10 : Nat), AVal.int IntKind.i64 (IntKind.i64.wrap (m + (1 : Int))))] [])) := by kernel_rfl
theorem round4 (Q : List (List Int)) (b c m : Int) (u n : Int) (ok : Bool) (i j f n0 n2 n4 : Nat) :
  L4 f n0 n2 (n4 + 1) (mkS 114 [(7, .ro (.rows .i64 Q) Q.length 1), (8, .int .i64 b), (9, .int .i64 c), (10, .int .i64 m), (11, .int .i64 u), (12, .int .i64 n), (13, .bool ok), (14, .int .i64 ((i : Nat) : Int)), (38, .int .i64 ((Q.length : Nat) : Int)), (39, .int .i64 ((i : Nat) : Int)), (52, .int .i64 (((gr Q i).length : Nat) : Int)), (53, .int .i64 ((j : Nat) : Int))] [])
  = (bif decide ((↑j : Int) < (↑(gr Q i).length : Int)) then bif true && (decide ((0 : Int) ≤ (↑i : Int)) && decide ((↑i : Int) < (↑Q.length : Int))) then bif decide ((↑i : Int).toNat < Q.length) then bif true && (decide ((0 : Int) ≤ (↑j : Int)) && decide ((↑j : Int) < (↑(gr Q (↑i : Int).toNat).length : Int))) then bif decide ((↑j : Int).toNat < (gr Q (↑i : Int).toNat).length) then bif decide ((0 : Int) ≤ IntKind.u64.wrap (gz (gr Q (↑i : Int).toNat) (↑j : Int).toNat)) then bif ok then L4 f n0 n2 n4 (mkS (114 : Nat) [((7 : Nat), AVal.ro (Cont.rows IntKind.i64 Q) Q.length (1 : Nat)), ((8 : Nat), AVal.int IntKind.i64 b), ((9 : Nat), AVal.int IntKind.i64 c), ((10 : Nat), AVal.int IntKind.i64 m), ((11 : Nat), AVal.int IntKind.i64 (ior.sv IntKind.i64 u (ishl.sv IntKind.i64 (1 : Int) (IntKind.u64.wrap (gz (gr Q (↑i : Int).toNat) (↑j : Int).toNat))))), ((12 : Nat), AVal.int IntKind.i64 n), ((13 : Nat), AVal.bool (iand.sv IntKind.i64 u (ishl.sv IntKind.i64 (1 : Int) (IntKind.u64.wrap (gz (gr Q (↑i : Int).toNat) (↑j : Int).toNat))) == (0 : Int))), ((14 : Nat), AVal.int IntKind.i64 (↑i : Int)), ((38 : Nat), AVal.int IntKind.i64 (↑Q.length : Int)), ((39 : Nat), AVal.int IntKind.i64 (↑i : Int)), ((52 : Nat), AVal.int IntKind.i64 (↑(gr Q i).length : Int)), ((53 : Nat), AVal.int IntKind.i64 (IntKind.i64.wrap ((↑j : Int) + (1 : Int))))] []) else L4 f n0 n2 n4 (mkS (114 : Nat) [((7 : Nat), AVal.ro (Cont.rows IntKind.i64 Q) Q.length (1 : Nat)), ((8 : Nat), AVal.int IntKind.i64 b), ((9 : Nat), AVal.int IntKind.i64 c), ((10 : Nat), AVal.int IntKind.i64 m), ((11 : Nat), AVal.int IntKind.i64 (ior.sv IntKind.i64 u (ishl.sv IntKind.i64 (1 : Int) (IntKind.u64.wrap (gz (gr Q (↑i : Int).toNat) (↑j : Int).toNat))))), ((12 : Nat), AVal.int IntKind.i64 n), ((13 : Nat), AVal.bool false), ((14 : Nat), AVal.int IntKind.i64 (↑i : Int)), ((38 : Nat), AVal.int IntKind.i64 (↑Q.length : Int)), ((39 : Nat), AVal.int IntKind.i64 (↑i : Int)), ((52 : Nat), AVal.int IntKind.i64 (↑(gr Q i).length : Int)), ((53 : Nat), AVal.int IntKind.i64 (IntKind.i64.wrap ((↑j : Int) + (1 : Int))))] []) else none else none else none else none else none else bif true && (decide ((0 : Int) ≤ (↑i : Int)) && decide ((↑i : Int) < (↑Q.length : Int))) then bif decide ((↑i : Int).toNat < Q.length) then L2 f n0 n2 (mkS (114 : Nat) [((7 : Nat), AVal.ro (Cont.rows IntKind.i64 Q) Q.length (1 : Nat)), ((8 : Nat), AVal.int IntKind.i64 b), ((9 : Nat), AVal.int IntKind.i64 c), ((10 : Nat), AVal.int IntKind.i64 m), ((11 : Nat), AVal.int IntKind.i64 u), ((12 : Nat), AVal.int IntKind.i64 (IntKind.i64.wrap (n + (↑(gr Q (↑i : Int).toNat).length : Int)))), ((13 : Nat), AVal.bool ok), ((38 : Nat), AVal.int IntKind.i64 (↑Q.length : Int)), ((39 : Nat), AVal.int IntKind.i64 (IntKind.i64.wrap ((↑i : Int) + (1 : Int))))] []) else none else none) := by kernel_rfl
theorem round6 (Q o : List (List Int)) (b c : Int) (q k f n : Nat) :
  L6 f (n + 1) (mkS 114 [(7, .ro (.rows .i64 Q) Q.length 1), (8, .int .i64 b), (9, .int .i64 c), (17, .own 0 0 q 0 1), (94, .int .i64 ((Q.length : Nat) : Int)), (95, .int .i64 ((k : Nat) : Int))] [⟨.typ (.rows .i64 o), 0⟩])
  = (bif decide ((↑k : Int) < (↑Q.length : Int)) then bif decide ((0 : Int) ≤ IntKind.u64.wrap (↑k : Int)) then bif iand.sv IntKind.i64 (ishr.sv IntKind.i64 b (IntKind.u64.wrap (↑k : Int))) (1 : Int) == (1 : Int) then bif true && (decide ((0 : Int) ≤ (↑k : Int)) && decide ((↑k : Int) < (↑Q.length : Int))) then bif decide ((↑k : Int).toNat < Q.length) then bif (1 : Nat) == (1 : Nat) && (1 : Nat) == (1 : Nat) && (true && (true && true) && (true && true && (decide (q + (List.take (1 : Nat) (List.drop (0 : Nat) ((List.replicate (1 : Nat) []).set (0 : Nat) (List.take (gr Q (↑k : Int).toNat).length (gr Q (↑k : Int).toNat))))).length ≤ (4611686018427387904 : Nat)) && decide ((q + (List.take (1 : Nat) (List.drop (0 : Nat) ((List.replicate (1 : Nat) []).set (0 : Nat) (List.take (gr Q (↑k : Int).toNat).length (gr Q (↑k : Int).toNat))))).length) * (24 : Nat) ≤ (140737488355328 : Nat))))) then L6 f n (mkS (114 : Nat) [((7 : Nat), AVal.ro (Cont.rows IntKind.i64 Q) Q.length (1 : Nat)), ((8 : Nat), AVal.int IntKind.i64 b), ((9 : Nat), AVal.int IntKind.i64 c), ((17 : Nat), AVal.own (0 : Nat) (0 : Nat) (q + (List.take (1 : Nat) (List.drop (0 : Nat) ((List.replicate (1 : Nat) []).set (0 : Nat) (List.take (gr Q (↑k : Int).toNat).length (gr Q (↑k : Int).toNat))))).length) (0 : Nat) (1 : Nat)), ((94 : Nat), AVal.int IntKind.i64 (↑Q.length : Int)), ((95 : Nat), AVal.int IntKind.i64 (IntKind.i64.wrap ((↑k : Int) + (1 : Int))))] [{ c := BC.typ (Cont.rows IntKind.i64 (List.take q o ++ List.take (1 : Nat) (List.drop (0 : Nat) ((List.replicate (1 : Nat) []).set (0 : Nat) (List.take (gr Q (↑k : Int).toNat).length (gr Q (↑k : Int).toNat)))))), ver := (0 : Nat) }]) else none else none else none else L6 f n (mkS (114 : Nat) [((7 : Nat), AVal.ro (Cont.rows IntKind.i64 Q) Q.length (1 : Nat)), ((8 : Nat), AVal.int IntKind.i64 b), ((9 : Nat), AVal.int IntKind.i64 c), ((17 : Nat), AVal.own (0 : Nat) (0 : Nat) q (0 : Nat) (1 : Nat)), ((94 : Nat), AVal.int IntKind.i64 (↑Q.length : Int)), ((95 : Nat), AVal.int IntKind.i64 (IntKind.i64.wrap ((↑k : Int) + (1 : Int))))] [{ c := BC.typ (Cont.rows IntKind.i64 o), ver := (0 : Nat) }]) else none else some (AVal.tup [AVal.int IntKind.i64 c, AVal.ro (Cont.rows IntKind.i64 o) q (1 : Nat), AVal.bool true], [])) := by kernel_rfl
theorem mb_in {Q : List (List Int)} {m i : Nat} (h : i ≤ Q.length) : ∀ x ∈ gvs.mb.sv m i, 0 ≤ x ∧ x < (Q.length : Int) := fun x hx => by
  have := gvs.mb_ran x hx
  omega
theorem loop4 (Q : List (List Int)) (b c m u0 n i f n0 n2 : Nat) (okb : Bool) (hi : i < Q.length) (h16 : Q.length ≤ 16) (h8 : (gr Q i).length ≤ 8) (hin : ∀ y ∈ gr Q i, 0 ≤ y ∧ y < 8) (hu : u0 < 256) (hn : n ≤ 1000) : ∀ (d j n4 : Nat), j + d = (gr Q i).length → d < n4 →
    L4 f n0 n2 n4 (mkS 114 [(7, .ro (.rows .i64 Q) Q.length 1), (8, .int .i64 ((b : Nat) : Int)), (9, .int .i64 ((c : Nat) : Int)), (10, .int .i64 ((m : Nat) : Int)), (11, .int .i64 (((gvs.us.sv (gr Q i) u0 j) : Nat) : Int)), (12, .int .i64 ((n : Nat) : Int)), (13, .bool (okb && gvs.un.sp (gr Q i) u0 j)), (14, .int .i64 ((i : Nat) : Int)), (38, .int .i64 ((Q.length : Nat) : Int)), (39, .int .i64 ((i : Nat) : Int)), (52, .int .i64 (((gr Q i).length : Nat) : Int)), (53, .int .i64 ((j : Nat) : Int))] []) = L2 f n0 n2 (mkS 114 [(7, .ro (.rows .i64 Q) Q.length 1), (8, .int .i64 ((b : Nat) : Int)), (9, .int .i64 ((c : Nat) : Int)), (10, .int .i64 ((m : Nat) : Int)), (11, .int .i64 (((gvs.us.sv (gr Q i) u0 (gr Q i).length) : Nat) : Int)), (12, .int .i64 (((n + (gr Q i).length) : Nat) : Int)), (13, .bool (okb && gvs.un.sp (gr Q i) u0 (gr Q i).length)), (38, .int .i64 ((Q.length : Nat) : Int)), (39, .int .i64 (((i + 1) : Nat) : Int))] []) := by
  intro d
  induction d with
  | zero =>
    intro j n4 hj hn4
    obtain ⟨n4, rfl⟩ : ∃ q, n4 = q + 1 := ⟨n4 - 1, by omega⟩
    obtain rfl : j = (gr Q i).length := by omega
    rw [round4]
    simp -implicitDefEqProofs (disch := omega) only [take_one, set_one, decide_eq_true, decide_eq_false, IntWalk.i64_in, beqT, beqF, bneT, bneF, nat_succ, ← Int.natCast_mul, ← Int.natCast_add, Int.toNat_natCast, Int.zero_mul, Int.zero_add, Int.add_zero, Nat.zero_add, Nat.add_zero, Nat.zero_mul, List.length_singleton, List.length_append, List.length_nil, List.length_cons, List.take_length, List.drop_zero, List.replicate_zero, List.take_nil, List.nil_append, Nat.reduceBEq, Nat.reduceMul, Nat.reduceLeDiff, eq_self, and_self, true_and, and_true, decide_true, decide_false, Bool.and_self, Bool.or_self, Bool.and_true, Bool.true_and, Bool.and_false, Bool.false_and, Bool.or_true, Bool.true_or, Bool.or_false, Bool.false_or, Bool.not_true, Bool.not_false, cond_true, cond_false]
  | succ d ih =>
    intro j n4 hj hn4
    obtain ⟨n4, rfl⟩ : ∃ q, n4 = q + 1 := ⟨n4 - 1, by omega⟩
    have g := ih (j + 1) n4 (by omega) (by omega)
    have hy := hin _ (gz_mem (show j < (gr Q i).length by omega))
    obtain ⟨y, ey⟩ : ∃ y : Nat, gz (gr Q i) j = y := ⟨(gz (gr Q i) j).toNat, by omega⟩
    have hu2 := gvs.us_lt hin hu j (by omega)
    have u0' := gvs.u64_nat (i := y) (by omega)
    have u1 := gvs.and_shl _ hu2 y (by omega)
    have u2 := gvs.shl_one (i := y) (by omega)
    have u3 := gvs.or_shl _ hu2 y (by omega)
    have u4 : ((((2 ^ y : Nat) : Int)) == 0) = false := by
      rw [beq_eq_false_iff_ne]
      have := Nat.one_le_two_pow (n := y)
      omega
    rw [gvs.us.sv, gvs.un.sp, ey, Int.toNat_natCast, ← Bool.and_assoc] at g
    rw [round4]
    cases hok : okb && gvs.un.sp (gr Q i) u0 j
    · rw [hok, Bool.false_and] at g
      simp -implicitDefEqProofs (disch := omega) only [ey, hok, u0', u2, u3, take_one, set_one, decide_eq_true, decide_eq_false, IntWalk.i64_in, beqT, beqF, bneT, bneF, nat_succ, ← Int.natCast_mul, ← Int.natCast_add, Int.toNat_natCast, Int.zero_mul, Int.zero_add, Int.add_zero, Nat.zero_add, Nat.add_zero, Nat.zero_mul, List.length_singleton, List.length_append, List.length_nil, List.length_cons, List.take_length, List.drop_zero, List.replicate_zero, List.take_nil, List.nil_append, Nat.reduceBEq, Nat.reduceMul, Nat.reduceLeDiff, eq_self, and_self, true_and, and_true, decide_true, decide_false, Bool.and_self, Bool.or_self, Bool.and_true, Bool.true_and, Bool.and_false, Bool.false_and, Bool.or_true, Bool.true_or, Bool.or_false, Bool.false_or, Bool.not_true, Bool.not_false, cond_true, cond_false]
      exact g
    · rw [hok, Bool.true_and] at g
      cases ho : gvs.off.sp (gvs.us.sv (gr Q i) u0 j) y
      · rw [ho, cond_false] at u1
        rw [ho] at g
        simp -implicitDefEqProofs (disch := omega) only [ey, hok, u0', u1, u2, u3, u4, take_one, set_one, decide_eq_true, decide_eq_false, IntWalk.i64_in, beqT, beqF, bneT, bneF, nat_succ, ← Int.natCast_mul, ← Int.natCast_add, Int.toNat_natCast, Int.zero_mul, Int.zero_add, Int.add_zero, Nat.zero_add, Nat.add_zero, Nat.zero_mul, List.length_singleton, List.length_append, List.length_nil, List.length_cons, List.take_length, List.drop_zero, List.replicate_zero, List.take_nil, List.nil_append, Nat.reduceBEq, Nat.reduceMul, Nat.reduceLeDiff, eq_self, and_self, true_and, and_true, decide_true, decide_false, Bool.and_self, Bool.or_self, Bool.and_true, Bool.true_and, Bool.and_false, Bool.false_and, Bool.or_true, Bool.true_or, Bool.or_false, Bool.false_or, Bool.not_true, Bool.not_false, cond_true, cond_false]
        exact g
      · rw [ho, cond_true] at u1
        rw [ho] at g
        simp -implicitDefEqProofs (disch := omega) only [ey, hok, u0', u1, u2, u3, u4, take_one, set_one, decide_eq_true, decide_eq_false, IntWalk.i64_in, beqT, beqF, bneT, bneF, nat_succ, ← Int.natCast_mul, ← Int.natCast_add, Int.toNat_natCast, Int.zero_mul, Int.zero_add, Int.add_zero, Nat.zero_add, Nat.add_zero, Nat.zero_mul, List.length_singleton, List.length_append, List.length_nil, List.length_cons, List.take_length, List.drop_zero, List.replicate_zero, List.take_nil, List.nil_append, Nat.reduceBEq, Nat.reduceMul, Nat.reduceLeDiff, eq_self, and_self, true_and, and_true, decide_true, decide_false, Bool.and_self, Bool.or_self, Bool.and_true, Bool.true_and, Bool.and_false, Bool.false_and, Bool.or_true, Bool.true_or, Bool.or_false, Bool.false_or, Bool.not_true, Bool.not_false, cond_true, cond_false]
        exact g
theorem loop2 (Q : List (List Int)) (b c m f n0 : Nat) (hf : 100 < f) (g : gvs.QOk Q) (h16 : Q.length ≤ 16) (hm : m < 65536) (hc : c ≤ 1000) : ∀ (d i n2 : Nat), i + d = Q.length → d < n2 →
    L2 f n0 n2 (mkS 114 [(7, .ro (.rows .i64 Q) Q.length 1), (8, .int .i64 ((b : Nat) : Int)), (9, .int .i64 ((c : Nat) : Int)), (10, .int .i64 ((m : Nat) : Int)), (11, .int .i64 (((gvs.Su Q (gvs.mb.sv m i)) : Nat) : Int)), (12, .int .i64 (((gvs.Sc Q (gvs.mb.sv m i)) : Nat) : Int)), (13, .bool (gvs.Sk Q (gvs.mb.sv m i))), (38, .int .i64 ((Q.length : Nat) : Int)), (39, .int .i64 ((i : Nat) : Int))] []) = L0 f n0 (mkS 114 [(7, .ro (.rows .i64 Q) Q.length 1), (8, .int .i64 (((bif gvs.Sk Q (gvs.mb.sv m Q.length) && decide (c < gvs.Sc Q (gvs.mb.sv m Q.length)) then m else b) : Nat) : Int)), (9, .int .i64 (((bif gvs.Sk Q (gvs.mb.sv m Q.length) && decide (c < gvs.Sc Q (gvs.mb.sv m Q.length)) then gvs.Sc Q (gvs.mb.sv m Q.length) else c) : Nat) : Int)), (10, .int .i64 (((m + 1) : Nat) : Int))] []) := by
  intro d
  induction d with
  | zero =>
    intro i n2 hk hn2
    obtain ⟨n2, rfl⟩ : ∃ q, n2 = q + 1 := ⟨n2 - 1, by omega⟩
    obtain rfl : i = Q.length := by omega
    rw [round2]
    cases gvs.Sk Q (gvs.mb.sv m Q.length)
    · simp -implicitDefEqProofs (disch := omega) only [take_one, set_one, decide_eq_true, decide_eq_false, IntWalk.i64_in, beqT, beqF, bneT, bneF, nat_succ, ← Int.natCast_mul, ← Int.natCast_add, Int.toNat_natCast, Int.zero_mul, Int.zero_add, Int.add_zero, Nat.zero_add, Nat.add_zero, Nat.zero_mul, List.length_singleton, List.length_append, List.length_nil, List.length_cons, List.take_length, List.drop_zero, List.replicate_zero, List.take_nil, List.nil_append, Nat.reduceBEq, Nat.reduceMul, Nat.reduceLeDiff, eq_self, and_self, true_and, and_true, decide_true, decide_false, Bool.and_self, Bool.or_self, Bool.and_true, Bool.true_and, Bool.and_false, Bool.false_and, Bool.or_true, Bool.true_or, Bool.or_false, Bool.false_or, Bool.not_true, Bool.not_false, cond_true, cond_false]
    · by_cases cc : c < gvs.Sc Q (gvs.mb.sv m Q.length)
      · simp -implicitDefEqProofs (disch := omega) only [take_one, set_one, decide_eq_true, decide_eq_false, IntWalk.i64_in, beqT, beqF, bneT, bneF, nat_succ, ← Int.natCast_mul, ← Int.natCast_add, Int.toNat_natCast, Int.zero_mul, Int.zero_add, Int.add_zero, Nat.zero_add, Nat.add_zero, Nat.zero_mul, List.length_singleton, List.length_append, List.length_nil, List.length_cons, List.take_length, List.drop_zero, List.replicate_zero, List.take_nil, List.nil_append, Nat.reduceBEq, Nat.reduceMul, Nat.reduceLeDiff, eq_self, and_self, true_and, and_true, decide_true, decide_false, Bool.and_self, Bool.or_self, Bool.and_true, Bool.true_and, Bool.and_false, Bool.false_and, Bool.or_true, Bool.true_or, Bool.or_false, Bool.false_or, Bool.not_true, Bool.not_false, cond_true, cond_false]
      · simp -implicitDefEqProofs (disch := omega) only [take_one, set_one, decide_eq_true, decide_eq_false, IntWalk.i64_in, beqT, beqF, bneT, bneF, nat_succ, ← Int.natCast_mul, ← Int.natCast_add, Int.toNat_natCast, Int.zero_mul, Int.zero_add, Int.add_zero, Nat.zero_add, Nat.add_zero, Nat.zero_mul, List.length_singleton, List.length_append, List.length_nil, List.length_cons, List.take_length, List.drop_zero, List.replicate_zero, List.take_nil, List.nil_append, Nat.reduceBEq, Nat.reduceMul, Nat.reduceLeDiff, eq_self, and_self, true_and, and_true, decide_true, decide_false, Bool.and_self, Bool.or_self, Bool.and_true, Bool.true_and, Bool.and_false, Bool.false_and, Bool.or_true, Bool.true_or, Bool.or_false, Bool.false_or, Bool.not_true, Bool.not_false, cond_true, cond_false]
  | succ d ih =>
    intro i n2 hk hn2
    obtain ⟨n2, rfl⟩ : ∃ q, n2 = q + 1 := ⟨n2 - 1, by omega⟩
    have g3 := ih (i + 1) n2 (by omega) (by omega)
    have w0 := gvs.u64_nat (i := i) (by omega)
    have w1 := gvs.shr_and (k := m) (i := i) (by omega) (by omega)
    rw [gvs.mb.sv] at g3
    rw [round2]
    cases ho : gvs.off.sp m i
    · rw [ho, cond_false] at w1 g3
      obtain ⟨s1, s2, s3, _⟩ := gvs.S_app Q (gvs.mb.sv m i) i
      rw [s1, s2, s3] at g3
      have hr := mb_in (Q := Q) (m := m) (i := i) (by omega)
      have ml := gvs.mb_length m i
      have h1 := gvs.sc_le g hr _ (Nat.le_refl _)
      have h2 := gvs.su_lt g hr _ (Nat.le_refl _)
      have g2 := loop4 Q b c m (gvs.Su Q (gvs.mb.sv m i)) (gvs.Sc Q (gvs.mb.sv m i)) i f n0 n2 (gvs.Sk Q (gvs.mb.sv m i)) (by omega) h16 (g.len i (by omega)) (g.ran i (by omega)) h2 (by unfold gvs.Sc; omega) (gr Q i).length 0 f (by omega) (by have := g.len i (by omega); omega)
      rw [gvs.us.sv, gvs.un.sp, Bool.and_true] at g2
      simp -implicitDefEqProofs (disch := omega) only [w0, w1, take_one, set_one, decide_eq_true, decide_eq_false, IntWalk.i64_in, beqT, beqF, bneT, bneF, nat_succ, ← Int.natCast_mul, ← Int.natCast_add, Int.toNat_natCast, Int.zero_mul, Int.zero_add, Int.add_zero, Nat.zero_add, Nat.add_zero, Nat.zero_mul, List.length_singleton, List.length_append, List.length_nil, List.length_cons, List.take_length, List.drop_zero, List.replicate_zero, List.take_nil, List.nil_append, Nat.reduceBEq, Nat.reduceMul, Nat.reduceLeDiff, eq_self, and_self, true_and, and_true, decide_true, decide_false, Bool.and_self, Bool.or_self, Bool.and_true, Bool.true_and, Bool.and_false, Bool.false_and, Bool.or_true, Bool.true_or, Bool.or_false, Bool.false_or, Bool.not_true, Bool.not_false, cond_true, cond_false]
      exact g2.trans g3
    · rw [ho, cond_true] at w1 g3
      simp -implicitDefEqProofs (disch := omega) only [w0, w1, take_one, set_one, decide_eq_true, decide_eq_false, IntWalk.i64_in, beqT, beqF, bneT, bneF, nat_succ, ← Int.natCast_mul, ← Int.natCast_add, Int.toNat_natCast, Int.zero_mul, Int.zero_add, Int.add_zero, Nat.zero_add, Nat.add_zero, Nat.zero_mul, List.length_singleton, List.length_append, List.length_nil, List.length_cons, List.take_length, List.drop_zero, List.replicate_zero, List.take_nil, List.nil_append, Nat.reduceBEq, Nat.reduceMul, Nat.reduceLeDiff, eq_self, and_self, true_and, and_true, decide_true, decide_false, Bool.and_self, Bool.or_self, Bool.and_true, Bool.true_and, Bool.and_false, Bool.false_and, Bool.or_true, Bool.true_or, Bool.or_false, Bool.false_or, Bool.not_true, Bool.not_false, cond_true, cond_false]
      exact g3
theorem loop6 (Q : List (List Int)) (b c f : Nat) (h16 : Q.length ≤ 16) (hb : b < 65536) (Z : List (List Int)) (hZ : gvs.Pk Q (gvs.mb.sv b Q.length) = Z) : ∀ (d k n : Nat), k + d = Q.length → d < n →
    L6 f n (mkS 114 [(7, .ro (.rows .i64 Q) Q.length 1), (8, .int .i64 ((b : Nat) : Int)), (9, .int .i64 ((c : Nat) : Int)), (17, .own 0 0 (gvs.Pk Q (gvs.mb.sv b k)).length 0 1), (94, .int .i64 ((Q.length : Nat) : Int)), (95, .int .i64 ((k : Nat) : Int))] [⟨.typ (.rows .i64 (gvs.Pk Q (gvs.mb.sv b k))), 0⟩]) = some (.tup [.int .i64 ((c : Nat) : Int), .ro (.rows .i64 Z) Z.length 1, .bool true], []) := by
  intro d
  induction d with
  | zero =>
    intro k n hk hn
    obtain ⟨n, rfl⟩ : ∃ q, n = q + 1 := ⟨n - 1, by omega⟩
    obtain rfl : k = Q.length := by omega
    rw [round6, hZ]
    simp -implicitDefEqProofs (disch := omega) only [take_one, set_one, decide_eq_true, decide_eq_false, IntWalk.i64_in, beqT, beqF, bneT, bneF, nat_succ, ← Int.natCast_mul, ← Int.natCast_add, Int.toNat_natCast, Int.zero_mul, Int.zero_add, Int.add_zero, Nat.zero_add, Nat.add_zero, Nat.zero_mul, List.length_singleton, List.length_append, List.length_nil, List.length_cons, List.take_length, List.drop_zero, List.replicate_zero, List.take_nil, List.nil_append, Nat.reduceBEq, Nat.reduceMul, Nat.reduceLeDiff, eq_self, and_self, true_and, and_true, decide_true, decide_false, Bool.and_self, Bool.or_self, Bool.and_true, Bool.true_and, Bool.and_false, Bool.false_and, Bool.or_true, Bool.true_or, Bool.or_false, Bool.false_or, Bool.not_true, Bool.not_false, cond_true, cond_false]
  | succ d ih =>
    intro k n hk hn
    obtain ⟨n, rfl⟩ : ∃ q, n = q + 1 := ⟨n - 1, by omega⟩
    have g3 := ih (k + 1) n (by omega) (by omega)
    have w0 := gvs.u64_nat (i := k) (by omega)
    have w1 := gvs.shr_and (k := b) (i := k) (by omega) (by omega)
    rw [gvs.mb.sv] at g3
    rw [round6]
    cases ho : gvs.off.sp b k
    · rw [ho, cond_false] at w1 g3
      obtain ⟨_, _, _, s4⟩ := gvs.S_app Q (gvs.mb.sv b k) k
      rw [s4, List.length_append, List.length_singleton] at g3
      have pl : (gvs.Pk Q (gvs.mb.sv b k)).length ≤ 16 := by
        have := gvs.pk_length Q (gvs.mb.sv b k) (gvs.mb.sv b k).length
        have := gvs.mb_length b k
        unfold gvs.Pk
        omega
      have tp : (gvs.Pk Q (gvs.mb.sv b k)).take (gvs.Pk Q (gvs.mb.sv b k)).length = gvs.Pk Q (gvs.mb.sv b k) := List.take_of_length_le (Nat.le_refl _)
      have s1 : (List.replicate 1 ([] : List Int)).set 0 (gr Q k) = [gr Q k] := rfl
      have s2 : [gr Q k].take 1 = [gr Q k] := rfl
      simp -implicitDefEqProofs (disch := omega) only [w0, w1, tp, s1, s2, take_one, set_one, decide_eq_true, decide_eq_false, IntWalk.i64_in, beqT, beqF, bneT, bneF, nat_succ, ← Int.natCast_mul, ← Int.natCast_add, Int.toNat_natCast, Int.zero_mul, Int.zero_add, Int.add_zero, Nat.zero_add, Nat.add_zero, Nat.zero_mul, List.length_singleton, List.length_append, List.length_nil, List.length_cons, List.take_length, List.drop_zero, List.replicate_zero, List.take_nil, List.nil_append, Nat.reduceBEq, Nat.reduceMul, Nat.reduceLeDiff, eq_self, and_self, true_and, and_true, decide_true, decide_false, Bool.and_self, Bool.or_self, Bool.and_true, Bool.true_and, Bool.and_false, Bool.false_and, Bool.or_true, Bool.true_or, Bool.or_false, Bool.false_or, Bool.not_true, Bool.not_false, cond_true, cond_false]
      exact g3
    · rw [ho, cond_true] at w1 g3
      simp -implicitDefEqProofs (disch := omega) only [w0, w1, take_one, set_one, decide_eq_true, decide_eq_false, IntWalk.i64_in, beqT, beqF, bneT, bneF, nat_succ, ← Int.natCast_mul, ← Int.natCast_add, Int.toNat_natCast, Int.zero_mul, Int.zero_add, Int.add_zero, Nat.zero_add, Nat.add_zero, Nat.zero_mul, List.length_singleton, List.length_append, List.length_nil, List.length_cons, List.take_length, List.drop_zero, List.replicate_zero, List.take_nil, List.nil_append, Nat.reduceBEq, Nat.reduceMul, Nat.reduceLeDiff, eq_self, and_self, true_and, and_true, decide_true, decide_false, Bool.and_self, Bool.or_self, Bool.and_true, Bool.true_and, Bool.and_false, Bool.false_and, Bool.or_true, Bool.true_or, Bool.or_false, Bool.false_or, Bool.not_true, Bool.not_false, cond_true, cond_false]
      exact g3
theorem loop0 (Q : List (List Int)) (f : Nat) (hf : 100 < f) (g : gvs.QOk Q) (h16 : Q.length ≤ 16) (C : Nat) (Z : List (List Int)) (z : Nat) (hz : z = 2 ^ Q.length) (hC : (gvs.bs Q Q.length z).2 = C) (hZ : gvs.Pk Q (gvs.mb.sv (gvs.bs Q Q.length z).1 Q.length) = Z) : ∀ (d m n : Nat), m + d = z → d < n →
    L0 f n (mkS 114 [(7, .ro (.rows .i64 Q) Q.length 1), (8, .int .i64 (((gvs.bs Q Q.length m).1 : Nat) : Int)), (9, .int .i64 (((gvs.bs Q Q.length m).2 : Nat) : Int)), (10, .int .i64 ((m : Nat) : Int))] []) = some (.tup [.int .i64 ((C : Nat) : Int), .ro (.rows .i64 Z) Z.length 1, .bool true], []) := by
  have hp := gvs.pow_16 h16
  have w0 := gvs.u64_nat (i := Q.length) (by omega)
  have w1 := gvs.shl_one (i := Q.length) (by omega)
  rw [← hz] at w1 hp
  intro d
  induction d with
  | zero =>
    intro m n hm hn
    obtain ⟨n, rfl⟩ : ∃ q, n = q + 1 := ⟨n - 1, by omega⟩
    obtain rfl : m = z := by omega
    obtain ⟨b1, b2, b3⟩ := gvs.bs_good Q Q.length m (by omega)
    have g6 := loop6 Q (gvs.bs Q Q.length m).1 C f h16 (by omega) Z hZ Q.length 0 f (by omega) (by omega)
    have e0 : gvs.Pk Q (gvs.mb.sv (gvs.bs Q Q.length m).1 0) = [] := rfl
    rw [e0, List.length_nil] at g6
    rw [round0, hC]
    simp -implicitDefEqProofs (disch := omega) only [w0, w1, take_one, set_one, decide_eq_true, decide_eq_false, IntWalk.i64_in, beqT, beqF, bneT, bneF, nat_succ, ← Int.natCast_mul, ← Int.natCast_add, Int.toNat_natCast, Int.zero_mul, Int.zero_add, Int.add_zero, Nat.zero_add, Nat.add_zero, Nat.zero_mul, List.length_singleton, List.length_append, List.length_nil, List.length_cons, List.take_length, List.drop_zero, List.replicate_zero, List.take_nil, List.nil_append, Nat.reduceBEq, Nat.reduceMul, Nat.reduceLeDiff, eq_self, and_self, true_and, and_true, decide_true, decide_false, Bool.and_self, Bool.or_self, Bool.and_true, Bool.true_and, Bool.and_false, Bool.false_and, Bool.or_true, Bool.true_or, Bool.or_false, Bool.false_or, Bool.not_true, Bool.not_false, cond_true, cond_false]
    exact g6
  | succ d ih =>
    intro m n hm hn
    obtain ⟨n, rfl⟩ : ∃ q, n = q + 1 := ⟨n - 1, by omega⟩
    have g1 := ih (m + 1) n (by omega) (by omega)
    obtain ⟨b1, b2, b3⟩ := gvs.bs_good Q Q.length m (by omega)
    have ml2 := gvs.mb_length (gvs.bs Q Q.length m).1 Q.length
    have hs := gvs.sc_le g (l := gvs.mb.sv (gvs.bs Q Q.length m).1 Q.length) gvs.mb_ran _ (Nat.le_refl _)
    have e3 : gvs.Sc Q (gvs.mb.sv (gvs.bs Q Q.length m).1 Q.length) = gvs.sc.sv Q (gvs.mb.sv (gvs.bs Q Q.length m).1 Q.length) (gvs.mb.sv (gvs.bs Q Q.length m).1 Q.length).length := rfl
    have g2 := loop2 Q (gvs.bs Q Q.length m).1 (gvs.bs Q Q.length m).2 m f n hf g h16 (by omega) (by omega) Q.length 0 f (by omega) (by omega)
    have q1 : gvs.Su Q (gvs.mb.sv m 0) = 0 := rfl
    have q2 : gvs.Sc Q (gvs.mb.sv m 0) = 0 := rfl
    have q3 : gvs.Sk Q (gvs.mb.sv m 0) = true := rfl
    rw [q1, q2, q3] at g2
    have e4 : (gvs.bs Q Q.length (m + 1)).1 = bif gvs.Sk Q (gvs.mb.sv m Q.length) && decide ((gvs.bs Q Q.length m).2 < gvs.Sc Q (gvs.mb.sv m Q.length)) then m else (gvs.bs Q Q.length m).1 := by
      rw [gvs.bs]; cases gvs.Sk Q (gvs.mb.sv m Q.length) && decide ((gvs.bs Q Q.length m).2 < gvs.Sc Q (gvs.mb.sv m Q.length)) <;> rfl
    have e5 : (gvs.bs Q Q.length (m + 1)).2 = bif gvs.Sk Q (gvs.mb.sv m Q.length) && decide ((gvs.bs Q Q.length m).2 < gvs.Sc Q (gvs.mb.sv m Q.length)) then gvs.Sc Q (gvs.mb.sv m Q.length) else (gvs.bs Q Q.length m).2 := by
      rw [gvs.bs]; cases gvs.Sk Q (gvs.mb.sv m Q.length) && decide ((gvs.bs Q Q.length m).2 < gvs.Sc Q (gvs.mb.sv m Q.length)) <;> rfl
    rw [e4, e5] at g1
    rw [round0]
    simp -implicitDefEqProofs (disch := omega) only [w0, w1, take_one, set_one, decide_eq_true, decide_eq_false, IntWalk.i64_in, beqT, beqF, bneT, bneF, nat_succ, ← Int.natCast_mul, ← Int.natCast_add, Int.toNat_natCast, Int.zero_mul, Int.zero_add, Int.add_zero, Nat.zero_add, Nat.add_zero, Nat.zero_mul, List.length_singleton, List.length_append, List.length_nil, List.length_cons, List.take_length, List.drop_zero, List.replicate_zero, List.take_nil, List.nil_append, Nat.reduceBEq, Nat.reduceMul, Nat.reduceLeDiff, eq_self, and_self, true_and, and_true, decide_true, decide_false, Bool.and_self, Bool.or_self, Bool.and_true, Bool.true_and, Bool.and_false, Bool.false_and, Bool.or_true, Bool.true_or, Bool.or_false, Bool.false_or, Bool.not_true, Bool.not_false, cond_true, cond_false]
    exact g2.trans g1
theorem runt : ∀ args v new, Rt args = some (true, v, new) → ∃ fuel, runFn Try.prog (orc [⟨83, l05Gives.R⟩, ⟨84, l05Rings.R⟩]) hd Dr.std (some 0) fuel (bodyOf Try.f24) 114 [4, 5, 6] args [] = some (v, new) := by
  intro args v new h
  unfold Rt at h
  split at h
  · rename_i W m l
    simp only [Option.some.injEq, Prod.mk.injEq, Bool.and_eq_true, decide_eq_true_eq] at h
    obtain ⟨⟨rfl, hv, hmo⟩, rfl, rfl⟩ := h
    obtain ⟨g, hM2, hM4⟩ := gvs.valid hv
    have h8 := g.h8
    have hs : short.sp 4611686018427387904 W = true := by
      simp only [short.sp, List.all_eq_true, decide_eq_true_eq]
      intro r hr
      obtain ⟨k, hk, rfl⟩ := List.mem_iff_getElem.1 hr
      have := g.rl k hk
      rw [gr_eq hk] at this
      omega
    obtain ⟨M, rfl⟩ : ∃ x : Nat, l = x := ⟨l.toNat, by omega⟩
    rw [Int.toNat_natCast] at hmo
--N
    have h16 : (gvs.rs.sv W M).length ≤ 16 := of_decide_eq_true hmo
    have hp := gvs.pow_16 h16
    obtain ⟨F, hF⟩ : ∃ F : Nat, F = 70000 := ⟨70000, rfl⟩
    refine ⟨F, ?_⟩
    have ec : gvs.mc.sv W M = (gvs.best W M).2 := by unfold gvs.mc.sv; rw [hmo]; rfl
    have er : gvs.mr.sv W M = gvs.Pk (gvs.rs.sv W M) (gvs.mb.sv (gvs.best W M).1 (gvs.rs.sv W M).length) := by unfold gvs.mr.sv; rw [hmo]; rfl
    have g2 := loop0 (gvs.rs.sv W M) F (by omega) (gvs.rs_qok g (by omega)) h16 (gvs.mc.sv W M) (gvs.mr.sv W M) (2 ^ (gvs.rs.sv W M).length) rfl ec.symm er.symm (2 ^ (gvs.rs.sv W M).length) 0 F (by omega) (by omega)
    rw [gvs.bs] at g2
    rw [start, Int.toNat_natCast]
    simp -implicitDefEqProofs (disch := omega) only [hv, hs, take_one, set_one, decide_eq_true, decide_eq_false, IntWalk.i64_in, beqT, beqF, bneT, bneF, nat_succ, ← Int.natCast_mul, ← Int.natCast_add, Int.toNat_natCast, Int.zero_mul, Int.zero_add, Int.add_zero, Nat.zero_add, Nat.add_zero, Nat.zero_mul, List.length_singleton, List.length_append, List.length_nil, List.length_cons, List.take_length, List.drop_zero, List.replicate_zero, List.take_nil, List.nil_append, Nat.reduceBEq, Nat.reduceMul, Nat.reduceLeDiff, eq_self, and_self, true_and, and_true, decide_true, decide_false, Bool.and_self, Bool.or_self, Bool.and_true, Bool.true_and, Bool.and_false, Bool.false_and, Bool.or_true, Bool.true_or, Bool.or_false, Bool.false_or, Bool.not_true, Bool.not_false, cond_true, cond_false]
    exact g2
  · cases h
theorem okt : EntOk Try.prog ⟨24, Rt⟩ :=
  ent_okA mixed (A := (orc [⟨83, l05Gives.R⟩, ⟨84, l05Rings.R⟩])) (orc_ok (by simp only [List.mem_cons, List.not_mem_nil, or_false, forall_eq_or_imp, forall_eq]; exact ⟨l05Gives.ok, l05Rings.ok⟩)) Try.func24 (by kernel_rfl) (by kernel_rfl) (n := 114) (ts := [4, 5, 6]) (hd := hd) (dr := Dr.std) (cut := (some 0)) (by kernel_rfl) (by kernel_rfl) (by kernel_rfl) runt
theorem runf : ∀ args v new, Rf args = some (true, v, new) → ∃ fuel, runFn Try.prog (orc [⟨83, l05Gives.R⟩, ⟨84, l05Rings.R⟩]) hd Dr.std (some 0) fuel (bodyOf Try.f24) 114 [4, 5, 6] args [] = some (v, new) := by
  intro args v new h
  unfold Rf at h
  split at h
  · rename_i W m l
    simp only [Option.some.injEq, Prod.mk.injEq, Bool.and_eq_true, decide_eq_true_eq] at h
    obtain ⟨⟨rfl, hv, hmo⟩, rfl, rfl⟩ := h
    obtain ⟨g, hM2, hM4⟩ := gvs.valid hv
    have h8 := g.h8
    have hs : short.sp 4611686018427387904 W = true := by
      simp only [short.sp, List.all_eq_true, decide_eq_true_eq]
      intro r hr
      obtain ⟨k, hk, rfl⟩ := List.mem_iff_getElem.1 hr
      have := g.rl k hk
      rw [gr_eq hk] at this
      omega
    obtain ⟨M, rfl⟩ : ∃ x : Nat, l = x := ⟨l.toNat, by omega⟩
    rw [Int.toNat_natCast] at hmo
    rw [Bool.not_eq_true'] at hmo
    have h16 : ¬ (gvs.rs.sv W M).length ≤ 16 := of_decide_eq_false hmo
    refine ⟨0, ?_⟩
    rw [start, Int.toNat_natCast]
    simp -implicitDefEqProofs (disch := omega) only [hv, hs, take_one, set_one, decide_eq_true, decide_eq_false, IntWalk.i64_in, beqT, beqF, bneT, bneF, nat_succ, ← Int.natCast_mul, ← Int.natCast_add, Int.toNat_natCast, Int.zero_mul, Int.zero_add, Int.add_zero, Nat.zero_add, Nat.add_zero, Nat.zero_mul, List.length_singleton, List.length_append, List.length_nil, List.length_cons, List.take_length, List.drop_zero, List.replicate_zero, List.take_nil, List.nil_append, Nat.reduceBEq, Nat.reduceMul, Nat.reduceLeDiff, eq_self, and_self, true_and, and_true, decide_true, decide_false, Bool.and_self, Bool.or_self, Bool.and_true, Bool.true_and, Bool.and_false, Bool.false_and, Bool.or_true, Bool.true_or, Bool.or_false, Bool.false_or, Bool.not_true, Bool.not_false, cond_true, cond_false]
  · cases h
theorem okf : EntOk Try.prog ⟨24, Rf⟩ :=
  ent_okA mixed (A := (orc [⟨83, l05Gives.R⟩, ⟨84, l05Rings.R⟩])) (orc_ok (by simp only [List.mem_cons, List.not_mem_nil, or_false, forall_eq_or_imp, forall_eq]; exact ⟨l05Gives.ok, l05Rings.ok⟩)) Try.func24 (by kernel_rfl) (by kernel_rfl) (n := 114) (ts := [4, 5, 6]) (hd := hd) (dr := Dr.std) (cut := (some 0)) (by kernel_rfl) (by kernel_rfl) (by kernel_rfl) runf
end sMostGiven

namespace sMostGivenE
def R (args : List AVal) : Option (Bool × AVal × List Blk) := match args with
  | [.ro (.rows .i64 W) m 1, .int .i64 l] => some (decide (m = W.length) && gvs.gv.sp W l, .tup [.int .i64 ((gvs.mc.sv W l.toNat : Nat) : Int), .ro (.rows .i64 (gvs.mr.sv W l.toNat)) (gvs.mr.sv W l.toNat).length 1, .bool (gvs.mo.sp W l.toNat)], [])
  | _ => none
theorem ok : EntOk Try.prog ⟨24, R⟩ := by
  refine EntOk.cases sMostGiven.okt.wkR sMostGiven.okf.wkR fun args v new h => ?_
  unfold R at h
  split at h
  · rename_i W m l
    simp only [Option.some.injEq, Prod.mk.injEq, Bool.and_eq_true, decide_eq_true_eq] at h
    obtain ⟨⟨h1, h2⟩, rfl, rfl⟩ := h
    cases hb : gvs.mo.sp W l.toNat
    · right
      have e1 : gvs.mr.sv W l.toNat = [] := by unfold gvs.mr.sv; rw [hb]; rfl
      have e2 : gvs.mc.sv W l.toNat = 0 := by unfold gvs.mc.sv; rw [hb]; rfl
      have e : sMostGiven.Rf [.ro (.rows .i64 W) m 1, .int .i64 l] = some (true, .tup [.int .i64 0, .nils, .bool false], []) := by
        simp only [sMostGiven.Rf, h1, h2, hb, decide_true, Bool.and_self, Bool.not_false]
      unfold wkR
      rw [e, e1, e2]
      rfl
    · left
      have e : sMostGiven.Rt [.ro (.rows .i64 W) m 1, .int .i64 l] = some (true, .tup [.int .i64 ((gvs.mc.sv W l.toNat : Nat) : Int), .ro (.rows .i64 (gvs.mr.sv W l.toNat)) (gvs.mr.sv W l.toNat).length 1, .bool true], []) := by
        simp only [sMostGiven.Rt, h1, h2, hb, decide_true, Bool.and_self]
      unfold wkR
      rw [e]
      rfl
  · cases h
end sMostGivenE

end Go.Proofs.Ytkoongajnnaeoaa.Ab
