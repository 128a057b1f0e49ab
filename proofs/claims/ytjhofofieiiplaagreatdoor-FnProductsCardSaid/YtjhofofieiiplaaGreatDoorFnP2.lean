/-
  Functions: texts of lists of complex numbers, and back.
-/
import Derived.Test.YtjhofofieiiplaaGreatDoorFnP1
import Derived.Test.YtjhofofieiiplaaGreatDoorFnNf
import Derived.Test.YtjhofofieiiplaaGreatDoorFnNg
import Derived.Test.YtjhofofieiiplaaGreatDoorFnNh
import Derived.Test.YtjhofofieiiplaaGreatDoorFnNl
namespace Go.Proofs.YtjhofofieiiplaaGreatDoor.Ab
open Go
set_option linter.unusedVariables false
set_option linter.unusedSimpArgs false
set_option maxRecDepth 100000

-- btab nt.none=110,111,110,101 nt.zero=48 sx.comma=44
namespace cx
theorem h_lt {s : ByteArray} (h : hx.ok.sp s = true) : hx.r.sv s < 4294967296 := by
  unfold hx.ok.sp at h
  rw [Bool.and_eq_true, decide_eq_true_eq] at h
  have h3 := hx.rd_lt (sby.sv s) 0 h.2
  have hp : 16 ^ (sby.sv s).length ≤ 16 ^ 8 := Nat.pow_le_pow_right (by decide) h.1.2
  have : hx.r.sv s < (0 + 1) * 16 ^ (sby.sv s).length := h3
  omega
theorem r_lt {s : ByteArray} (h : pok.sp s = true) : (r.sv s).1 < 4294967296 ∧ (r.sv s).2 < 4294967296 := by
  unfold pok.sp at h
  rw [Bool.and_eq_true, Bool.and_eq_true] at h
  exact ⟨h_lt h.1.1, h_lt h.1.2⟩
end cx
namespace ComplexText
def R : List AVal → Option (Bool × AVal × List Blk)
  | [.ro (.cpxs .f32 xs) m 1] => some (decide (m = xs.length ∧ m ≤ 256 ∧ ∀ x ∈ xs, x.1 < 4294967296 ∧ x.2 < 4294967296), .tup [.str (cx.tx.sv xs), .bool true], [])
  | _ => none
def hd : Nat → Head := fun _ => ⟨[4, 11, 12, 13], some 1⟩
noncomputable def L (f n : Nat) (s : State) := loopAt Tryz.prog (orc [⟨47, hexOf.R⟩, ⟨48, joined.R⟩]) hd Dr.std 0 f (bodyOf Tryz.f17) 0 [true, true, true, false, true] (retK Tryz.prog [2, 3] 0 none) n s
theorem start (xs : List (Nat × Nat)) (m : Nat) (f : Nat) :
  runFn Tryz.prog (orc [⟨47, hexOf.R⟩, ⟨48, joined.R⟩]) hd Dr.std none f (bodyOf Tryz.f17) 30 [2, 3] [.ro (.cpxs .f32 xs) m 1] []
  = (bif decide ((256 : Int) < (↑m : Int)) then some (AVal.tup [AVal.str { data := { toList := [] } }, AVal.bool false], []) else L f f (mkS (30 : Nat) [((4 : Nat), AVal.own (0 : Nat) (0 : Nat) (0 : Nat) (0 : Nat) (1 : Nat)), ((11 : Nat), AVal.ro (Cont.cpxs FloatKind.f32 xs) m (1 : Nat)), ((12 : Nat), AVal.int IntKind.i64 (↑m : Int)), ((13 : Nat), AVal.int IntKind.i64 (0 : Int))] [{ c := BC.typ (Cont.strs (List.replicate (0 : Nat) { data := { toList := [] } })), ver := (0 : Nat) }])) := by kernel_rfl
theorem round (xs : List (Nat × Nat)) (ss : List ByteArray) (m q : Nat) (i : Int) (f n : Nat) :
  L f (n + 1) (mkS 30 [(4, .own 0 0 q 0 1), (11, .ro (.cpxs .f32 xs) m 1), (12, .int .i64 ((m : Nat) : Int)), (13, .int .i64 i)] [⟨.typ (.strs ss), 0⟩])
  = (bif decide (i < (↑m : Int)) then bif true && (decide ((0 : Int) ≤ i) && decide (i < (↑m : Int))) then bif decide (i.toNat < xs.length) then bif decide ((gc xs i.toNat).1 < (4294967296 : Nat)) && (true && true || true && true) then bif decide ((gc xs i.toNat).2 < (4294967296 : Nat)) && (true && true || true && true) then bif decide (satn.sv (nt.of.sv (gc xs i.toNat).1) + satn.sv (nt.of.sv (gc xs i.toNat).2) ≤ (9223372036854775807 : Int)) then bif (1 : Nat) == (1 : Nat) && (1 : Nat) == (1 : Nat) && (true && (true && true) && (true && true && (decide (q + (List.take (1 : Nat) (List.drop (0 : Nat) ((List.replicate (1 : Nat) { data := { toList := [] } }).set (0 : Nat) (sadd.sv (nt.of.sv (gc xs i.toNat).1) (nt.of.sv (gc xs i.toNat).2))))).length ≤ (4611686018427387904 : Nat)) && decide ((q + (List.take (1 : Nat) (List.drop (0 : Nat) ((List.replicate (1 : Nat) { data := { toList := [] } }).set (0 : Nat) (sadd.sv (nt.of.sv (gc xs i.toNat).1) (nt.of.sv (gc xs i.toNat).2))))).length) * (16 : Nat) ≤ (140737488355328 : Nat))))) then L f n (mkS (30 : Nat) [((4 : Nat), AVal.own (0 : Nat) (0 : Nat) (q + (List.take (1 : Nat) (List.drop (0 : Nat) ((List.replicate (1 : Nat) { data := { toList := [] } }).set (0 : Nat) (sadd.sv (nt.of.sv (gc xs i.toNat).1) (nt.of.sv (gc xs i.toNat).2))))).length) (0 : Nat) (1 : Nat)), ((11 : Nat), AVal.ro (Cont.cpxs FloatKind.f32 xs) m (1 : Nat)), ((12 : Nat), AVal.int IntKind.i64 (↑m : Int)), ((13 : Nat), AVal.int IntKind.i64 (IntKind.i64.wrap (i + (1 : Int))))] [{ c := BC.typ (Cont.strs (List.take q ss ++ List.take (1 : Nat) (List.drop (0 : Nat) ((List.replicate (1 : Nat) { data := { toList := [] } }).set (0 : Nat) (sadd.sv (nt.of.sv (gc xs i.toNat).1) (nt.of.sv (gc xs i.toNat).2)))))), ver := (0 : Nat) }]) else none else none else none else none else none else none else bif decide (q = ss.length ∧ q ≤ (1000 : Nat)) && sx.jok.sp ss sx.comma && (false && true || true && true) then some (AVal.tup [AVal.str (nt.j.sv ss), AVal.bool true], [{ c := BC.typ (Cont.strs ss), ver := (0 : Nat) }]) else none) := by kernel_rfl
theorem gc_mem {xs : List (Nat × Nat)} {i : Nat} (h : i < xs.length) : gc xs i ∈ xs := by
  have : gc xs i = xs[i] := by simp [gc, h]
  rw [this]; exact List.getElem_mem h
theorem loop (xs : List (Nat × Nat)) (f : Nat) (hl : xs.length ≤ 256) (hw : ∀ x ∈ xs, x.1 < 4294967296 ∧ x.2 < 4294967296) : ∀ (d n i : Nat) (ss : List ByteArray), i + d = xs.length → ss = (xs.take i).map cx.of.sv → d < n →
    regc [] (L f n (mkS 30 [(4, .own 0 0 ss.length 0 1), (11, .ro (.cpxs .f32 xs) xs.length 1), (12, .int .i64 ((xs.length : Nat) : Int)), (13, .int .i64 ((i : Nat) : Int))] [⟨.typ (.strs ss), 0⟩])) = some (.tup [.str (cx.tx.sv xs), .bool true], []) := by
  intro d
  induction d with
  | zero =>
    intro n i ss hi hs hn
    obtain ⟨n, rfl⟩ : ∃ k, n = k + 1 := ⟨n - 1, by omega⟩
    have c1 : ¬ (((i : Nat) : Int) < ((xs.length : Nat) : Int)) := by omega
    obtain rfl : i = xs.length := by omega
    rw [List.take_length] at hs
    subst hs
    have c3 : (xs.map cx.of.sv).length ≤ 1000 := by rw [List.length_map]; omega
    have hj2 : sx.jok.sp (xs.map cx.of.sv) sx.comma = true := cx.jok (by omega)
    rw [round]
    simp -implicitDefEqProofs (disch := omega) only [hj2, take_one, set_one, decide_eq_true, decide_eq_false, IntWalk.i64_in, beqT, beqF, bneT, bneF, nat_succ, ← Int.natCast_mul, ← Int.natCast_add, Int.toNat_natCast, Int.zero_mul, Int.zero_add, Int.add_zero, Nat.zero_add, Nat.add_zero, Nat.zero_mul, List.length_singleton, List.length_append, List.length_nil, List.length_cons, List.take_length, List.drop_zero, List.replicate_zero, List.take_nil, List.nil_append, Nat.reduceBEq, Nat.reduceMul, Nat.reduceLeDiff, eq_self, and_self, true_and, and_true, decide_true, decide_false, Bool.and_self, Bool.or_self, Bool.and_true, Bool.true_and, Bool.and_false, Bool.false_and, Bool.or_true, Bool.true_or, Bool.or_false, Bool.false_or, Bool.not_true, Bool.not_false, cond_true, cond_false]
    rfl
  | succ d ih =>
    intro n i ss hi hs hn
    obtain ⟨n, rfl⟩ : ∃ k, n = k + 1 := ⟨n - 1, by omega⟩
    have hlt : i < xs.length := by omega
    have hw1 := (hw _ (gc_mem hlt)).1
    have hw2 := (hw _ (gc_mem hlt)).2
    have hg : gc xs i = xs[i] := by simp [gc, hlt]
    have hsl : ss.length = i := by rw [hs, List.length_map, List.length_take]; omega
    have g := ih n (i + 1) (ss ++ [cx.of.sv (gc xs i)]) (by omega) (by rw [NumbersText.take_map _ _ _ hlt, ← hs, hg]) (by omega)
    have ht : List.take ss.length ss = ss := List.take_length
    have hs16 : decide (satn.sv (nt.of.sv (gc xs i).1) + satn.sv (nt.of.sv (gc xs i).2) ≤ 9223372036854775807) = true := by rw [nt.of_size, nt.of_size]; decide
    have hc : sadd.sv (nt.of.sv (gc xs i).1) (nt.of.sv (gc xs i).2) = cx.of.sv (gc xs i) := rfl
    have one : List.take 1 (List.drop 0 ((List.replicate 1 ByteArray.empty).set 0 (cx.of.sv (gc xs i)))) = [cx.of.sv (gc xs i)] := rfl
    rw [List.length_append, List.length_singleton] at g
    rw [round]
    simp -implicitDefEqProofs (disch := omega) only [hw1, hw2, ht, hs16, hc, take_one, set_one, decide_eq_true, decide_eq_false, IntWalk.i64_in, beqT, beqF, bneT, bneF, nat_succ, ← Int.natCast_mul, ← Int.natCast_add, Int.toNat_natCast, Int.zero_mul, Int.zero_add, Int.add_zero, Nat.zero_add, Nat.add_zero, Nat.zero_mul, List.length_singleton, List.length_append, List.length_nil, List.length_cons, List.take_length, List.drop_zero, List.replicate_zero, List.take_nil, List.nil_append, Nat.reduceBEq, Nat.reduceMul, Nat.reduceLeDiff, eq_self, and_self, true_and, and_true, decide_true, decide_false, Bool.and_self, Bool.or_self, Bool.and_true, Bool.true_and, Bool.and_false, Bool.false_and, Bool.or_true, Bool.true_or, Bool.or_false, Bool.false_or, Bool.not_true, Bool.not_false, cond_true, cond_false]
    exact g
theorem run : ∀ args v new, R args = some (true, v, new) → ∃ fuel, regc [] (runFn Tryz.prog (orc [⟨47, hexOf.R⟩, ⟨48, joined.R⟩]) hd Dr.std none fuel (bodyOf Tryz.f17) 30 [2, 3] args []) = some (v, new) := by
  intro args v new h
  unfold R at h
  split at h
  · rename_i xs m
    simp only [Option.some.injEq, Prod.mk.injEq, decide_eq_true_eq] at h
    obtain ⟨⟨rfl, h1, h2⟩, rfl, rfl⟩ := h
    obtain ⟨F, hF⟩ : ∃ F : Nat, F = 1000 := ⟨1000, rfl⟩
    refine ⟨F, ?_⟩
    have g := loop xs F h1 h2 xs.length F 0 [] (by omega) rfl (by omega)
    have c : ¬ ((256 : Int) < ((xs.length : Nat) : Int)) := by omega
    rw [start, decide_eq_false c, cond_false]
    exact g
  · cases h
theorem ok : EntOk Tryz.prog ⟨17, R⟩ :=
  ent_okAG (ks := []) mixed (A := (orc [⟨47, hexOf.R⟩, ⟨48, joined.R⟩])) (orc_ok (by simp only [List.mem_cons, List.not_mem_nil, or_false, forall_eq_or_imp, forall_eq]; exact ⟨hexOf.ok, joined.ok⟩)) Tryz.func17 (by kernel_rfl) (by kernel_rfl) (n := 30) (ts := [2, 3]) (hd := hd) (dr := Dr.std) (cut := none) (by kernel_rfl) (by kernel_rfl) (by kernel_rfl) run
end ComplexText

namespace ReadComplexA
def dr : Nat → Dr := fun i => bif eqN i 7 then ⟨some [0, 1, 2, 4, 5, 3, 6, 7, 8, 9, 10], false⟩ else ⟨none, false⟩
def R : List AVal → Option (Bool × AVal × List Blk)
  | [.str s] => some (cx.rdok.sp s && !(seq.sv s nt.none), .tup [.own 0 0 (cx.rd.sv s).length 0 1, .bool true], [⟨.typ (.cpxs .f32 (cx.rd.sv s)), 0⟩])
  | _ => none
def hd : Nat → Head := fun _ => ⟨[0, 2, 3, 4, 11, 12, 13], some 1⟩
noncomputable def L (f n : Nat) (s : State) := loopAt Tryz.prog (orc [⟨49, pieces.R⟩, ⟨50, readHex.R⟩, ⟨17, ComplexText.R⟩]) hd dr 0 f (bodyOf Tryz.f18) 0 [true, true, false, true] (retK Tryz.prog [2, 3] 0 none) n s
theorem start (s : ByteArray) (f : Nat) :
  runFn Tryz.prog (orc [⟨49, pieces.R⟩, ⟨50, readHex.R⟩, ⟨17, ComplexText.R⟩]) hd dr none f (bodyOf Tryz.f18) 49 [2, 3] [.str s] []
  = (bif decide (satn.sv s ≤ (1000000 : Int)) && !seq.sv s nt.none && (true && true || false && true) then L f f (mkS (49 : Nat) [((0 : Nat), AVal.str s), ((2 : Nat), AVal.nils), ((3 : Nat), AVal.bool false), ((4 : Nat), AVal.own (0 : Nat) (0 : Nat) (0 : Nat) (0 : Nat) (1 : Nat)), ((11 : Nat), AVal.ro (Cont.strs (sx.split.sv s)) (sx.split.sv s).length (1 : Nat)), ((12 : Nat), AVal.int IntKind.i64 (↑(sx.split.sv s).length : Int)), ((13 : Nat), AVal.int IntKind.i64 (0 : Int))] [{ c := BC.typ (Cont.cpxs FloatKind.f32 (List.replicate (0 : Nat) ((0 : Nat), (0 : Nat)))), ver := (0 : Nat) }]) else none) := by kernel_rfl
theorem round (s : ByteArray) (ss : List ByteArray) (os : List (Nat × Nat)) (m q : Nat) (i : Int) (f n : Nat) :
  L f (n + 1) (mkS 49 [(0, .str s), (2, .nils), (3, .bool false), (4, .own 0 0 q 0 1), (11, .ro (.strs ss) m 1), (12, .int .i64 ((m : Nat) : Int)), (13, .int .i64 i)] [⟨.typ (.cpxs .f32 os), 0⟩])
  = (bif decide (i < (↑m : Int)) then
  bif true && (decide ((0 : Int) ≤ i) && decide (i < (↑m : Int))) then
    bif decide (i.toNat < ss.length) then
      bif satn.sv (gs ss i.toNat) != (16 : Int) then some (AVal.tup [AVal.nils, AVal.bool false], [{ c := BC.typ (Cont.cpxs FloatKind.f32 os), ver := (0 : Nat) }])
      else
        bif (↑q : Int) == (256 : Int) then some (AVal.tup [AVal.nils, AVal.bool false], [{ c := BC.typ (Cont.cpxs FloatKind.f32 os), ver := (0 : Nat) }])
        else
          bif
              decide
                  ((8 : Int) ≤
                    (↑(gs ss i.toNat).size :
                      Int)) &&
                true then
            bif
                decide
                  ((8 : Int) ≤
                    (↑(gs ss i.toNat).size :
                      Int)) then
              bif hx.ok.sp (sext.sv (gs ss i.toNat) (0 : Nat) (8 : Nat)) && (true && true || true && true) then
                bif
                    hx.ok.sp
                        (sext.sv (gs ss i.toNat) (8 : Nat)
                          (gs ss i.toNat).size) &&
                      (true && true || true && true) then
                  bif
                      (1 : Nat) == (1 : Nat) && (1 : Nat) == (1 : Nat) &&
                        (true && (true && true) &&
                          (true && true &&
                            (decide
                                (q +
                                    (List.take (1 : Nat)
                                        (List.drop (0 : Nat)
                                          ((List.replicate (1 : Nat) ((0 : Nat), (0 : Nat))).set (0 : Nat)
                                            (hx.r.sv (sext.sv (gs ss i.toNat) (0 : Nat) (8 : Nat)),
                                              hx.r.sv
                                                (sext.sv (gs ss i.toNat) (8 : Nat)
                                                  (gs ss i.toNat).size))))).length ≤
                                  (4611686018427387904 : Nat)) &&
                              decide
                                ((q +
                                      (List.take (1 : Nat)
                                          (List.drop (0 : Nat)
                                            ((List.replicate (1 : Nat) ((0 : Nat), (0 : Nat))).set (0 : Nat)
                                              (hx.r.sv (sext.sv (gs ss i.toNat) (0 : Nat) (8 : Nat)),
                                                hx.r.sv
                                                  (sext.sv (gs ss i.toNat) (8 : Nat)
                                                    (gs ss i.toNat).size))))).length) *
                                    (8 : Nat) ≤
                                  (140737488355328 : Nat))))) then
                    L f n
                      (mkS (49 : Nat)
                        [((0 : Nat), AVal.str s), ((2 : Nat), AVal.nils), ((3 : Nat), AVal.bool false),
                          ((4 : Nat),
                            AVal.own (0 : Nat) (0 : Nat)
                              (q +
                                (List.take (1 : Nat)
                                    (List.drop (0 : Nat)
                                      ((List.replicate (1 : Nat) ((0 : Nat), (0 : Nat))).set (0 : Nat)
                                        (hx.r.sv (sext.sv (gs ss i.toNat) (0 : Nat) (8 : Nat)),
                                          hx.r.sv
                                            (sext.sv (gs ss i.toNat) (8 : Nat)
                                              (gs ss i.toNat).size))))).length)
                              (0 : Nat) (1 : Nat)),
                          ((11 : Nat), AVal.ro (Cont.strs ss) m (1 : Nat)), ((12 : Nat), AVal.int IntKind.i64 (↑m : Int)), ((13 : Nat), AVal.int IntKind.i64 (IntKind.i64.wrap (i + (1 : Int))))]
                        [{
                            c :=
                              BC.typ
                                (Cont.cpxs FloatKind.f32
                                  (List.take q os ++
                                    List.take (1 : Nat)
                                      (List.drop (0 : Nat)
                                        ((List.replicate (1 : Nat) ((0 : Nat), (0 : Nat))).set (0 : Nat)
                                          (hx.r.sv (sext.sv (gs ss i.toNat) (0 : Nat) (8 : Nat)),
                                            hx.r.sv
                                              (sext.sv (gs ss i.toNat) (8 : Nat)
                                                (gs ss i.toNat).size)))))),
                            ver := (0 : Nat) }])
                  else none
                else none
              else none
            else none
          else none
    else none
  else none
else bif decide (q = os.length ∧ q ≤ (256 : Nat) ∧ ∀ (x : Nat × Nat), x ∈ os → x.fst < (4294967296 : Nat) ∧ x.snd < (4294967296 : Nat)) && (false && true || true && true && true) then bif !seq.sv (cx.tx.sv os) s then some (AVal.tup [AVal.nils, AVal.bool false], [{ c := BC.typ (Cont.cpxs FloatKind.f32 os), ver := (0 : Nat) }]) else some (AVal.tup [AVal.own (0 : Nat) (0 : Nat) q (0 : Nat) (1 : Nat), AVal.bool true], [{ c := BC.typ (Cont.cpxs FloatKind.f32 os), ver := (0 : Nat) }]) else none) := by kernel_rfl
theorem gs_eq {xs : List ByteArray} {i : Nat} (h : i < xs.length) : gs xs i = xs[i] := by simp [gs, h]
theorem loop (s : ByteArray) (ss : List ByteArray) (f : Nat) (hl : ss.length ≤ 256) (hp : ∀ p ∈ ss, cx.pok.sp p = true) (hr : cx.rd.sv s = ss.map cx.r.sv) (hs : seq.sv (cx.tx.sv (cx.rd.sv s)) s = true) : ∀ (d n i : Nat) (os : List (Nat × Nat)), i + d = ss.length → os = (ss.take i).map cx.r.sv → d < n →
    regc [0] (L f n (mkS 49 [(0, .str s), (2, .nils), (3, .bool false), (4, .own 0 0 os.length 0 1), (11, .ro (.strs ss) ss.length 1), (12, .int .i64 ((ss.length : Nat) : Int)), (13, .int .i64 ((i : Nat) : Int))] [⟨.typ (.cpxs .f32 os), 0⟩])) = some (.tup [.own 0 0 (cx.rd.sv s).length 0 1, .bool true], [⟨.typ (.cpxs .f32 (cx.rd.sv s)), 0⟩]) := by
  intro d
  induction d with
  | zero =>
    intro n i os hi ho hn
    obtain ⟨n, rfl⟩ : ∃ k, n = k + 1 := ⟨n - 1, by omega⟩
    obtain rfl : i = ss.length := by omega
    rw [List.take_length, ← hr] at ho
    have hlen : os.length = ss.length := by rw [ho, hr, List.length_map]
    have hw : ∀ x ∈ os, x.1 < 4294967296 ∧ x.2 < 4294967296 := by
      intro x hx
      rw [ho, hr] at hx
      obtain ⟨p, hp1, rfl⟩ := List.mem_map.1 hx
      exact cx.r_lt (hp p hp1)
    have hc : os.length = os.length ∧ os.length ≤ 256 ∧ ∀ x ∈ os, x.1 < 4294967296 ∧ x.2 < 4294967296 := ⟨rfl, by omega, hw⟩
    have hs2 : seq.sv (cx.tx.sv os) s = true := by rw [ho]; exact hs
    have c1 : ¬ (((ss.length : Nat) : Int) < ((ss.length : Nat) : Int)) := by omega
    rw [round, decide_eq_false c1, cond_false, decide_eq_true hc, hs2, ← ho]
    rfl
  | succ d ih =>
    intro n i os hi ho hn
    obtain ⟨n, rfl⟩ : ∃ k, n = k + 1 := ⟨n - 1, by omega⟩
    have hlt : i < ss.length := by omega
    have hg := gs_eq hlt
    have hpi := hp (gs ss i) (by rw [hg]; exact List.getElem_mem hlt)
    have hpi2 := hpi
    unfold cx.pok.sp at hpi2
    rw [Bool.and_eq_true, beq_iff_eq, Bool.and_eq_true] at hpi2
    have k1 := hpi2.1.1
    have k5 := hpi2.1.2
    have k2 := hpi2.2
    have k2' := k2
    unfold satn.sv at k2'
    have k4 : decide ((8 : Int) ≤ (((gs ss i).size : Nat) : Int)) = true := decide_eq_true (by omega)
    have hol : os.length = i := by rw [ho, List.length_map, List.length_take]; omega
    have g := ih n (i + 1) (os ++ [cx.r.sv (gs ss i)]) (by omega) (by rw [NumbersText.take_map _ _ _ hlt, ← ho, hg]) (by omega)
    have ht : List.take os.length os = os := List.take_length
    have one : List.take 1 (List.drop 0 ((List.replicate 1 ((0 : Nat), (0 : Nat))).set 0 (cx.r.sv (gs ss i)))) = [cx.r.sv (gs ss i)] := rfl
    have k3 : (((os.length : Nat) : Int) == 256) = false := by rw [beq_eq_false_iff_ne]; omega
    rw [List.length_append, List.length_singleton] at g
    rw [round]
    simp -implicitDefEqProofs (disch := omega) only [k1, k2, k3, k4, k5, ht, take_one, set_one, decide_eq_true, decide_eq_false, IntWalk.i64_in, beqT, beqF, bneT, bneF, nat_succ, ← Int.natCast_mul, ← Int.natCast_add, Int.toNat_natCast, Int.zero_mul, Int.zero_add, Int.add_zero, Nat.zero_add, Nat.add_zero, Nat.zero_mul, List.length_singleton, List.length_append, List.length_nil, List.length_cons, List.take_length, List.drop_zero, List.replicate_zero, List.take_nil, List.nil_append, Nat.reduceBEq, Nat.reduceMul, Nat.reduceLeDiff, eq_self, and_self, true_and, and_true, decide_true, decide_false, Bool.and_self, Bool.or_self, Bool.and_true, Bool.true_and, Bool.and_false, Bool.false_and, Bool.or_true, Bool.true_or, Bool.or_false, Bool.false_or, Bool.not_true, Bool.not_false, cond_true, cond_false]
    exact g
theorem run : ∀ args v new, R args = some (true, v, new) → ∃ fuel, regc [0] (runFn Tryz.prog (orc [⟨49, pieces.R⟩, ⟨50, readHex.R⟩, ⟨17, ComplexText.R⟩]) hd dr none fuel (bodyOf Tryz.f18) 49 [2, 3] args []) = some (v, new) := by
  intro args v new h
  unfold R at h
  split at h
  · rename_i s
    simp only [Option.some.injEq, Prod.mk.injEq, Bool.and_eq_true, Bool.not_eq_true'] at h
    obtain ⟨⟨h1, h2⟩, rfl, rfl⟩ := h
    unfold cx.rdok.sp at h1
    simp only [Bool.and_eq_true, decide_eq_true_eq, Bool.or_eq_true, List.all_eq_true] at h1
    obtain ⟨⟨h3, h4, h5⟩, h6⟩ := h1
    obtain ⟨F, hF⟩ : ∃ F : Nat, F = 1000 := ⟨1000, rfl⟩
    refine ⟨F, ?_⟩
    have h5' : ∀ p ∈ sx.split.sv s, cx.pok.sp p = true := by
      rcases h5 with h5 | h5
      · rw [h2] at h5; cases h5
      · exact h5
    have hr : cx.rd.sv s = (sx.split.sv s).map cx.r.sv := by unfold cx.rd.sv; rw [h2]; rfl
    have g := loop s (sx.split.sv s) F h4 h5' hr h6 (sx.split.sv s).length F 0 [] (by omega) rfl (by omega)
    rw [start, h2, decide_eq_true h3]
    exact g

  · cases h
theorem ok : EntOk Tryz.prog ⟨18, R⟩ :=
  ent_okAG (ks := [0]) mixed (A := (orc [⟨49, pieces.R⟩, ⟨50, readHex.R⟩, ⟨17, ComplexText.R⟩])) (orc_ok (by simp only [List.mem_cons, List.not_mem_nil, or_false, forall_eq_or_imp, forall_eq]; exact ⟨pieces.ok, readHex.ok, ComplexText.ok⟩)) Tryz.func18 (by kernel_rfl) (by kernel_rfl) (n := 49) (ts := [2, 3]) (hd := hd) (dr := dr) (cut := none) (by kernel_rfl) (by kernel_rfl) (by kernel_rfl) run
end ReadComplexA

namespace ReadComplexB
def dr : Nat → Dr := fun i => bif eqN i 7 then ⟨some [0, 1, 2, 4, 5, 3, 6, 7, 8, 9, 10], false⟩ else ⟨none, false⟩
def R : List AVal → Option (Bool × AVal × List Blk)
  | [.str s] => some (cx.rdok.sp s && seq.sv s nt.none, .tup [.own 0 0 (cx.rd.sv s).length 0 1, .bool true], [⟨.typ (.cpxs .f32 (cx.rd.sv s)), 0⟩])
  | _ => none
def hd : Nat → Head := fun _ => ⟨[0, 2, 3, 4, 11, 12, 13], some 1⟩
noncomputable def L (f n : Nat) (s : State) := loopAt Tryz.prog (orc [⟨49, pieces.RN⟩, ⟨50, readHex.R⟩, ⟨17, ComplexText.R⟩]) hd dr 0 f (bodyOf Tryz.f18) 0 [true, true, false, true] (retK Tryz.prog [2, 3] 0 none) n s
theorem start (s : ByteArray) (f : Nat) :
  runFn Tryz.prog (orc [⟨49, pieces.RN⟩, ⟨50, readHex.R⟩, ⟨17, ComplexText.R⟩]) hd dr none f (bodyOf Tryz.f18) 49 [2, 3] [.str s] []
  = (bif seq.sv s nt.none && (true && true || true && true) then L f f (mkS (49 : Nat) [((0 : Nat), AVal.str s), ((2 : Nat), AVal.nils), ((3 : Nat), AVal.bool false), ((4 : Nat), AVal.own (0 : Nat) (0 : Nat) (0 : Nat) (0 : Nat) (1 : Nat)), ((11 : Nat), AVal.nils), ((12 : Nat), AVal.int IntKind.i64 (0 : Int)), ((13 : Nat), AVal.int IntKind.i64 (0 : Int))] [{ c := BC.typ (Cont.cpxs FloatKind.f32 (List.replicate (0 : Nat) ((0 : Nat), (0 : Nat)))), ver := (0 : Nat) }]) else none) := by kernel_rfl
theorem round0 (s : ByteArray) (f n : Nat) :
  L f (n + 1) (mkS 49 [(0, .str s), (2, .nils), (3, .bool false), (4, .own 0 0 0 0 1), (11, .nils), (12, .int .i64 0), (13, .int .i64 0)] [⟨.typ (.cpxs .f32 (List.replicate 0 (0, 0))), 0⟩])
  = (bif false && true || true && true then bif !seq.sv (cx.tx.sv (List.replicate (0 : Nat) ((0 : Nat), (0 : Nat)))) s then some (AVal.tup [AVal.nils, AVal.bool false], [{ c := BC.typ (Cont.cpxs FloatKind.f32 (List.replicate (0 : Nat) ((0 : Nat), (0 : Nat)))), ver := (0 : Nat) }]) else some (AVal.tup [AVal.own (0 : Nat) (0 : Nat) (0 : Nat) (0 : Nat) (1 : Nat), AVal.bool true], [{ c := BC.typ (Cont.cpxs FloatKind.f32 (List.replicate (0 : Nat) ((0 : Nat), (0 : Nat)))), ver := (0 : Nat) }]) else none) := by kernel_rfl
theorem run : ∀ args v new, R args = some (true, v, new) → ∃ fuel, regc [0] (runFn Tryz.prog (orc [⟨49, pieces.RN⟩, ⟨50, readHex.R⟩, ⟨17, ComplexText.R⟩]) hd dr none fuel (bodyOf Tryz.f18) 49 [2, 3] args []) = some (v, new) := by
  intro args v new h
  unfold R at h
  split at h
  · rename_i s
    simp only [Option.some.injEq, Prod.mk.injEq, Bool.and_eq_true, Bool.not_eq_true'] at h
    obtain ⟨⟨h1, h2⟩, rfl, rfl⟩ := h
    unfold cx.rdok.sp at h1
    simp only [Bool.and_eq_true, decide_eq_true_eq, Bool.or_eq_true, List.all_eq_true] at h1
    obtain ⟨⟨h3, h4, h5⟩, h6⟩ := h1
    obtain ⟨F, hF⟩ : ∃ F : Nat, F = 1000 := ⟨1000, rfl⟩
    refine ⟨F, ?_⟩
    have hr : cx.rd.sv s = [] := by unfold cx.rd.sv; rw [h2]; rfl
    have h7 : seq.sv (cx.tx.sv (List.replicate 0 (0, 0))) s = true := by rw [hr] at h6; exact h6
    obtain ⟨F, rfl⟩ : ∃ k, F = k + 1 := ⟨F - 1, by omega⟩
    rw [start, h2, hr]
    simp -implicitDefEqProofs only [Bool.and_self, Bool.or_self, cond_true]
    rw [round0, h7]
    simp -implicitDefEqProofs only [Bool.and_self, Bool.or_self, Bool.false_and, Bool.false_or, Bool.not_true, cond_true, cond_false]
    rfl

  · cases h
theorem ok : EntOk Tryz.prog ⟨18, R⟩ :=
  ent_okAG (ks := [0]) mixed (A := (orc [⟨49, pieces.RN⟩, ⟨50, readHex.R⟩, ⟨17, ComplexText.R⟩])) (orc_ok (by simp only [List.mem_cons, List.not_mem_nil, or_false, forall_eq_or_imp, forall_eq]; exact ⟨pieces.okN, readHex.ok, ComplexText.ok⟩)) Tryz.func18 (by kernel_rfl) (by kernel_rfl) (n := 49) (ts := [2, 3]) (hd := hd) (dr := dr) (cut := none) (by kernel_rfl) (by kernel_rfl) (by kernel_rfl) run
end ReadComplexB

namespace ReadComplex
def R : List AVal → Option (Bool × AVal × List Blk)
  | [.str s] => some (cx.rdok.sp s, .tup [.own 0 0 (cx.rd.sv s).length 0 1, .bool true], [⟨.typ (.cpxs .f32 (cx.rd.sv s)), 0⟩])
  | _ => none
theorem ok : EntOk Tryz.prog ⟨18, R⟩ := by
  refine ReadComplexA.ok.cases ReadComplexB.ok fun args v new h => ?_
  unfold R at h
  split at h
  · rename_i s
    simp only [Option.some.injEq, Prod.mk.injEq] at h
    obtain ⟨h1, rfl, rfl⟩ := h
    cases hn : seq.sv s nt.none with
    | false => left; simp only [ReadComplexA.R, h1, hn]; rfl
    | true => right; simp only [ReadComplexB.R, h1, hn]; rfl
  · cases h
end ReadComplex

namespace dw
/-- A complex number of two drawn parts; one of two fine parts. -/
def dc.sv (xs : List Int) (a s : Int) : (Nat × Nat) × Int × Int := (((df.sv xs a s).1, (df.sv xs (df.sv xs a s).2.1 (df.sv xs a s).2.2).1), (df.sv xs (df.sv xs a s).2.1 (df.sv xs a s).2.2).2)
def sx.sv (n : Int) : Nat := fdiv .f32 (FloatKind.f32.nearest (n - 32)) 1098907648
def fi.sv (xs : List Int) (a s : Int) : (Nat × Nat) × Int × Int := ((sx.sv (pk.sv xs 65 a s).1, sx.sv (pk.sv xs 65 (pk.sv xs 65 a s).2.1 (pk.sv xs 65 a s).2.2).1), (pk.sv xs 65 (pk.sv xs 65 a s).2.1 (pk.sv xs 65 a s).2.2).2)
def co.sv (xs : List Int) (b : Bool) (a s : Int) : (Nat × Nat) × Int × Int := bif b then dc.sv xs a s else fi.sv xs a s
theorem co_f (xs : List Int) (a s : Int) : co.sv xs false a s = fi.sv xs a s := by unfold co.sv; exact cond_false _ _
theorem co_t (xs : List Int) (a s : Int) : co.sv xs true a s = dc.sv xs a s := by unfold co.sv; exact cond_true _ _
theorem dc_in {xs : List Int} (h : r8.bytes.sp xs = true) (a s : Int) : a ≤ (dc.sv xs a s).2.1 ∧ (dc.sv xs a s).2.1 ≤ a + 24 := by
  have h1 := df_in h a s
  have h2 := df_in h (df.sv xs a s).2.1 (df.sv xs a s).2.2
  show a ≤ (df.sv xs (df.sv xs a s).2.1 (df.sv xs a s).2.2).2.1 ∧ (df.sv xs (df.sv xs a s).2.1 (df.sv xs a s).2.2).2.1 ≤ a + 24
  omega
theorem fi_in {xs : List Int} (h : r8.bytes.sp xs = true) (a s : Int) : a ≤ (fi.sv xs a s).2.1 ∧ (fi.sv xs a s).2.1 ≤ a + 4 := by
  have h1 := pk_in h (n := 65) (by decide) a s
  have h2 := pk_in h (n := 65) (by decide) (pk.sv xs 65 a s).2.1 (pk.sv xs 65 a s).2.2
  show a ≤ (pk.sv xs 65 (pk.sv xs 65 a s).2.1 (pk.sv xs 65 a s).2.2).2.1 ∧ (pk.sv xs 65 (pk.sv xs 65 a s).2.1 (pk.sv xs 65 a s).2.2).2.1 ≤ a + 4
  omega
theorem co_in {xs : List Int} (h : r8.bytes.sp xs = true) (b : Bool) (a s : Int) : a ≤ (co.sv xs b a s).2.1 ∧ (co.sv xs b a s).2.1 ≤ a + 24 := by
  unfold co.sv
  have h1 := dc_in h a s
  have h2 := fi_in h a s
  cases b
  · rw [cond_false]; omega
  · rw [cond_true]; omega
theorem co_lt {xs : List Int} (h : r8.bytes.sp xs = true) (b : Bool) (a s : Int) : (co.sv xs b a s).1.1 < 4294967296 ∧ (co.sv xs b a s).1.2 < 4294967296 := by
  unfold co.sv
  cases b
  · exact ⟨fl.fdiv_lt _ _, fl.fdiv_lt _ _⟩
  · exact ⟨df_lt h _ _, df_lt h _ _⟩
/-- So many, and where the source stands then. -/
def cs.sv (xs : List Int) (b : Bool) : Nat → Int → Int → List (Nat × Nat)
  | 0, _, _ => []
  | k + 1, a, s => (co.sv xs b a s).1 :: cs.sv xs b k (co.sv xs b a s).2.1 (co.sv xs b a s).2.2
def ce.sv (xs : List Int) (b : Bool) : Nat → Int → Int → Int × Int
  | 0, a, s => (a, s)
  | k + 1, a, s => ce.sv xs b k (co.sv xs b a s).2.1 (co.sv xs b a s).2.2
theorem cs_len (xs : List Int) (b : Bool) : ∀ (k : Nat) (a s : Int), (cs.sv xs b k a s).length = k
  | 0, _, _ => rfl
  | k + 1, a, s => by rw [cs.sv, List.length_cons, cs_len xs b k]
theorem cs_lt {xs : List Int} (h : r8.bytes.sp xs = true) (b : Bool) : ∀ (k : Nat) (a s : Int), ∀ x ∈ cs.sv xs b k a s, x.1 < 4294967296 ∧ x.2 < 4294967296
  | 0, a, s, x, hx => by cases hx
  | k + 1, a, s, x, hx => by
    rw [cs.sv, List.mem_cons] at hx
    rcases hx with rfl | hx
    · exact co_lt h b a s
    · exact cs_lt h b k _ _ x hx
def cl.sv (xs : List Int) (n : Nat) (a s : Int) : List (Nat × Nat) := cs.sv xs ((pk.sv xs 5 a s).1 == 0) n (pk.sv xs 5 a s).2.1 (pk.sv xs 5 a s).2.2
def cq.sv (xs : List Int) (n : Nat) (a s : Int) : Int × Int := ce.sv xs ((pk.sv xs 5 a s).1 == 0) n (pk.sv xs 5 a s).2.1 (pk.sv xs 5 a s).2.2
theorem cl_len (xs : List Int) (n : Nat) (a s : Int) : (cl.sv xs n a s).length = n := cs_len _ _ _ _ _
theorem cl_lt {xs : List Int} (h : r8.bytes.sp xs = true) (n : Nat) (a s : Int) : ∀ x ∈ cl.sv xs n a s, x.1 < 4294967296 ∧ x.2 < 4294967296 := cs_lt h _ _ _ _
def c.sv (xs : List Int) : Nat × Nat := (co.sv xs ((pk.sv xs 4 0 0).1 == 0) (pk.sv xs 4 0 0).2.1 (pk.sv xs 4 0 0).2.2).1
theorem c_lt {xs : List Int} (h : r8.bytes.sp xs = true) : (c.sv xs).1 < 4294967296 ∧ (c.sv xs).2 < 4294967296 := co_lt h _ _ _
/-- Whole parts, up to two hundred. -/
def w1.sv (xs : List Int) : Int := (pk.sv xs 401 0 0).1 - 200
def w2.sv (xs : List Int) : Int := (pk.sv xs 401 (pk.sv xs 401 0 0).2.1 (pk.sv xs 401 0 0).2.2).1 - 200
def u1.sv (xs : List Int) : Nat := FloatKind.f32.nearest (w1.sv xs)
def u2.sv (xs : List Int) : Nat := FloatKind.f32.nearest (w2.sv xs)
theorem w_in {xs : List Int} (h : r8.bytes.sp xs = true) : (-200 ≤ w1.sv xs ∧ w1.sv xs ≤ 200) ∧ (-200 ≤ w2.sv xs ∧ w2.sv xs ≤ 200) := by
  have h1 := pk_in h (n := 401) (by decide) 0 0
  have h2 := pk_in h (n := 401) (by decide) (pk.sv xs 401 0 0).2.1 (pk.sv xs 401 0 0).2.2
  unfold w1.sv w2.sv
  omega
end dw

namespace l01DrawComplex
def R : List AVal → Heap → Option (Bool × AVal × Heap)
  | [.ptr 0 0 0], [⟨.cells [.ro (.ints .u8 xs) m 1, .int .i64 a, .int .u64 s], 0⟩] => some (decide (m = xs.length ∧ m ≤ 2000000 ∧ 0 ≤ a ∧ a ≤ 999900) && r8.bytes.sp xs, .cpx .f32 (dw.dc.sv xs a s).1.1 (dw.dc.sv xs a s).1.2, [⟨.cells [.ro (.ints .u8 xs) m 1, .int .i64 (dw.dc.sv xs a s).2.1, .int .u64 (dw.dc.sv xs a s).2.2], 0⟩])
  | _, _ => none
theorem go (xs : List Int) (a s : Int) :
  runFn Tryz.prog (orcW [⟨53, l01DrawFloat.R⟩] []) hd0 Dr.std none 0 (bodyOf Tryz.f57) 10 [2] [.ptr 0 0 0] [⟨.cells [.ro (.ints .u8 xs) xs.length 1, .int .i64 a, .int .u64 s], 0⟩]
  = (bif true && true then bif decide (xs.length = xs.length ∧ xs.length ≤ (2000000 : Nat) ∧ (0 : Int) ≤ a ∧ a ≤ (999960 : Int)) && r8.bytes.sp xs && (true && (true && true)) then bif decide (xs.length = xs.length ∧ xs.length ≤ (2000000 : Nat) ∧ (0 : Int) ≤ (dw.df.sv xs a s).2.1 ∧ (dw.df.sv xs a s).2.1 ≤ (999960 : Int)) && r8.bytes.sp xs && (true && (true && true)) then some (AVal.cpx FloatKind.f32 (dw.df.sv xs a s).1 (dw.df.sv xs (dw.df.sv xs a s).2.1 (dw.df.sv xs a s).2.2).1, [{ c := BC.cells [AVal.ro (Cont.ints IntKind.u8 xs) xs.length (1 : Nat), AVal.int IntKind.i64 (dw.df.sv xs (dw.df.sv xs a s).2.1 (dw.df.sv xs a s).2.2).2.1, AVal.int IntKind.u64 (dw.df.sv xs (dw.df.sv xs a s).2.1 (dw.df.sv xs a s).2.2).2.2], ver := (0 : Nat) }]) else none else none else none) := by kernel_rfl
theorem run : ∀ args H v new, R args H = some (true, v, new) → ∃ fuel, runFn Tryz.prog (orcW [⟨53, l01DrawFloat.R⟩] []) hd0 Dr.std none fuel (bodyOf Tryz.f57) 10 [2] args H = some (v, new) := by
  intro args H v new h
  unfold R at h
  split at h
  · rename_i xs m a s
    simp only [Option.some.injEq, Prod.mk.injEq, Bool.and_eq_true, decide_eq_true_eq] at h
    obtain ⟨⟨⟨rfl, h1, h2, h3⟩, hb⟩, rfl, rfl⟩ := h
    refine ⟨0, ?_⟩
    have p := dw.df_in hb a s
    rw [go]
    simp -implicitDefEqProofs (disch := omega) only [hb, take_one, set_one, decide_eq_true, decide_eq_false, IntWalk.i64_in, beqT, beqF, bneT, bneF, nat_succ, ← Int.natCast_mul, ← Int.natCast_add, Int.toNat_natCast, Int.zero_mul, Int.zero_add, Int.add_zero, Nat.zero_add, Nat.add_zero, Nat.zero_mul, List.length_singleton, List.length_append, List.length_nil, List.length_cons, List.take_length, List.drop_zero, List.replicate_zero, List.take_nil, List.nil_append, Nat.reduceBEq, Nat.reduceMul, Nat.reduceLeDiff, eq_self, and_self, true_and, and_true, decide_true, decide_false, Bool.and_self, Bool.or_self, Bool.and_true, Bool.true_and, Bool.and_false, Bool.false_and, Bool.or_true, Bool.true_or, Bool.or_false, Bool.false_or, Bool.not_true, Bool.not_false, cond_true, cond_false]
    rfl
  · cases h
theorem ok : EntWOk Tryz.prog ⟨57, R⟩ :=
  entw_ok mixed (A := (orcW [⟨53, l01DrawFloat.R⟩] [])) (orcW_ok (by simp only [List.mem_cons, List.not_mem_nil, or_false, forall_eq_or_imp, forall_eq]; exact l01DrawFloat.ok) (by simp)) Tryz.func57 (by kernel_rfl) (by kernel_rfl) (n := 10) (ts := [2]) (hd := hd0) (dr := Dr.std) (cut := none) (by kernel_rfl) (by kernel_rfl) (by kernel_rfl) run
end l01DrawComplex

namespace l01DrawFine
def R : List AVal → Heap → Option (Bool × AVal × Heap)
  | [.ptr 0 0 0], [⟨.cells [.ro (.ints .u8 xs) m 1, .int .i64 a, .int .u64 s], 0⟩] => some (decide (m = xs.length ∧ m ≤ 2000000 ∧ 0 ≤ a ∧ a ≤ 999900) && r8.bytes.sp xs, .cpx .f32 (dw.fi.sv xs a s).1.1 (dw.fi.sv xs a s).1.2, [⟨.cells [.ro (.ints .u8 xs) m 1, .int .i64 (dw.fi.sv xs a s).2.1, .int .u64 (dw.fi.sv xs a s).2.2], 0⟩])
  | _, _ => none
theorem go (xs : List Int) (a s : Int) :
  runFn Tryz.prog (orcW [⟨39, bPk.R⟩] []) hd0 Dr.std none 0 (bodyOf Tryz.f58) 16 [2] [.ptr 0 0 0] [⟨.cells [.ro (.ints .u8 xs) xs.length 1, .int .i64 a, .int .u64 s], 0⟩]
  = (bif true && true then bif decide (xs.length = xs.length ∧ xs.length ≤ (2000000 : Nat) ∧ (0 : Int) ≤ a ∧ a ≤ (999990 : Int) ∧ (1 : Int) ≤ (65 : Int) ∧ (65 : Int) ≤ (65536 : Int)) && r8.bytes.sp xs && (true && (true && true)) then bif decide (xs.length = xs.length ∧ xs.length ≤ (2000000 : Nat) ∧ (0 : Int) ≤ (dw.pk.sv xs (65 : Int) a s).2.1 ∧ (dw.pk.sv xs (65 : Int) a s).2.1 ≤ (999990 : Int) ∧ (1 : Int) ≤ (65 : Int) ∧ (65 : Int) ≤ (65536 : Int)) && r8.bytes.sp xs && (true && (true && true)) then some (AVal.cpx FloatKind.f32 (fdiv FloatKind.f32 (FloatKind.f32.nearest (IntKind.i64.wrap ((dw.pk.sv xs (65 : Int) a s).1 - (32 : Int)))) (1098907648 : Nat)) (fdiv FloatKind.f32 (FloatKind.f32.nearest (IntKind.i64.wrap ((dw.pk.sv xs (65 : Int) (dw.pk.sv xs (65 : Int) a s).2.1 (dw.pk.sv xs (65 : Int) a s).2.2).1 - (32 : Int)))) (1098907648 : Nat)), [{ c := BC.cells [AVal.ro (Cont.ints IntKind.u8 xs) xs.length (1 : Nat), AVal.int IntKind.i64 (dw.pk.sv xs (65 : Int) (dw.pk.sv xs (65 : Int) a s).2.1 (dw.pk.sv xs (65 : Int) a s).2.2).2.1, AVal.int IntKind.u64 (dw.pk.sv xs (65 : Int) (dw.pk.sv xs (65 : Int) a s).2.1 (dw.pk.sv xs (65 : Int) a s).2.2).2.2], ver := (0 : Nat) }]) else none else none else none) := by kernel_rfl
theorem run : ∀ args H v new, R args H = some (true, v, new) → ∃ fuel, runFn Tryz.prog (orcW [⟨39, bPk.R⟩] []) hd0 Dr.std none fuel (bodyOf Tryz.f58) 16 [2] args H = some (v, new) := by
  intro args H v new h
  unfold R at h
  split at h
  · rename_i xs m a s
    simp only [Option.some.injEq, Prod.mk.injEq, Bool.and_eq_true, decide_eq_true_eq] at h
    obtain ⟨⟨⟨rfl, h1, h2, h3⟩, hb⟩, rfl, rfl⟩ := h
    refine ⟨0, ?_⟩
    have p := dw.pk_in hb (n := 65) (by decide) a s
    have p2 := dw.pk_in hb (n := 65) (by decide) (dw.pk.sv xs 65 a s).2.1 (dw.pk.sv xs 65 a s).2.2
    rw [go]
    simp -implicitDefEqProofs (disch := omega) only [hb, take_one, set_one, decide_eq_true, decide_eq_false, IntWalk.i64_in, beqT, beqF, bneT, bneF, nat_succ, ← Int.natCast_mul, ← Int.natCast_add, Int.toNat_natCast, Int.zero_mul, Int.zero_add, Int.add_zero, Nat.zero_add, Nat.add_zero, Nat.zero_mul, List.length_singleton, List.length_append, List.length_nil, List.length_cons, List.take_length, List.drop_zero, List.replicate_zero, List.take_nil, List.nil_append, Nat.reduceBEq, Nat.reduceMul, Nat.reduceLeDiff, eq_self, and_self, true_and, and_true, decide_true, decide_false, Bool.and_self, Bool.or_self, Bool.and_true, Bool.true_and, Bool.and_false, Bool.false_and, Bool.or_true, Bool.true_or, Bool.or_false, Bool.false_or, Bool.not_true, Bool.not_false, cond_true, cond_false]
    rfl
  · cases h
theorem ok : EntWOk Tryz.prog ⟨58, R⟩ :=
  entw_ok mixed (A := (orcW [⟨39, bPk.R⟩] [])) (orcW_ok (by simp only [List.mem_cons, List.not_mem_nil, or_false, forall_eq_or_imp, forall_eq]; exact bPk.ok) (by simp)) Tryz.func58 (by kernel_rfl) (by kernel_rfl) (n := 16) (ts := [2]) (hd := hd0) (dr := Dr.std) (cut := none) (by kernel_rfl) (by kernel_rfl) (by kernel_rfl) run
end l01DrawFine

namespace l01DrawComplexes
def R : List AVal → Heap → Option (Bool × AVal × Heap)
  | [.ptr 0 0 0, .int .i64 n], [⟨.cells [.ro (.ints .u8 xs) m 1, .int .i64 a, .int .u64 s], 0⟩] => some (decide (m = xs.length ∧ m ≤ 2000000 ∧ 0 ≤ a ∧ a ≤ 900000 ∧ 0 ≤ n ∧ n ≤ 1000) && r8.bytes.sp xs, .own 1 0 n.toNat 0 1, [⟨.cells [.ro (.ints .u8 xs) m 1, .int .i64 (dw.cq.sv xs n.toNat a s).1, .int .u64 (dw.cq.sv xs n.toNat a s).2], 0⟩, ⟨.typ (.cpxs .f32 (dw.cl.sv xs n.toNat a s)), 0⟩])
  | _, _ => none
def hd : Nat → Head := fun _ => ⟨[0, 1, 5, 6], some 1⟩
noncomputable def L (f n : Nat) (s : State) := loopAt Tryz.prog (orcW [⟨57, l01DrawComplex.R⟩, ⟨58, l01DrawFine.R⟩, ⟨51, bOn.R⟩] []) hd Dr.std 1 f (bodyOf Tryz.f46) 0 [true, true, true, false] (retK Tryz.prog [4] 1 none) n s
theorem start (xs : List Int) (n a s : Int) (f : Nat) :
  runFn Tryz.prog (orcW [⟨57, l01DrawComplex.R⟩, ⟨58, l01DrawFine.R⟩, ⟨51, bOn.R⟩] []) hd Dr.std none f (bodyOf Tryz.f46) 26 [4] [.ptr 0 0 0, .int .i64 n] [⟨.cells [.ro (.ints .u8 xs) xs.length 1, .int .i64 a, .int .u64 s], 0⟩]
  = (bif true && true then bif decide (xs.length = xs.length ∧ xs.length ≤ (2000000 : Nat) ∧ (0 : Int) ≤ a ∧ a ≤ (999990 : Int) ∧ (1 : Int) ≤ (5 : Int) ∧ (5 : Int) ≤ (65536 : Int)) && r8.bytes.sp xs && (true && (true && true)) then L f f (mkS (26 : Nat) [((0 : Nat), AVal.ptr (0 : Nat) (0 : Nat) (0 : Nat)), ((1 : Nat), AVal.int IntKind.i64 n), ((5 : Nat), AVal.own (1 : Nat) (0 : Nat) (0 : Nat) (0 : Nat) (1 : Nat)), ((6 : Nat), AVal.bool ((dw.pk.sv xs (5 : Int) a s).1 == (0 : Int)))] [{ c := BC.cells [AVal.ro (Cont.ints IntKind.u8 xs) xs.length (1 : Nat), AVal.int IntKind.i64 (dw.pk.sv xs (5 : Int) a s).2.1, AVal.int IntKind.u64 (dw.pk.sv xs (5 : Int) a s).2.2], ver := (0 : Nat) }, { c := BC.typ (Cont.cpxs FloatKind.f32 (List.replicate (0 : Nat) ((0 : Nat), (0 : Nat)))), ver := (0 : Nat) }]) else none else none) := by kernel_rfl
theorem round (xs : List Int) (os : List (Nat × Nat)) (n a s : Int) (b : Bool) (q f m : Nat) :
  L f (m + 1) (mkS 26 [(0, .ptr 0 0 0), (1, .int .i64 n), (5, .own 1 0 q 0 1), (6, .bool b)] [⟨.cells [.ro (.ints .u8 xs) xs.length 1, .int .i64 a, .int .u64 s], 0⟩, ⟨.typ (.cpxs .f32 os), 0⟩])
  = (bif decide ((0 : Int) < n) then bif b then bif decide (xs.length = xs.length ∧ xs.length ≤ (2000000 : Nat) ∧ (0 : Int) ≤ a ∧ a ≤ (999900 : Int)) && r8.bytes.sp xs && (true && (true && true)) then bif (1 : Nat) == (1 : Nat) && (1 : Nat) == (1 : Nat) && (true && (true && true) && (true && true && (decide (q + (List.take (1 : Nat) (List.drop (0 : Nat) ((List.replicate (1 : Nat) ((0 : Nat), (0 : Nat))).set (0 : Nat) ((dw.dc.sv xs a s).1.1, (dw.dc.sv xs a s).1.2)))).length ≤ (4611686018427387904 : Nat)) && decide ((q + (List.take (1 : Nat) (List.drop (0 : Nat) ((List.replicate (1 : Nat) ((0 : Nat), (0 : Nat))).set (0 : Nat) ((dw.dc.sv xs a s).1.1, (dw.dc.sv xs a s).1.2)))).length) * (8 : Nat) ≤ (140737488355328 : Nat))))) then L f m (mkS (26 : Nat) [((0 : Nat), AVal.ptr (0 : Nat) (0 : Nat) (0 : Nat)), ((1 : Nat), AVal.int IntKind.i64 (IntKind.i64.wrap (n - (1 : Int)))), ((5 : Nat), AVal.own (1 : Nat) (0 : Nat) (q + (List.take (1 : Nat) (List.drop (0 : Nat) ((List.replicate (1 : Nat) ((0 : Nat), (0 : Nat))).set (0 : Nat) ((dw.dc.sv xs a s).1.1, (dw.dc.sv xs a s).1.2)))).length) (0 : Nat) (1 : Nat)), ((6 : Nat), AVal.bool b)] [{ c := BC.cells [AVal.ro (Cont.ints IntKind.u8 xs) xs.length (1 : Nat), AVal.int IntKind.i64 (dw.dc.sv xs a s).2.1, AVal.int IntKind.u64 (dw.dc.sv xs a s).2.2], ver := (0 : Nat) }, { c := BC.typ (Cont.cpxs FloatKind.f32 (List.take q os ++ List.take (1 : Nat) (List.drop (0 : Nat) ((List.replicate (1 : Nat) ((0 : Nat), (0 : Nat))).set (0 : Nat) ((dw.dc.sv xs a s).1.1, (dw.dc.sv xs a s).1.2))))), ver := (0 : Nat) }]) else none else none else bif decide (xs.length = xs.length ∧ xs.length ≤ (2000000 : Nat) ∧ (0 : Int) ≤ a ∧ a ≤ (999900 : Int)) && r8.bytes.sp xs && (true && (true && true)) then bif (1 : Nat) == (1 : Nat) && (1 : Nat) == (1 : Nat) && (true && (true && true) && (true && true && (decide (q + (List.take (1 : Nat) (List.drop (0 : Nat) ((List.replicate (1 : Nat) ((0 : Nat), (0 : Nat))).set (0 : Nat) ((dw.fi.sv xs a s).1.1, (dw.fi.sv xs a s).1.2)))).length ≤ (4611686018427387904 : Nat)) && decide ((q + (List.take (1 : Nat) (List.drop (0 : Nat) ((List.replicate (1 : Nat) ((0 : Nat), (0 : Nat))).set (0 : Nat) ((dw.fi.sv xs a s).1.1, (dw.fi.sv xs a s).1.2)))).length) * (8 : Nat) ≤ (140737488355328 : Nat))))) then L f m (mkS (26 : Nat) [((0 : Nat), AVal.ptr (0 : Nat) (0 : Nat) (0 : Nat)), ((1 : Nat), AVal.int IntKind.i64 (IntKind.i64.wrap (n - (1 : Int)))), ((5 : Nat), AVal.own (1 : Nat) (0 : Nat) (q + (List.take (1 : Nat) (List.drop (0 : Nat) ((List.replicate (1 : Nat) ((0 : Nat), (0 : Nat))).set (0 : Nat) ((dw.fi.sv xs a s).1.1, (dw.fi.sv xs a s).1.2)))).length) (0 : Nat) (1 : Nat)), ((6 : Nat), AVal.bool b)] [{ c := BC.cells [AVal.ro (Cont.ints IntKind.u8 xs) xs.length (1 : Nat), AVal.int IntKind.i64 (dw.fi.sv xs a s).2.1, AVal.int IntKind.u64 (dw.fi.sv xs a s).2.2], ver := (0 : Nat) }, { c := BC.typ (Cont.cpxs FloatKind.f32 (List.take q os ++ List.take (1 : Nat) (List.drop (0 : Nat) ((List.replicate (1 : Nat) ((0 : Nat), (0 : Nat))).set (0 : Nat) ((dw.fi.sv xs a s).1.1, (dw.fi.sv xs a s).1.2))))), ver := (0 : Nat) }]) else none else none else some (AVal.own (1 : Nat) (0 : Nat) q (0 : Nat) (1 : Nat), [{ c := BC.cells [AVal.ro (Cont.ints IntKind.u8 xs) xs.length (1 : Nat), AVal.int IntKind.i64 a, AVal.int IntKind.u64 s], ver := (0 : Nat) }, { c := BC.typ (Cont.cpxs FloatKind.f32 os), ver := (0 : Nat) }])) := by kernel_rfl
theorem loop (xs : List Int) (b : Bool) (f : Nat) (hx : xs.length ≤ 2000000) (hb : r8.bytes.sp xs = true) : ∀ (d n : Nat) (a s : Int) (os : List (Nat × Nat)), d ≤ 1000 → os.length + d ≤ 1000 → 0 ≤ a → a + 24 * d ≤ 950000 → d < n →
    L f n (mkS 26 [(0, .ptr 0 0 0), (1, .int .i64 ((d : Nat) : Int)), (5, .own 1 0 os.length 0 1), (6, .bool b)] [⟨.cells [.ro (.ints .u8 xs) xs.length 1, .int .i64 a, .int .u64 s], 0⟩, ⟨.typ (.cpxs .f32 os), 0⟩]) = some (.own 1 0 (os.length + d) 0 1, [⟨.cells [.ro (.ints .u8 xs) xs.length 1, .int .i64 (dw.ce.sv xs b d a s).1, .int .u64 (dw.ce.sv xs b d a s).2], 0⟩, ⟨.typ (.cpxs .f32 (os ++ dw.cs.sv xs b d a s)), 0⟩]) := by
  intro d
  induction d with
  | zero =>
    intro n a s os h1 h2 h3 h4 hn
    obtain ⟨n, rfl⟩ : ∃ k, n = k + 1 := ⟨n - 1, by omega⟩
    have c : ¬ ((0 : Int) < ((0 : Nat) : Int)) := by omega
    rw [round, decide_eq_false c, cond_false, dw.cs.sv, List.append_nil, dw.ce.sv]
    rfl
  | succ d ih =>
    intro n a s os h1 h2 h3 h4 hn
    obtain ⟨n, rfl⟩ : ∃ k, n = k + 1 := ⟨n - 1, by omega⟩
    have o := dw.co_in hb b a s
    have hd := dw.dc_in hb a s
    have hp := dw.fi_in hb a s
    have g := ih n (dw.co.sv xs b a s).2.1 (dw.co.sv xs b a s).2.2 (os ++ [(dw.co.sv xs b a s).1]) (by omega) (by rw [List.length_append, List.length_singleton]; omega) (by omega) (by omega) (by omega)
    rw [List.length_append, List.length_singleton, List.append_assoc] at g
    have et : ∀ p : Nat × Nat, (p.1, p.2) = p := fun _ => rfl
    have ht : List.take os.length os = os := List.take_length
    have w : IntKind.i64.wrap (((d + 1 : Nat) : Int) - 1) = ((d : Nat) : Int) := by rw [IntWalk.i64_in _ (by omega)]; omega
    rw [round, dw.cs.sv, dw.ce.sv, show os.length + (d + 1) = os.length + 1 + d by omega]
    cases b
    · have e := dw.co_f xs a s
      rw [e] at g ⊢
      simp -implicitDefEqProofs (disch := omega) only [ht, hb, w, hx, et, take_one, set_one, decide_eq_true, decide_eq_false, IntWalk.i64_in, beqT, beqF, bneT, bneF, nat_succ, ← Int.natCast_mul, ← Int.natCast_add, Int.toNat_natCast, Int.zero_mul, Int.zero_add, Int.add_zero, Nat.zero_add, Nat.add_zero, Nat.zero_mul, List.length_singleton, List.length_append, List.length_nil, List.length_cons, List.take_length, List.drop_zero, List.replicate_zero, List.take_nil, List.nil_append, Nat.reduceBEq, Nat.reduceMul, Nat.reduceLeDiff, eq_self, and_self, true_and, and_true, decide_true, decide_false, Bool.and_self, Bool.or_self, Bool.and_true, Bool.true_and, Bool.and_false, Bool.false_and, Bool.or_true, Bool.true_or, Bool.or_false, Bool.false_or, Bool.not_true, Bool.not_false, cond_true, cond_false]
      rw [g]
      rfl
    · have e := dw.co_t xs a s
      rw [e] at g ⊢
      simp -implicitDefEqProofs (disch := omega) only [ht, hb, w, hx, et, take_one, set_one, decide_eq_true, decide_eq_false, IntWalk.i64_in, beqT, beqF, bneT, bneF, nat_succ, ← Int.natCast_mul, ← Int.natCast_add, Int.toNat_natCast, Int.zero_mul, Int.zero_add, Int.add_zero, Nat.zero_add, Nat.add_zero, Nat.zero_mul, List.length_singleton, List.length_append, List.length_nil, List.length_cons, List.take_length, List.drop_zero, List.replicate_zero, List.take_nil, List.nil_append, Nat.reduceBEq, Nat.reduceMul, Nat.reduceLeDiff, eq_self, and_self, true_and, and_true, decide_true, decide_false, Bool.and_self, Bool.or_self, Bool.and_true, Bool.true_and, Bool.and_false, Bool.false_and, Bool.or_true, Bool.true_or, Bool.or_false, Bool.false_or, Bool.not_true, Bool.not_false, cond_true, cond_false]
      rw [g]
      rfl
theorem run : ∀ args H v new, R args H = some (true, v, new) → ∃ fuel, runFn Tryz.prog (orcW [⟨57, l01DrawComplex.R⟩, ⟨58, l01DrawFine.R⟩, ⟨51, bOn.R⟩] []) hd Dr.std none fuel (bodyOf Tryz.f46) 26 [4] args H = some (v, new) := by
  intro args H v new h
  unfold R at h
  split at h
  · rename_i n xs m a s
    simp only [Option.some.injEq, Prod.mk.injEq, Bool.and_eq_true, decide_eq_true_eq] at h
    obtain ⟨⟨⟨rfl, h1, h2, h3, h4, h5⟩, hb⟩, rfl, rfl⟩ := h
    obtain ⟨n, rfl⟩ : ∃ q : Nat, n = q := ⟨n.toNat, by omega⟩
    obtain ⟨F, hF⟩ : ∃ F : Nat, F = 2000 := ⟨2000, rfl⟩
    refine ⟨F, ?_⟩
    have p := dw.pk_in hb (n := 5) (by decide) a s
    have g := loop xs ((dw.pk.sv xs 5 a s).1 == 0) F h1 hb n F (dw.pk.sv xs 5 a s).2.1 (dw.pk.sv xs 5 a s).2.2 [] (by omega) (by simp; omega) (by omega) (by omega) (by omega)
    rw [start, Int.toNat_natCast]
    simp -implicitDefEqProofs (disch := omega) only [hb, h1, take_one, set_one, decide_eq_true, decide_eq_false, IntWalk.i64_in, beqT, beqF, bneT, bneF, nat_succ, ← Int.natCast_mul, ← Int.natCast_add, Int.toNat_natCast, Int.zero_mul, Int.zero_add, Int.add_zero, Nat.zero_add, Nat.add_zero, Nat.zero_mul, List.length_singleton, List.length_append, List.length_nil, List.length_cons, List.take_length, List.drop_zero, List.replicate_zero, List.take_nil, List.nil_append, Nat.reduceBEq, Nat.reduceMul, Nat.reduceLeDiff, eq_self, and_self, true_and, and_true, decide_true, decide_false, Bool.and_self, Bool.or_self, Bool.and_true, Bool.true_and, Bool.and_false, Bool.false_and, Bool.or_true, Bool.true_or, Bool.or_false, Bool.false_or, Bool.not_true, Bool.not_false, cond_true, cond_false]
    rw [List.length_nil, Nat.zero_add, List.nil_append] at g
    exact g
  · cases h
theorem ok : EntWOk Tryz.prog ⟨46, R⟩ :=
  entw_ok mixed (A := (orcW [⟨57, l01DrawComplex.R⟩, ⟨58, l01DrawFine.R⟩, ⟨51, bOn.R⟩] [])) (orcW_ok (by simp only [List.mem_cons, List.not_mem_nil, or_false, forall_eq_or_imp, forall_eq]; exact ⟨l01DrawComplex.ok, l01DrawFine.ok, bOn.ok⟩) (by simp)) Tryz.func46 (by kernel_rfl) (by kernel_rfl) (n := 26) (ts := [4]) (hd := hd) (dr := Dr.std) (cut := none) (by kernel_rfl) (by kernel_rfl) (by kernel_rfl) run
end l01DrawComplexes

namespace B10Complex
def R : List AVal → Option (Bool × AVal × List Blk)
  | [.ro (.ints .u8 xs) m 1] => some (decide (m = xs.length ∧ m ≤ 2000000) && r8.bytes.sp xs, .cpx .f32 (dw.c.sv xs).1 (dw.c.sv xs).2, [])
  | _ => none
theorem go (xs : List Int) :
  runFn Tryz.prog (orcW [⟨57, l01DrawComplex.R⟩, ⟨58, l01DrawFine.R⟩, ⟨51, bOn.R⟩] [⟨38, l00From.R⟩]) hd0 Dr.std none 0 (bodyOf Tryz.f22) 12 [2] [.ro (.ints .u8 xs) xs.length 1] []
  = (bif true && (true && true || true && (false && true && true)) then bif decide (xs.length = xs.length ∧ xs.length ≤ (2000000 : Nat) ∧ (0 : Int) ≤ (0 : Int) ∧ (0 : Int) ≤ (999990 : Int) ∧ (1 : Int) ≤ (4 : Int) ∧ (4 : Int) ≤ (65536 : Int)) && r8.bytes.sp xs && (true && (true && true)) then bif (dw.pk.sv xs (4 : Int) (0 : Int) (0 : Int)).1 == (0 : Int) then bif decide (xs.length = xs.length ∧ xs.length ≤ (2000000 : Nat) ∧ (0 : Int) ≤ (dw.pk.sv xs (4 : Int) (0 : Int) (0 : Int)).2.1 ∧ (dw.pk.sv xs (4 : Int) (0 : Int) (0 : Int)).2.1 ≤ (999900 : Int)) && r8.bytes.sp xs && (true && (true && true)) then some (AVal.cpx FloatKind.f32 (dw.dc.sv xs (dw.pk.sv xs (4 : Int) (0 : Int) (0 : Int)).2.1 (dw.pk.sv xs (4 : Int) (0 : Int) (0 : Int)).2.2).1.1 (dw.dc.sv xs (dw.pk.sv xs (4 : Int) (0 : Int) (0 : Int)).2.1 (dw.pk.sv xs (4 : Int) (0 : Int) (0 : Int)).2.2).1.2, [{ c := BC.cells [AVal.ro (Cont.ints IntKind.u8 xs) xs.length (1 : Nat), AVal.int IntKind.i64 (dw.dc.sv xs (dw.pk.sv xs (4 : Int) (0 : Int) (0 : Int)).2.1 (dw.pk.sv xs (4 : Int) (0 : Int) (0 : Int)).2.2).2.1, AVal.int IntKind.u64 (dw.dc.sv xs (dw.pk.sv xs (4 : Int) (0 : Int) (0 : Int)).2.1 (dw.pk.sv xs (4 : Int) (0 : Int) (0 : Int)).2.2).2.2], ver := (0 : Nat) }]) else none else bif decide (xs.length = xs.length ∧ xs.length ≤ (2000000 : Nat) ∧ (0 : Int) ≤ (dw.pk.sv xs (4 : Int) (0 : Int) (0 : Int)).2.1 ∧ (dw.pk.sv xs (4 : Int) (0 : Int) (0 : Int)).2.1 ≤ (999900 : Int)) && r8.bytes.sp xs && (true && (true && true)) then some (AVal.cpx FloatKind.f32 (dw.fi.sv xs (dw.pk.sv xs (4 : Int) (0 : Int) (0 : Int)).2.1 (dw.pk.sv xs (4 : Int) (0 : Int) (0 : Int)).2.2).1.1 (dw.fi.sv xs (dw.pk.sv xs (4 : Int) (0 : Int) (0 : Int)).2.1 (dw.pk.sv xs (4 : Int) (0 : Int) (0 : Int)).2.2).1.2, [{ c := BC.cells [AVal.ro (Cont.ints IntKind.u8 xs) xs.length (1 : Nat), AVal.int IntKind.i64 (dw.fi.sv xs (dw.pk.sv xs (4 : Int) (0 : Int) (0 : Int)).2.1 (dw.pk.sv xs (4 : Int) (0 : Int) (0 : Int)).2.2).2.1, AVal.int IntKind.u64 (dw.fi.sv xs (dw.pk.sv xs (4 : Int) (0 : Int) (0 : Int)).2.1 (dw.pk.sv xs (4 : Int) (0 : Int) (0 : Int)).2.2).2.2], ver := (0 : Nat) }]) else none else none else none) := by kernel_rfl
theorem run : ∀ args v new, R args = some (true, v, new) → ∃ fuel, regc [] (runFn Tryz.prog (orcW [⟨57, l01DrawComplex.R⟩, ⟨58, l01DrawFine.R⟩, ⟨51, bOn.R⟩] [⟨38, l00From.R⟩]) hd0 Dr.std none fuel (bodyOf Tryz.f22) 12 [2] args []) = some (v, new) := by
  intro args v new h
  unfold R at h
  split at h
  · rename_i xs m
    simp only [Option.some.injEq, Prod.mk.injEq, Bool.and_eq_true, decide_eq_true_eq] at h
    obtain ⟨⟨⟨rfl, h1⟩, hb⟩, rfl, rfl⟩ := h
    refine ⟨0, ?_⟩
    have p2 := dw.pk_in hb (n := 4) (by decide) 0 0
    obtain ⟨q, hq⟩ : ∃ q, q = dw.pk.sv xs 4 0 0 := ⟨_, rfl⟩
    rw [← hq] at p2
    rw [go]
    unfold dw.c.sv
    rw [← hq]
    unfold dw.co.sv
    simp -implicitDefEqProofs (disch := omega) only [hb, h1, take_one, set_one, decide_eq_true, decide_eq_false, IntWalk.i64_in, beqT, beqF, bneT, bneF, nat_succ, ← Int.natCast_mul, ← Int.natCast_add, Int.toNat_natCast, Int.zero_mul, Int.zero_add, Int.add_zero, Nat.zero_add, Nat.add_zero, Nat.zero_mul, List.length_singleton, List.length_append, List.length_nil, List.length_cons, List.take_length, List.drop_zero, List.replicate_zero, List.take_nil, List.nil_append, Nat.reduceBEq, Nat.reduceMul, Nat.reduceLeDiff, eq_self, and_self, true_and, and_true, decide_true, decide_false, Bool.and_self, Bool.or_self, Bool.and_true, Bool.true_and, Bool.and_false, Bool.false_and, Bool.or_true, Bool.true_or, Bool.or_false, Bool.false_or, Bool.not_true, Bool.not_false, cond_true, cond_false]
    cases q.1 == 0 <;> rfl
  · cases h
theorem ok : EntOk Tryz.prog ⟨22, R⟩ :=
  ent_okAG (ks := []) mixed (A := (orcW [⟨57, l01DrawComplex.R⟩, ⟨58, l01DrawFine.R⟩, ⟨51, bOn.R⟩] [⟨38, l00From.R⟩])) (orcW_ok (by simp only [List.mem_cons, List.not_mem_nil, or_false, forall_eq_or_imp, forall_eq]; exact ⟨l01DrawComplex.ok, l01DrawFine.ok, bOn.ok⟩) (by simp only [List.mem_cons, List.not_mem_nil, or_false, forall_eq_or_imp, forall_eq]; exact l00From.ok)) Tryz.func22 (by kernel_rfl) (by kernel_rfl) (n := 12) (ts := [2]) (hd := hd0) (dr := Dr.std) (cut := none) (by kernel_rfl) (by kernel_rfl) (by kernel_rfl) run
end B10Complex

namespace B10Any
def R : List AVal → Option (Bool × AVal × List Blk)
  | [.ro (.ints .u8 xs) m 1, .int .i64 n] => some (decide (m = xs.length ∧ m ≤ 2000000 ∧ 0 ≤ n ∧ n ≤ 1000) && r8.bytes.sp xs, .own 0 0 n.toNat 0 1, [⟨.typ (.cpxs .f32 (dw.cl.sv xs n.toNat 0 0)), 0⟩])
  | _ => none
theorem go (xs : List Int) (n : Nat) :
  runFn Tryz.prog (orcW [⟨46, l01DrawComplexes.R⟩] [⟨38, l00From.R⟩]) hd0 Dr.std none 0 (bodyOf Tryz.f15) 11 [4] [.ro (.ints .u8 xs) xs.length 1, .int .i64 ((n : Nat) : Int)] []
  = (bif true && (true && true || true && (false && true && true)) then bif decide (xs.length = xs.length ∧ xs.length ≤ (2000000 : Nat) ∧ (0 : Int) ≤ (0 : Int) ∧ (0 : Int) ≤ (900000 : Int) ∧ (0 : Int) ≤ (↑n : Int) ∧ (↑n : Int) ≤ (1000 : Int)) && r8.bytes.sp xs && (true && (true && true)) then some (AVal.own ((1 : Nat) + (0 : Nat)) (0 : Nat) (↑n : Int).toNat (0 : Nat) (1 : Nat), [{ c := BC.cells [AVal.ro (Cont.ints IntKind.u8 xs) xs.length (1 : Nat), AVal.int IntKind.i64 (dw.cq.sv xs (↑n : Int).toNat (0 : Int) (0 : Int)).1, AVal.int IntKind.u64 (dw.cq.sv xs (↑n : Int).toNat (0 : Int) (0 : Int)).2], ver := (0 : Nat) }, { c := BC.typ (Cont.cpxs FloatKind.f32 (dw.cl.sv xs (↑n : Int).toNat (0 : Int) (0 : Int))), ver := (0 : Nat) }]) else none else none) := by kernel_rfl
theorem run : ∀ args v new, R args = some (true, v, new) → ∃ fuel, regc [1] (runFn Tryz.prog (orcW [⟨46, l01DrawComplexes.R⟩] [⟨38, l00From.R⟩]) hd0 Dr.std none fuel (bodyOf Tryz.f15) 11 [4] args []) = some (v, new) := by
  intro args v new h
  unfold R at h
  split at h
  · rename_i xs m n
    simp only [Option.some.injEq, Prod.mk.injEq, Bool.and_eq_true, decide_eq_true_eq] at h
    obtain ⟨⟨⟨rfl, h1, h2, h3⟩, hb⟩, rfl, rfl⟩ := h
    obtain ⟨n, rfl⟩ : ∃ q : Nat, n = q := ⟨n.toNat, by omega⟩
    refine ⟨0, ?_⟩
    rw [go]
    simp -implicitDefEqProofs (disch := omega) only [hb, h1, take_one, set_one, decide_eq_true, decide_eq_false, IntWalk.i64_in, beqT, beqF, bneT, bneF, nat_succ, ← Int.natCast_mul, ← Int.natCast_add, Int.toNat_natCast, Int.zero_mul, Int.zero_add, Int.add_zero, Nat.zero_add, Nat.add_zero, Nat.zero_mul, List.length_singleton, List.length_append, List.length_nil, List.length_cons, List.take_length, List.drop_zero, List.replicate_zero, List.take_nil, List.nil_append, Nat.reduceBEq, Nat.reduceMul, Nat.reduceLeDiff, eq_self, and_self, true_and, and_true, decide_true, decide_false, Bool.and_self, Bool.or_self, Bool.and_true, Bool.true_and, Bool.and_false, Bool.false_and, Bool.or_true, Bool.true_or, Bool.or_false, Bool.false_or, Bool.not_true, Bool.not_false, cond_true, cond_false]
    rfl
  · cases h
theorem ok : EntOk Tryz.prog ⟨15, R⟩ :=
  ent_okAG (ks := [1]) mixed (A := (orcW [⟨46, l01DrawComplexes.R⟩] [⟨38, l00From.R⟩])) (orcW_ok (by simp only [List.mem_cons, List.not_mem_nil, or_false, forall_eq_or_imp, forall_eq]; exact l01DrawComplexes.ok) (by simp only [List.mem_cons, List.not_mem_nil, or_false, forall_eq_or_imp, forall_eq]; exact l00From.ok)) Tryz.func15 (by kernel_rfl) (by kernel_rfl) (n := 11) (ts := [4]) (hd := hd0) (dr := Dr.std) (cut := none) (by kernel_rfl) (by kernel_rfl) (by kernel_rfl) run
end B10Any

namespace B10Whole
def R : List AVal → Option (Bool × AVal × List Blk)
  | [.ro (.ints .u8 xs) m 1, .int .i64 n, .int .i64 k] => some (decide (m = xs.length ∧ m ≤ 2000000 ∧ n = 1 ∧ k = 200) && r8.bytes.sp xs, .own 0 0 1 0 1, [⟨.typ (.cpxs .f32 [(dw.u1.sv xs, dw.u2.sv xs)]), 0⟩])
  | _ => none
def hd : Nat → Head := fun _ => ⟨[1, 2, 7, 8], some 2⟩
noncomputable def L (f n : Nat) (s : State) := loopAt Tryz.prog (orcW [⟨39, bPk.R⟩] [⟨38, l00From.R⟩]) hd Dr.std 0 f (bodyOf Tryz.f6) 0 [true, true, true, false] (retK Tryz.prog [6] 0 none) n s
theorem start (xs : List Int) (f : Nat) :
  runFn Tryz.prog (orcW [⟨39, bPk.R⟩] [⟨38, l00From.R⟩]) hd Dr.std none f (bodyOf Tryz.f6) 39 [6] [.ro (.ints .u8 xs) xs.length 1, .int .i64 1, .int .i64 200] []
  = (bif true && (true && true || true && (false && true && true)) then L f f (mkS (39 : Nat) [((1 : Nat), AVal.int IntKind.i64 (1 : Int)), ((2 : Nat), AVal.int IntKind.i64 (200 : Int)), ((7 : Nat), AVal.ptr (0 : Nat) (0 : Nat) (0 : Nat)), ((8 : Nat), AVal.own (1 : Nat) (0 : Nat) (0 : Nat) (0 : Nat) (1 : Nat))] [{ c := BC.cells [AVal.ro (Cont.ints IntKind.u8 xs) xs.length (1 : Nat), AVal.int IntKind.i64 (0 : Int), AVal.int IntKind.u64 (0 : Int)], ver := (0 : Nat) }, { c := BC.typ (Cont.cpxs FloatKind.f32 (List.replicate (0 : Nat) ((0 : Nat), (0 : Nat)))), ver := (0 : Nat) }]) else none) := by kernel_rfl
theorem round (xs : List Int) (os : List (Nat × Nat)) (n a s : Int) (q f m : Nat) :
  L f (m + 1) (mkS 39 [(1, .int .i64 n), (2, .int .i64 200), (7, .ptr 0 0 0), (8, .own 1 0 q 0 1)] [⟨.cells [.ro (.ints .u8 xs) xs.length 1, .int .i64 a, .int .u64 s], 0⟩, ⟨.typ (.cpxs .f32 os), 0⟩])
  = (bif decide ((0 : Int) < n) then bif decide (xs.length = xs.length ∧ xs.length ≤ (2000000 : Nat) ∧ (0 : Int) ≤ a ∧ a ≤ (999990 : Int) ∧ (1 : Int) ≤ IntKind.i64.wrap (IntKind.i64.wrap ((2 : Int) * (200 : Int)) + (1 : Int)) ∧ IntKind.i64.wrap (IntKind.i64.wrap ((2 : Int) * (200 : Int)) + (1 : Int)) ≤ (65536 : Int)) && r8.bytes.sp xs && (true && (true && true)) then bif decide (xs.length = xs.length ∧ xs.length ≤ (2000000 : Nat) ∧ (0 : Int) ≤ (dw.pk.sv xs (IntKind.i64.wrap (IntKind.i64.wrap ((2 : Int) * (200 : Int)) + (1 : Int))) a s).2.1 ∧ (dw.pk.sv xs (IntKind.i64.wrap (IntKind.i64.wrap ((2 : Int) * (200 : Int)) + (1 : Int))) a s).2.1 ≤ (999990 : Int) ∧ (1 : Int) ≤ IntKind.i64.wrap (IntKind.i64.wrap ((2 : Int) * (200 : Int)) + (1 : Int)) ∧ IntKind.i64.wrap (IntKind.i64.wrap ((2 : Int) * (200 : Int)) + (1 : Int)) ≤ (65536 : Int)) && r8.bytes.sp xs && (true && (true && true)) then bif (1 : Nat) == (1 : Nat) && (1 : Nat) == (1 : Nat) && (true && (true && true) && (true && true && (decide (q + (List.take (1 : Nat) (List.drop (0 : Nat) ((List.replicate (1 : Nat) ((0 : Nat), (0 : Nat))).set (0 : Nat) (FloatKind.f32.nearest (IntKind.i64.wrap ((dw.pk.sv xs (IntKind.i64.wrap (IntKind.i64.wrap ((2 : Int) * (200 : Int)) + (1 : Int))) a s).1 - (200 : Int))), FloatKind.f32.nearest (IntKind.i64.wrap ((dw.pk.sv xs (IntKind.i64.wrap (IntKind.i64.wrap ((2 : Int) * (200 : Int)) + (1 : Int))) (dw.pk.sv xs (IntKind.i64.wrap (IntKind.i64.wrap ((2 : Int) * (200 : Int)) + (1 : Int))) a s).2.1 (dw.pk.sv xs (IntKind.i64.wrap (IntKind.i64.wrap ((2 : Int) * (200 : Int)) + (1 : Int))) a s).2.2).1 - (200 : Int))))))).length ≤ (4611686018427387904 : Nat)) && decide ((q + (List.take (1 : Nat) (List.drop (0 : Nat) ((List.replicate (1 : Nat) ((0 : Nat), (0 : Nat))).set (0 : Nat) (FloatKind.f32.nearest (IntKind.i64.wrap ((dw.pk.sv xs (IntKind.i64.wrap (IntKind.i64.wrap ((2 : Int) * (200 : Int)) + (1 : Int))) a s).1 - (200 : Int))), FloatKind.f32.nearest (IntKind.i64.wrap ((dw.pk.sv xs (IntKind.i64.wrap (IntKind.i64.wrap ((2 : Int) * (200 : Int)) + (1 : Int))) (dw.pk.sv xs (IntKind.i64.wrap (IntKind.i64.wrap ((2 : Int) * (200 : Int)) + (1 : Int))) a s).2.1 (dw.pk.sv xs (IntKind.i64.wrap (IntKind.i64.wrap ((2 : Int) * (200 : Int)) + (1 : Int))) a s).2.2).1 - (200 : Int))))))).length) * (8 : Nat) ≤ (140737488355328 : Nat))))) then L f m (mkS (39 : Nat) [((1 : Nat), AVal.int IntKind.i64 (IntKind.i64.wrap (n - (1 : Int)))), ((2 : Nat), AVal.int IntKind.i64 (200 : Int)), ((7 : Nat), AVal.ptr (0 : Nat) (0 : Nat) (0 : Nat)), ((8 : Nat), AVal.own (1 : Nat) (0 : Nat) (q + (List.take (1 : Nat) (List.drop (0 : Nat) ((List.replicate (1 : Nat) ((0 : Nat), (0 : Nat))).set (0 : Nat) (FloatKind.f32.nearest (IntKind.i64.wrap ((dw.pk.sv xs (IntKind.i64.wrap (IntKind.i64.wrap ((2 : Int) * (200 : Int)) + (1 : Int))) a s).1 - (200 : Int))), FloatKind.f32.nearest (IntKind.i64.wrap ((dw.pk.sv xs (IntKind.i64.wrap (IntKind.i64.wrap ((2 : Int) * (200 : Int)) + (1 : Int))) (dw.pk.sv xs (IntKind.i64.wrap (IntKind.i64.wrap ((2 : Int) * (200 : Int)) + (1 : Int))) a s).2.1 (dw.pk.sv xs (IntKind.i64.wrap (IntKind.i64.wrap ((2 : Int) * (200 : Int)) + (1 : Int))) a s).2.2).1 - (200 : Int))))))).length) (0 : Nat) (1 : Nat))] [{ c := BC.cells [AVal.ro (Cont.ints IntKind.u8 xs) xs.length (1 : Nat), AVal.int IntKind.i64 (dw.pk.sv xs (IntKind.i64.wrap (IntKind.i64.wrap ((2 : Int) * (200 : Int)) + (1 : Int))) (dw.pk.sv xs (IntKind.i64.wrap (IntKind.i64.wrap ((2 : Int) * (200 : Int)) + (1 : Int))) a s).2.1 (dw.pk.sv xs (IntKind.i64.wrap (IntKind.i64.wrap ((2 : Int) * (200 : Int)) + (1 : Int))) a s).2.2).2.1, AVal.int IntKind.u64 (dw.pk.sv xs (IntKind.i64.wrap (IntKind.i64.wrap ((2 : Int) * (200 : Int)) + (1 : Int))) (dw.pk.sv xs (IntKind.i64.wrap (IntKind.i64.wrap ((2 : Int) * (200 : Int)) + (1 : Int))) a s).2.1 (dw.pk.sv xs (IntKind.i64.wrap (IntKind.i64.wrap ((2 : Int) * (200 : Int)) + (1 : Int))) a s).2.2).2.2], ver := (0 : Nat) }, { c := BC.typ (Cont.cpxs FloatKind.f32 (List.take q os ++ List.take (1 : Nat) (List.drop (0 : Nat) ((List.replicate (1 : Nat) ((0 : Nat), (0 : Nat))).set (0 : Nat) (FloatKind.f32.nearest (IntKind.i64.wrap ((dw.pk.sv xs (IntKind.i64.wrap (IntKind.i64.wrap ((2 : Int) * (200 : Int)) + (1 : Int))) a s).1 - (200 : Int))), FloatKind.f32.nearest (IntKind.i64.wrap ((dw.pk.sv xs (IntKind.i64.wrap (IntKind.i64.wrap ((2 : Int) * (200 : Int)) + (1 : Int))) (dw.pk.sv xs (IntKind.i64.wrap (IntKind.i64.wrap ((2 : Int) * (200 : Int)) + (1 : Int))) a s).2.1 (dw.pk.sv xs (IntKind.i64.wrap (IntKind.i64.wrap ((2 : Int) * (200 : Int)) + (1 : Int))) a s).2.2).1 - (200 : Int)))))))), ver := (0 : Nat) }]) else none else none else none else some (AVal.own (1 : Nat) (0 : Nat) q (0 : Nat) (1 : Nat), [{ c := BC.cells [AVal.ro (Cont.ints IntKind.u8 xs) xs.length (1 : Nat), AVal.int IntKind.i64 a, AVal.int IntKind.u64 s], ver := (0 : Nat) }, { c := BC.typ (Cont.cpxs FloatKind.f32 os), ver := (0 : Nat) }])) := by kernel_rfl
theorem run : ∀ args v new, R args = some (true, v, new) → ∃ fuel, regc [1] (runFn Tryz.prog (orcW [⟨39, bPk.R⟩] [⟨38, l00From.R⟩]) hd Dr.std none fuel (bodyOf Tryz.f6) 39 [6] args []) = some (v, new) := by
  intro args v new h
  unfold R at h
  split at h
  · rename_i xs m n k
    simp only [Option.some.injEq, Prod.mk.injEq, Bool.and_eq_true, decide_eq_true_eq] at h
    obtain ⟨⟨⟨rfl, h1, rfl, rfl⟩, hb⟩, rfl, rfl⟩ := h
    obtain ⟨F, hF⟩ : ∃ F : Nat, F = 1000 := ⟨1000, rfl⟩
    refine ⟨F + 2, ?_⟩
    have p := dw.pk_in hb (n := 401) (by decide) 0 0
    have p2 := dw.pk_in hb (n := 401) (by decide) (dw.pk.sv xs 401 0 0).2.1 (dw.pk.sv xs 401 0 0).2.2
    have e4 : (2 * 200 + 1 : Int) = 401 := rfl
    rw [start]
    simp -implicitDefEqProofs (disch := omega) only [hb, h1, e4, take_one, set_one, decide_eq_true, decide_eq_false, IntWalk.i64_in, beqT, beqF, bneT, bneF, nat_succ, ← Int.natCast_mul, ← Int.natCast_add, Int.toNat_natCast, Int.zero_mul, Int.zero_add, Int.add_zero, Nat.zero_add, Nat.add_zero, Nat.zero_mul, List.length_singleton, List.length_append, List.length_nil, List.length_cons, List.take_length, List.drop_zero, List.replicate_zero, List.take_nil, List.nil_append, Nat.reduceBEq, Nat.reduceMul, Nat.reduceLeDiff, eq_self, and_self, true_and, and_true, decide_true, decide_false, Bool.and_self, Bool.or_self, Bool.and_true, Bool.true_and, Bool.and_false, Bool.false_and, Bool.or_true, Bool.true_or, Bool.or_false, Bool.false_or, Bool.not_true, Bool.not_false, cond_true, cond_false]
    rw [round]
    simp -implicitDefEqProofs (disch := omega) only [hb, h1, e4, take_one, set_one, decide_eq_true, decide_eq_false, IntWalk.i64_in, beqT, beqF, bneT, bneF, nat_succ, ← Int.natCast_mul, ← Int.natCast_add, Int.toNat_natCast, Int.zero_mul, Int.zero_add, Int.add_zero, Nat.zero_add, Nat.add_zero, Nat.zero_mul, List.length_singleton, List.length_append, List.length_nil, List.length_cons, List.take_length, List.drop_zero, List.replicate_zero, List.take_nil, List.nil_append, Nat.reduceBEq, Nat.reduceMul, Nat.reduceLeDiff, eq_self, and_self, true_and, and_true, decide_true, decide_false, Bool.and_self, Bool.or_self, Bool.and_true, Bool.true_and, Bool.and_false, Bool.false_and, Bool.or_true, Bool.true_or, Bool.or_false, Bool.false_or, Bool.not_true, Bool.not_false, cond_true, cond_false]
    rw [round]
    simp -implicitDefEqProofs (disch := omega) only [hb, h1, e4, take_one, set_one, decide_eq_true, decide_eq_false, IntWalk.i64_in, beqT, beqF, bneT, bneF, nat_succ, ← Int.natCast_mul, ← Int.natCast_add, Int.toNat_natCast, Int.zero_mul, Int.zero_add, Int.add_zero, Nat.zero_add, Nat.add_zero, Nat.zero_mul, List.length_singleton, List.length_append, List.length_nil, List.length_cons, List.take_length, List.drop_zero, List.replicate_zero, List.take_nil, List.nil_append, Nat.reduceBEq, Nat.reduceMul, Nat.reduceLeDiff, eq_self, and_self, true_and, and_true, decide_true, decide_false, Bool.and_self, Bool.or_self, Bool.and_true, Bool.true_and, Bool.and_false, Bool.false_and, Bool.or_true, Bool.true_or, Bool.or_false, Bool.false_or, Bool.not_true, Bool.not_false, cond_true, cond_false]
    rfl
  · cases h
theorem ok : EntOk Tryz.prog ⟨6, R⟩ :=
  ent_okAG (ks := [1]) mixed (A := (orcW [⟨39, bPk.R⟩] [⟨38, l00From.R⟩])) (orcW_ok (by simp only [List.mem_cons, List.not_mem_nil, or_false, forall_eq_or_imp, forall_eq]; exact bPk.ok) (by simp only [List.mem_cons, List.not_mem_nil, or_false, forall_eq_or_imp, forall_eq]; exact l00From.ok)) Tryz.func6 (by kernel_rfl) (by kernel_rfl) (n := 39) (ts := [6]) (hd := hd) (dr := Dr.std) (cut := none) (by kernel_rfl) (by kernel_rfl) (by kernel_rfl) run
end B10Whole

end Go.Proofs.YtjhofofieiiplaaGreatDoor.Ab
