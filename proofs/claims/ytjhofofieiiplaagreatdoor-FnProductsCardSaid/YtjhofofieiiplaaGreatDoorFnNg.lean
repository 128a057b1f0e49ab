/-
  Functions: texts of numbers are read.
-/
import Derived.Test.YtjhofofieiiplaaGreatDoorFnNf
namespace Go.Proofs.YtjhofofieiiplaaGreatDoor.Ab
open Go
set_option linter.unusedVariables false
set_option linter.unusedSimpArgs false
set_option maxRecDepth 100000

-- btab nt.none=110,111,110,101 nt.zero=48 sx.comma=44
namespace nt
theorem r_lt {s : ByteArray} (h : pok.sp s = true) : hx.r.sv s < 4294967296 := by
  unfold pok.sp at h
  rw [Bool.and_eq_true] at h
  have h2 := h.1
  unfold hx.ok.sp at h2
  rw [Bool.and_eq_true, decide_eq_true_eq] at h2
  have h3 := hx.rd_lt (sby.sv s) 0 h2.2
  have hp : 16 ^ (sby.sv s).length ≤ 16 ^ 8 := Nat.pow_le_pow_right (by decide) h2.1.2
  have : hx.r.sv s < (0 + 1) * 16 ^ (sby.sv s).length := h3
  omega
end nt
namespace ReadNumbersA
def R : List AVal → Option (Bool × AVal × List Blk)
  | [.str s] => some (nt.rdok.sp s && !(seq.sv s nt.none), .tup [.own 0 0 (nt.rd.sv s).length 0 1, .bool true], [⟨.typ (.flts .f32 (nt.rd.sv s)), 0⟩])
  | _ => none
def hd : Nat → Head := fun _ => ⟨[0, 2, 3, 4, 11, 12, 13], some 1⟩
noncomputable def L (f n : Nat) (s : State) := loopAt Tryz.prog (orc [⟨49, pieces.R⟩, ⟨50, readHex.R⟩, ⟨31, NumbersText.R⟩]) hd Dr.std 0 f (bodyOf Tryz.f32) 0 [true, true, false, true] (retK Tryz.prog [2, 3] 0 none) n s
theorem start (s : ByteArray) (f : Nat) :
  runFn Tryz.prog (orc [⟨49, pieces.R⟩, ⟨50, readHex.R⟩, ⟨31, NumbersText.R⟩]) hd Dr.std none f (bodyOf Tryz.f32) 44 [2, 3] [.str s] []
  = (bif decide (satn.sv s ≤ (1000000 : Int)) && !seq.sv s nt.none && (true && true || false && true) then L f f (mkS (44 : Nat) [((0 : Nat), AVal.str s), ((2 : Nat), AVal.nils), ((3 : Nat), AVal.bool false), ((4 : Nat), AVal.own (0 : Nat) (0 : Nat) (0 : Nat) (0 : Nat) (1 : Nat)), ((11 : Nat), AVal.ro (Cont.strs (sx.split.sv s)) (sx.split.sv s).length (1 : Nat)), ((12 : Nat), AVal.int IntKind.i64 (↑(sx.split.sv s).length : Int)), ((13 : Nat), AVal.int IntKind.i64 (0 : Int))] [{ c := BC.typ (Cont.flts FloatKind.f32 (List.replicate (0 : Nat) (0 : Nat))), ver := (0 : Nat) }]) else none) := by kernel_rfl
theorem round (s : ByteArray) (ss : List ByteArray) (os : List Nat) (m q : Nat) (i : Int) (f n : Nat) :
  L f (n + 1) (mkS 44 [(0, .str s), (2, .nils), (3, .bool false), (4, .own 0 0 q 0 1), (11, .ro (.strs ss) m 1), (12, .int .i64 ((m : Nat) : Int)), (13, .int .i64 i)] [⟨.typ (.flts .f32 os), 0⟩])
  = (bif decide (i < (↑m : Int)) then bif true && (decide ((0 : Int) ≤ i) && decide (i < (↑m : Int))) then bif decide (i.toNat < ss.length) then bif satn.sv (gs ss i.toNat) != (8 : Int) then some (AVal.tup [AVal.nils, AVal.bool false], [{ c := BC.typ (Cont.flts FloatKind.f32 os), ver := (0 : Nat) }]) else bif (↑q : Int) == (256 : Int) then some (AVal.tup [AVal.nils, AVal.bool false], [{ c := BC.typ (Cont.flts FloatKind.f32 os), ver := (0 : Nat) }]) else bif hx.ok.sp (gs ss i.toNat) && (true && true || true && true) then bif (1 : Nat) == (1 : Nat) && (1 : Nat) == (1 : Nat) && (true && (true && true) && (true && true && (decide (q + (List.take (1 : Nat) (List.drop (0 : Nat) ((List.replicate (1 : Nat) (0 : Nat)).set (0 : Nat) (hx.r.sv (gs ss i.toNat))))).length ≤ (4611686018427387904 : Nat)) && decide ((q + (List.take (1 : Nat) (List.drop (0 : Nat) ((List.replicate (1 : Nat) (0 : Nat)).set (0 : Nat) (hx.r.sv (gs ss i.toNat))))).length) * (4 : Nat) ≤ (140737488355328 : Nat))))) then L f n (mkS (44 : Nat) [((0 : Nat), AVal.str s), ((2 : Nat), AVal.nils), ((3 : Nat), AVal.bool false), ((4 : Nat), AVal.own (0 : Nat) (0 : Nat) (q + (List.take (1 : Nat) (List.drop (0 : Nat) ((List.replicate (1 : Nat) (0 : Nat)).set (0 : Nat) (hx.r.sv (gs ss i.toNat))))).length) (0 : Nat) (1 : Nat)), ((11 : Nat), AVal.ro (Cont.strs ss) m (1 : Nat)), ((12 : Nat), AVal.int IntKind.i64 (↑m : Int)), ((13 : Nat), AVal.int IntKind.i64 (IntKind.i64.wrap (i + (1 : Int))))] [{ c := BC.typ (Cont.flts FloatKind.f32 (List.take q os ++ List.take (1 : Nat) (List.drop (0 : Nat) ((List.replicate (1 : Nat) (0 : Nat)).set (0 : Nat) (hx.r.sv (gs ss i.toNat)))))), ver := (0 : Nat) }]) else none else none else none else none else bif decide (q = os.length ∧ q ≤ (256 : Nat) ∧ ∀ (x : Nat), x ∈ os → x < (4294967296 : Nat)) && (false && true || true && true && true) then bif !seq.sv (nt.tx.sv os) s then some (AVal.tup [AVal.nils, AVal.bool false], [{ c := BC.typ (Cont.flts FloatKind.f32 os), ver := (0 : Nat) }]) else some (AVal.tup [AVal.own (0 : Nat) (0 : Nat) q (0 : Nat) (1 : Nat), AVal.bool true], [{ c := BC.typ (Cont.flts FloatKind.f32 os), ver := (0 : Nat) }]) else none) := by kernel_rfl
theorem gs_eq {xs : List ByteArray} {i : Nat} (h : i < xs.length) : gs xs i = xs[i] := by simp [gs, h]
theorem loop (s : ByteArray) (ss : List ByteArray) (f : Nat) (hl : ss.length ≤ 256) (hp : ∀ p ∈ ss, nt.pok.sp p = true) (hr : nt.rd.sv s = ss.map hx.r.sv) (hs : seq.sv (nt.tx.sv (nt.rd.sv s)) s = true) : ∀ (d n i : Nat) (os : List Nat), i + d = ss.length → os = (ss.take i).map hx.r.sv → d < n →
    regc [0] (L f n (mkS 44 [(0, .str s), (2, .nils), (3, .bool false), (4, .own 0 0 os.length 0 1), (11, .ro (.strs ss) ss.length 1), (12, .int .i64 ((ss.length : Nat) : Int)), (13, .int .i64 ((i : Nat) : Int))] [⟨.typ (.flts .f32 os), 0⟩])) = some (.tup [.own 0 0 (nt.rd.sv s).length 0 1, .bool true], [⟨.typ (.flts .f32 (nt.rd.sv s)), 0⟩]) := by
  intro d
  induction d with
  | zero =>
    intro n i os hi ho hn
    obtain ⟨n, rfl⟩ : ∃ k, n = k + 1 := ⟨n - 1, by omega⟩
    obtain rfl : i = ss.length := by omega
    rw [List.take_length, ← hr] at ho
    have hlen : os.length = ss.length := by rw [ho, hr, List.length_map]
    have hw : ∀ x ∈ os, x < 4294967296 := by
      intro x hx
      rw [ho, hr] at hx
      obtain ⟨p, hp1, rfl⟩ := List.mem_map.1 hx
      exact nt.r_lt (hp p hp1)
    have hc : os.length = os.length ∧ os.length ≤ 256 ∧ ∀ x ∈ os, x < 4294967296 := ⟨rfl, by omega, hw⟩
    have hs2 : seq.sv (nt.tx.sv os) s = true := by rw [ho]; exact hs
    have c1 : ¬ (((ss.length : Nat) : Int) < ((ss.length : Nat) : Int)) := by omega
    rw [round, decide_eq_false c1, cond_false, decide_eq_true hc, hs2, ← ho]
    rfl
  | succ d ih =>
    intro n i os hi ho hn
    obtain ⟨n, rfl⟩ : ∃ k, n = k + 1 := ⟨n - 1, by omega⟩
    have hlt : i < ss.length := by omega
    have hg := gs_eq hlt
    have hpi := hp (gs ss i) (by rw [hg]; exact List.getElem_mem hlt)
    have hpi2 := hpi
    unfold nt.pok.sp at hpi2
    rw [Bool.and_eq_true, beq_iff_eq] at hpi2
    have k1 := hpi2.1
    have k2 := hpi2.2
    have hol : os.length = i := by rw [ho, List.length_map, List.length_take]; omega
    have g := ih n (i + 1) (os ++ [hx.r.sv (gs ss i)]) (by omega) (by rw [NumbersText.take_map _ _ _ hlt, ← ho, hg]) (by omega)
    have ht : List.take os.length os = os := List.take_length
    have one : List.take 1 (List.drop 0 ((List.replicate 1 (0 : Nat)).set 0 (hx.r.sv (gs ss i)))) = [hx.r.sv (gs ss i)] := rfl
    have k3 : (((os.length : Nat) : Int) == 256) = false := by rw [beq_eq_false_iff_ne]; omega
    rw [List.length_append, List.length_singleton] at g
    rw [round]
    simp -implicitDefEqProofs (disch := omega) only [k1, k2, k3, ht, take_one, set_one, decide_eq_true, decide_eq_false, IntWalk.i64_in, beqT, beqF, bneT, bneF, nat_succ, ← Int.natCast_mul, ← Int.natCast_add, Int.toNat_natCast, Int.zero_mul, Int.zero_add, Int.add_zero, Nat.zero_add, Nat.add_zero, Nat.zero_mul, List.length_singleton, List.length_append, List.length_nil, List.length_cons, List.take_length, List.drop_zero, List.replicate_zero, List.take_nil, List.nil_append, Nat.reduceBEq, Nat.reduceMul, Nat.reduceLeDiff, eq_self, and_self, true_and, and_true, decide_true, decide_false, Bool.and_self, Bool.or_self, Bool.and_true, Bool.true_and, Bool.and_false, Bool.false_and, Bool.or_true, Bool.true_or, Bool.or_false, Bool.false_or, Bool.not_true, Bool.not_false, cond_true, cond_false]
    exact g
theorem run : ∀ args v new, R args = some (true, v, new) → ∃ fuel, regc [0] (runFn Tryz.prog (orc [⟨49, pieces.R⟩, ⟨50, readHex.R⟩, ⟨31, NumbersText.R⟩]) hd Dr.std none fuel (bodyOf Tryz.f32) 44 [2, 3] args []) = some (v, new) := by
  intro args v new h
  unfold R at h
  split at h
  · rename_i s
    simp only [Option.some.injEq, Prod.mk.injEq, Bool.and_eq_true, Bool.not_eq_true'] at h
    obtain ⟨⟨h1, h2⟩, rfl, rfl⟩ := h
    unfold nt.rdok.sp at h1
    simp only [Bool.and_eq_true, decide_eq_true_eq, Bool.or_eq_true, List.all_eq_true] at h1
    obtain ⟨⟨h3, h4, h5⟩, h6⟩ := h1
    obtain ⟨F, hF⟩ : ∃ F : Nat, F = 1000 := ⟨1000, rfl⟩
    refine ⟨F, ?_⟩
    have h5' : ∀ p ∈ sx.split.sv s, nt.pok.sp p = true := by
      rcases h5 with h5 | h5
      · rw [h2] at h5; cases h5
      · exact h5
    have hr : nt.rd.sv s = (sx.split.sv s).map hx.r.sv := by unfold nt.rd.sv; rw [h2]; rfl
    have g := loop s (sx.split.sv s) F h4 h5' hr h6 (sx.split.sv s).length F 0 [] (by omega) rfl (by omega)
    rw [start, h2, decide_eq_true h3]
    exact g
  · cases h
theorem ok : EntOk Tryz.prog ⟨32, R⟩ :=
  ent_okAG (ks := [0]) mixed (A := (orc [⟨49, pieces.R⟩, ⟨50, readHex.R⟩, ⟨31, NumbersText.R⟩])) (orc_ok (by simp only [List.mem_cons, List.not_mem_nil, or_false, forall_eq_or_imp, forall_eq]; exact ⟨pieces.ok, readHex.ok, NumbersText.ok⟩)) Tryz.func32 (by kernel_rfl) (by kernel_rfl) (n := 44) (ts := [2, 3]) (hd := hd) (dr := Dr.std) (cut := none) (by kernel_rfl) (by kernel_rfl) (by kernel_rfl) run
end ReadNumbersA

namespace ReadNumbersB
def R : List AVal → Option (Bool × AVal × List Blk)
  | [.str s] => some (nt.rdok.sp s && seq.sv s nt.none, .tup [.own 0 0 (nt.rd.sv s).length 0 1, .bool true], [⟨.typ (.flts .f32 (nt.rd.sv s)), 0⟩])
  | _ => none
def hd : Nat → Head := fun _ => ⟨[0, 2, 3, 4, 11, 12, 13], some 1⟩
noncomputable def L (f n : Nat) (s : State) := loopAt Tryz.prog (orc [⟨49, pieces.RN⟩, ⟨50, readHex.R⟩, ⟨31, NumbersText.R⟩]) hd Dr.std 0 f (bodyOf Tryz.f32) 0 [true, true, false, true] (retK Tryz.prog [2, 3] 0 none) n s
theorem start (s : ByteArray) (f : Nat) :
  runFn Tryz.prog (orc [⟨49, pieces.RN⟩, ⟨50, readHex.R⟩, ⟨31, NumbersText.R⟩]) hd Dr.std none f (bodyOf Tryz.f32) 44 [2, 3] [.str s] []
  = (bif seq.sv s nt.none && (true && true || true && true) then L f f (mkS (44 : Nat) [((0 : Nat), AVal.str s), ((2 : Nat), AVal.nils), ((3 : Nat), AVal.bool false), ((4 : Nat), AVal.own (0 : Nat) (0 : Nat) (0 : Nat) (0 : Nat) (1 : Nat)), ((11 : Nat), AVal.nils), ((12 : Nat), AVal.int IntKind.i64 (0 : Int)), ((13 : Nat), AVal.int IntKind.i64 (0 : Int))] [{ c := BC.typ (Cont.flts FloatKind.f32 (List.replicate (0 : Nat) (0 : Nat))), ver := (0 : Nat) }]) else none) := by kernel_rfl
theorem round0 (s : ByteArray) (f n : Nat) :
  L f (n + 1) (mkS 44 [(0, .str s), (2, .nils), (3, .bool false), (4, .own 0 0 0 0 1), (11, .nils), (12, .int .i64 0), (13, .int .i64 0)] [⟨.typ (.flts .f32 (List.replicate 0 0)), 0⟩])
  = (bif false && true || true && true then bif !seq.sv (nt.tx.sv (List.replicate (0 : Nat) (0 : Nat))) s then some (AVal.tup [AVal.nils, AVal.bool false], [{ c := BC.typ (Cont.flts FloatKind.f32 (List.replicate (0 : Nat) (0 : Nat))), ver := (0 : Nat) }]) else some (AVal.tup [AVal.own (0 : Nat) (0 : Nat) (0 : Nat) (0 : Nat) (1 : Nat), AVal.bool true], [{ c := BC.typ (Cont.flts FloatKind.f32 (List.replicate (0 : Nat) (0 : Nat))), ver := (0 : Nat) }]) else none) := by kernel_rfl
theorem run : ∀ args v new, R args = some (true, v, new) → ∃ fuel, regc [0] (runFn Tryz.prog (orc [⟨49, pieces.RN⟩, ⟨50, readHex.R⟩, ⟨31, NumbersText.R⟩]) hd Dr.std none fuel (bodyOf Tryz.f32) 44 [2, 3] args []) = some (v, new) := by
  intro args v new h
  unfold R at h
  split at h
  · rename_i s
    simp only [Option.some.injEq, Prod.mk.injEq, Bool.and_eq_true, Bool.not_eq_true'] at h
    obtain ⟨⟨h1, h2⟩, rfl, rfl⟩ := h
    unfold nt.rdok.sp at h1
    simp only [Bool.and_eq_true, decide_eq_true_eq, Bool.or_eq_true, List.all_eq_true] at h1
    obtain ⟨⟨h3, h4, h5⟩, h6⟩ := h1
    obtain ⟨F, hF⟩ : ∃ F : Nat, F = 1000 := ⟨1000, rfl⟩
    refine ⟨F, ?_⟩
    have hr : nt.rd.sv s = [] := by unfold nt.rd.sv; rw [h2]; rfl
    have h7 : seq.sv (nt.tx.sv (List.replicate 0 0)) s = true := by rw [hr] at h6; exact h6
    obtain ⟨F, rfl⟩ : ∃ k, F = k + 1 := ⟨F - 1, by omega⟩
    rw [start, h2, hr]
    simp -implicitDefEqProofs only [Bool.and_self, Bool.or_self, cond_true]
    rw [round0, h7]
    simp -implicitDefEqProofs only [Bool.and_self, Bool.or_self, Bool.false_and, Bool.false_or, Bool.not_true, cond_true, cond_false]
    rfl
  · cases h
theorem ok : EntOk Tryz.prog ⟨32, R⟩ :=
  ent_okAG (ks := [0]) mixed (A := (orc [⟨49, pieces.RN⟩, ⟨50, readHex.R⟩, ⟨31, NumbersText.R⟩])) (orc_ok (by simp only [List.mem_cons, List.not_mem_nil, or_false, forall_eq_or_imp, forall_eq]; exact ⟨pieces.okN, readHex.ok, NumbersText.ok⟩)) Tryz.func32 (by kernel_rfl) (by kernel_rfl) (n := 44) (ts := [2, 3]) (hd := hd) (dr := Dr.std) (cut := none) (by kernel_rfl) (by kernel_rfl) (by kernel_rfl) run
end ReadNumbersB

namespace ReadNumbers
def R : List AVal → Option (Bool × AVal × List Blk)
  | [.str s] => some (nt.rdok.sp s, .tup [.own 0 0 (nt.rd.sv s).length 0 1, .bool true], [⟨.typ (.flts .f32 (nt.rd.sv s)), 0⟩])
  | _ => none
theorem ok : EntOk Tryz.prog ⟨32, R⟩ := by
  refine ReadNumbersA.ok.cases ReadNumbersB.ok fun args v new h => ?_
  unfold R at h
  split at h
  · rename_i s
    simp only [Option.some.injEq, Prod.mk.injEq] at h
    obtain ⟨h1, rfl, rfl⟩ := h
    cases hn : seq.sv s nt.none with
    | false => left; simp only [ReadNumbersA.R, h1, hn]; rfl
    | true => right; simp only [ReadNumbersB.R, h1, hn]; rfl
  · cases h
end ReadNumbers
end Go.Proofs.YtjhofofieiiplaaGreatDoor.Ab
