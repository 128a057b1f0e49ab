/-
  Functions: better steps.
-/
import Derived.Test.YtfbalfhekldkbaaFnGI
namespace Go.Proofs.Ytfbalfhekldkbaa.Ab
open Go
set_option linter.unusedVariables false
set_option linter.unusedSimpArgs false
set_option maxRecDepth 100000

namespace bs
/-- Numbers below N, each once, are N at the most. -/
theorem pigeon : ∀ (N : Nat) (l : List Int), l.Nodup → (∀ y ∈ l, 0 ≤ y ∧ y < (N : Int)) → l.length ≤ N := by
  intro N
  induction N with
  | zero =>
    intro l _ h
    cases l with
    | nil => simp
    | cons y t => have := h y List.mem_cons_self; omega
  | succ N ih =>
    intro l hd h
    by_cases hm : (N : Int) ∈ l
    · have h1 := ih (l.erase (N : Int)) (hd.erase _) (fun y hy => by
        have hy' := (List.Nodup.mem_erase_iff hd).1 hy
        have := h y hy'.2
        have hne := hy'.1
        omega)
      have h2 := List.length_erase_of_mem hm
      omega
    · have h1 := ih l hd (fun y hy => by
        have := h y hy
        have hne : y ≠ (N : Int) := fun e => hm (e ▸ hy)
        omega)
      omega
/-- The first best one. -/
def to.sv (r c : Nat) (xs : List Int) (k : Nat) : Nat := (gz (br.sv r c xs k) 0).toNat
theorem to_ok {r : Nat} (c : Nat) (xs : List Int) (k : Nat) (h : 0 < r) : gz (br.sv r c xs k) 0 = (to.sv r c xs k : Int) ∧ to.sv r c xs k < r := by
  have hp := br.sv_pos c xs k h
  obtain ⟨q, h1, h2⟩ := br.sv_mem (List.getElem_mem hp)
  unfold to.sv
  rw [gz_eq hp, h1, Int.toNat_natCast]
  exact ⟨rfl, h2⟩
def next (go : Nat → Nat → List Int → List Int) (c : Nat) (i k : Nat) (l : List Int) : List Int := bif pu.h.sp l ((i * c + k : Nat) : Int) then l ++ [((i * c + k : Nat) : Int)] else go i k (l ++ [((i * c + k : Nat) : Int)])
def go (r c : Nat) (xs ys : List Int) : Nat → Nat → Nat → List Int → List Int
  | 0, _, _, l => l
  | m + 1, i, k, l => bif decide (br.col c xs k i < br.col c xs k (to.sv r c xs k)) then next (go r c xs ys m) c (to.sv r c xs k) k l
    else bif decide (br.col c ys k i < br.col c ys (to.sv c r (tn.sv r c ys) i) i) then next (go r c xs ys m) c i (to.sv c r (tn.sv r c ys) i) l else l
def sv (r c : Nat) (xs ys : List Int) (i k : Nat) : List Int := go r c xs ys 40 i k [((i * c + k : Nat) : Int)]
theorem mem_h {l : List Int} {x : Int} (h : pu.h.sp l x = false) : x ∉ l := by
  intro hm
  have : pu.h.sp l x = true := by simp only [pu.h.sp, List.any_eq_true, beq_iff_eq]; exact ⟨x, hm, rfl⟩
  rw [h] at this; cases this
theorem snoc_nodup {l : List Int} {x : Int} (hl : l.Nodup) (h : x ∉ l) : (l ++ [x]).Nodup := by
  rw [List.nodup_append]
  refine ⟨hl, by simp, fun a ha b hb => ?_⟩
  simp only [List.mem_singleton] at hb
  subst hb
  exact fun e => h (e ▸ ha)
theorem go_length (r c : Nat) (xs ys : List Int) : ∀ (m i k : Nat) (l : List Int), (go r c xs ys m i k l).length ≤ l.length + m := by
  intro m
  induction m with
  | zero => intro i k l; exact Nat.le_refl _
  | succ m ih =>
    intro i k l
    have hn : ∀ i k, (next (go r c xs ys m) c i k l).length ≤ l.length + (m + 1) := fun i k => by
      have := ih i k (l ++ [((i * c + k : Nat) : Int)])
      unfold next
      rw [List.length_append] at this
      simp only [List.length_cons, List.length_nil, Nat.zero_add] at this
      cases pu.h.sp l ((i * c + k : Nat) : Int)
      · simp only [cond_false]; omega
      · simp only [cond_true, List.length_append, List.length_cons, List.length_nil]; omega
    simp only [go]
    cases decide (br.col c xs k i < br.col c xs k (to.sv r c xs k))
    · cases decide (br.col c ys k i < br.col c ys (to.sv c r (tn.sv r c ys) i) i)
      · simp only [cond_false]; omega
      · exact hn _ _
    · exact hn _ _
theorem sv_length (r c : Nat) (xs ys : List Int) (i k : Nat) : (sv r c xs ys i k).length ≤ 1000000 := by
  have := go_length r c xs ys 40 i k [((i * c + k : Nat) : Int)]
  unfold sv
  simp only [List.length_cons, List.length_nil] at this
  omega
/-- When better steps are told. -/
def sp (r c : Int) (xs ys : List Int) (i k : Int) : Bool := (gm.sp r c xs ys && (decide (0 ≤ i) && decide (i ≤ r - 1))) && (decide (0 ≤ k) && decide (k ≤ c - 1))
end bs

namespace iBetterSteps_t
def dr : Nat → Dr := fun i => bif eqN i 5 then ⟨some [0, 1, 5, 6, 2, 3, 4, 7, 8, 9, 10, 11], false⟩ else bif eqN i 7 then ⟨some [0, 1, 2, 4, 5, 6, 3, 7, 8, 9], false⟩ else bif eqN i 9 then ⟨some [0, 1, 2, 4, 5, 6, 3, 7, 8, 9], false⟩ else ⟨none, false⟩
def R : List AVal → Option (Bool × AVal × List Blk)
  | [.agg [.int .i64 r, .int .i64 c, .ro (.ints .i64 xs) ma 1, .ro (.ints .i64 ys) mb 1], .int .i64 i, .int .i64 k] => some (decide (ma = xs.length ∧ mb = ys.length ∧ ma ≤ 4611686018427387904 ∧ mb ≤ 4611686018427387904) && bs.sp r c xs ys i k, .tup [.own 0 0 (bs.sv r.toNat c.toNat xs ys i.toNat k.toNat).length 0 1, .bool true], [⟨.typ (.ints .i64 (bs.sv r.toNat c.toNat xs ys i.toNat k.toNat)), 0⟩])
  | _ => none
def hd : Nat → Head := fun _ => ⟨[1, 2, 3, 6, 7, 8, 9], some 5⟩
noncomputable def L (f n : Nat) (s : State) := loopAt Try.prog (orc [⟨13, iValidGame.R⟩, ⟨40, gHasRow.R⟩, ⟨38, gHasColumn.R⟩, ⟨29, gTurned.R⟩, ⟨39, gBestRows.R⟩, ⟨45, gA.R⟩, ⟨46, gB.R⟩, ⟨47, slContains.R⟩]) hd dr 0 f (bodyOf Try.f22) 0 [true, true, true, true] (retK Try.prog [6, 7] 0 none) n s
theorem start (r c : Int) (xs ys : List Int) (i k : Int) (f : Nat) :
  runFn Try.prog (orc [⟨13, iValidGame.R⟩, ⟨40, gHasRow.R⟩, ⟨38, gHasColumn.R⟩, ⟨29, gTurned.R⟩, ⟨39, gBestRows.R⟩, ⟨45, gA.R⟩, ⟨46, gB.R⟩, ⟨47, slContains.R⟩]) hd dr none f (bodyOf Try.f22) 86 [6, 7] [.agg [.int .i64 r, .int .i64 c, .ro (.ints .i64 xs) xs.length 1, .ro (.ints .i64 ys) ys.length 1], .int .i64 i, .int .i64 k] []
  = (bif true && true && (true && true && (true && true && (true && true && true))) then bif decide (xs.length = xs.length ∧ ys.length = ys.length ∧ xs.length ≤ (4611686018427387904 : Nat) ∧ ys.length ≤ (4611686018427387904 : Nat)) && (true && (true && (true && (true && true))) && true || true && true) then bif !gm.sp r c xs ys then some (AVal.tup [AVal.nils, AVal.bool false], [{ c := BC.cells [AVal.int IntKind.i64 r, AVal.int IntKind.i64 c, AVal.ro (Cont.ints IntKind.i64 xs) xs.length (1 : Nat), AVal.ro (Cont.ints IntKind.i64 ys) ys.length (1 : Nat)], ver := (0 : Nat) }]) else bif true && true && (true && true && (true && true && (true && true && true))) then bif decide ((1 : Int) ≤ r ∧ r ≤ (6 : Int)) && (true && (true && (true && (true && true))) && (true && true) || true && true) then bif !(decide ((0 : Int) ≤ i) && decide (i ≤ r - (1 : Int))) then some (AVal.tup [AVal.nils, AVal.bool false], [{ c := BC.cells [AVal.int IntKind.i64 r, AVal.int IntKind.i64 c, AVal.ro (Cont.ints IntKind.i64 xs) xs.length (1 : Nat), AVal.ro (Cont.ints IntKind.i64 ys) ys.length (1 : Nat)], ver := (0 : Nat) }]) else bif true && true && (true && true && (true && true && (true && true && true))) then bif decide ((1 : Int) ≤ c ∧ c ≤ (6 : Int)) && (true && (true && (true && (true && true))) && (true && true) || true && true) then bif !(decide ((0 : Int) ≤ k) && decide (k ≤ c - (1 : Int))) then some (AVal.tup [AVal.nils, AVal.bool false], [{ c := BC.cells [AVal.int IntKind.i64 r, AVal.int IntKind.i64 c, AVal.ro (Cont.ints IntKind.i64 xs) xs.length (1 : Nat), AVal.ro (Cont.ints IntKind.i64 ys) ys.length (1 : Nat)], ver := (0 : Nat) }]) else bif true && true && (true && true && (true && true && (true && true && true))) then bif decide (xs.length = xs.length ∧ ys.length = ys.length) && gm.sp r c xs ys && (true && (true && (true && (true && true))) && true || true && (true && (true && (true && true))) && (true && (true && true))) then bif true && true then L f f (mkS (86 : Nat) [((1 : Nat), AVal.int IntKind.i64 i), ((2 : Nat), AVal.int IntKind.i64 k), ((3 : Nat), AVal.ptr (0 : Nat) (0 : Nat) (0 : Nat)), ((6 : Nat), AVal.nils), ((7 : Nat), AVal.bool false), ((8 : Nat), AVal.ptr ((1 : Nat) + (1 : Nat) + (1 : Nat)) (0 : Nat) (0 : Nat)), ((9 : Nat), AVal.own ((1 : Nat) + (1 : Nat) + (1 : Nat) + (1 : Nat)) (0 : Nat) (1 : Nat) (0 : Nat) (1 : Nat))] [{ c := BC.cells [AVal.int IntKind.i64 r, AVal.int IntKind.i64 c, AVal.ro (Cont.ints IntKind.i64 xs) xs.length (1 : Nat), AVal.ro (Cont.ints IntKind.i64 ys) ys.length (1 : Nat)], ver := (0 : Nat) }, { c := BC.typ (Cont.ints IntKind.i64 (tn.sv r.toNat c.toNat ys)), ver := (0 : Nat) }, { c := BC.typ (Cont.ints IntKind.i64 (tn.sv r.toNat c.toNat xs)), ver := (0 : Nat) }, { c := BC.cells [AVal.int IntKind.i64 c, AVal.int IntKind.i64 r, AVal.own (1 : Nat) (0 : Nat) (c * r).toNat (0 : Nat) (1 : Nat), AVal.own (2 : Nat) (0 : Nat) (c * r).toNat (0 : Nat) (1 : Nat)], ver := (0 : Nat) }, { c := BC.typ (Cont.ints IntKind.i64 ((List.replicate (1 : Nat) (0 : Int)).set (0 : Nat) (IntKind.i64.wrap (IntKind.i64.wrap (i * c) + k)))), ver := (0 : Nat) }]) else none else none else none else none else none else none else none else none else none) := by kernel_rfl
theorem round (r c : Nat) (xs ys : List Int) (ta tb : List Int) (q : Nat) (zs : List Int) (i k f n : Nat) :
  L f (n + 1) (mkS 86 [(1, .int .i64 i), (2, .int .i64 k), (3, .ptr 0 0 0), (6, .nils), (7, .bool false), (8, .ptr 3 0 0), (9, .own 4 0 zs.length 0 1)] [⟨.cells [.int .i64 r, .int .i64 c, .ro (.ints .i64 xs) xs.length 1, .ro (.ints .i64 ys) ys.length 1], 0⟩, ⟨.typ (.ints .i64 ta), 0⟩, ⟨.typ (.ints .i64 tb), 0⟩, ⟨.cells [.int .i64 c, .int .i64 r, .own 1 0 q 0 1, .own 2 0 q 0 1], 0⟩, ⟨.typ (.ints .i64 zs), 0⟩])
  = (bif true && true && (true && true && (true && true && (true && true && true))) then bif true && true && (true && true && (true && true && (true && true && true))) then bif decide (xs.length = xs.length ∧ ys.length = ys.length ∧ (0 : Int) ≤ (↑k : Int) ∧ (↑k : Int) < (↑c : Int)) && gm.sp (↑r : Int) (↑c : Int) xs ys && (true && (true && (true && (true && true))) && (true && true) || true && (true && true)) then bif decide ((0 : Int) < (↑(br.sv (↑r : Int).toNat (↑c : Int).toNat xs (↑k : Int).toNat).length : Int)) then bif true && decide ((0 : Nat) < (br.sv (↑r : Int).toNat (↑c : Int).toNat xs (↑k : Int).toNat).length) then bif decide (q = ta.length ∧ q = tb.length ∧ (0 : Int) ≤ (↑i : Int) ∧ (↑i : Int) < (↑r : Int)) && gm.sp (↑c : Int) (↑r : Int) ta tb && (true && (true && (false && (false && true))) && (true && true) || true && (true && true)) then bif decide ((0 : Int) < (↑(br.sv (↑c : Int).toNat (↑r : Int).toNat ta (↑i : Int).toNat).length : Int)) then bif true && decide ((0 : Nat) < (br.sv (↑c : Int).toNat (↑r : Int).toNat ta (↑i : Int).toNat).length) then bif true && true && (true && true && (true && true && (true && true && true))) then bif true && true && (true && true && (true && true && (true && true && true))) then bif decide (xs.length = xs.length ∧ ys.length = ys.length ∧ (0 : Int) ≤ gz (br.sv (↑r : Int).toNat (↑c : Int).toNat xs (↑k : Int).toNat) (nat_lit 0) ∧ (0 : Int) ≤ (↑k : Int) ∧ gz (br.sv (↑r : Int).toNat (↑c : Int).toNat xs (↑k : Int).toNat) (nat_lit 0) ≤ (100 : Int) ∧ (↑k : Int) ≤ (100 : Int) ∧ (0 : Int) ≤ (↑c : Int) ∧ (↑c : Int) ≤ (100 : Int) ∧ gz (br.sv (↑r : Int).toNat (↑c : Int).toNat xs (↑k : Int).toNat) (nat_lit 0) * (↑c : Int) + (↑k : Int) < (↑xs.length : Int)) && (true && (true && (true && (true && true))) && (true && (true && true)) || true && true) then bif decide (xs.length = xs.length ∧ ys.length = ys.length ∧ (0 : Int) ≤ (↑i : Int) ∧ (0 : Int) ≤ (↑k : Int) ∧ (↑i : Int) ≤ (100 : Int) ∧ (↑k : Int) ≤ (100 : Int) ∧ (0 : Int) ≤ (↑c : Int) ∧ (↑c : Int) ≤ (100 : Int) ∧ (↑i : Int) * (↑c : Int) + (↑k : Int) < (↑xs.length : Int)) && (true && (true && (true && (true && true))) && (true && (true && true)) || true && true) then bif decide (gz xs ((↑i : Int) * (↑c : Int) + (↑k : Int)).toNat < gz xs (gz (br.sv (↑r : Int).toNat (↑c : Int).toNat xs (↑k : Int).toNat) (0 : Nat) * (↑c : Int) + (↑k : Int)).toNat) then bif true && true then bif decide (zs.length ≤ zs.length ∧ zs.length ≤ (4611686018427387904 : Nat)) && (false && (true && true) || true && true) then bif (1 : Nat) == (1 : Nat) && (1 : Nat) == (1 : Nat) && (true && (true && true) && (true && true && (decide (zs.length + (List.take (1 : Nat) (List.drop (0 : Nat) ((List.replicate (1 : Nat) (0 : Int)).set (0 : Nat) (IntKind.i64.wrap (IntKind.i64.wrap (gz (br.sv (↑r : Int).toNat (↑c : Int).toNat xs (↑k : Int).toNat) (0 : Nat) * (↑c : Int)) + (↑k : Int)))))).length ≤ (4611686018427387904 : Nat)) && decide ((zs.length + (List.take (1 : Nat) (List.drop (0 : Nat) ((List.replicate (1 : Nat) (0 : Int)).set (0 : Nat) (IntKind.i64.wrap (IntKind.i64.wrap (gz (br.sv (↑r : Int).toNat (↑c : Int).toNat xs (↑k : Int).toNat) (0 : Nat) * (↑c : Int)) + (↑k : Int)))))).length) * (8 : Nat) ≤ (140737488355328 : Nat))))) then bif pu.h.sp (List.take zs.length zs) (IntKind.i64.wrap (IntKind.i64.wrap (gz (br.sv (↑r : Int).toNat (↑c : Int).toNat xs (↑k : Int).toNat) (0 : Nat) * (↑c : Int)) + (↑k : Int))) then some (AVal.tup [AVal.own (4 : Nat) (0 : Nat) (zs.length + (List.take (1 : Nat) (List.drop (0 : Nat) ((List.replicate (1 : Nat) (0 : Int)).set (0 : Nat) (IntKind.i64.wrap (IntKind.i64.wrap (gz (br.sv (↑r : Int).toNat (↑c : Int).toNat xs (↑k : Int).toNat) (0 : Nat) * (↑c : Int)) + (↑k : Int)))))).length) (0 : Nat) (1 : Nat), AVal.bool true], [{ c := BC.cells [AVal.int IntKind.i64 (↑r : Int), AVal.int IntKind.i64 (↑c : Int), AVal.ro (Cont.ints IntKind.i64 xs) xs.length (1 : Nat), AVal.ro (Cont.ints IntKind.i64 ys) ys.length (1 : Nat)], ver := (0 : Nat) }, { c := BC.typ (Cont.ints IntKind.i64 ta), ver := (0 : Nat) }, { c := BC.typ (Cont.ints IntKind.i64 tb), ver := (0 : Nat) }, { c := BC.cells [AVal.int IntKind.i64 (↑c : Int), AVal.int IntKind.i64 (↑r : Int), AVal.own (1 : Nat) (0 : Nat) q (0 : Nat) (1 : Nat), AVal.own (2 : Nat) (0 : Nat) q (0 : Nat) (1 : Nat)], ver := (0 : Nat) }, { c := BC.typ (Cont.ints IntKind.i64 (List.take zs.length zs ++ List.take (1 : Nat) (List.drop (0 : Nat) ((List.replicate (1 : Nat) (0 : Int)).set (0 : Nat) (IntKind.i64.wrap (IntKind.i64.wrap (gz (br.sv (↑r : Int).toNat (↑c : Int).toNat xs (↑k : Int).toNat) (0 : Nat) * (↑c : Int)) + (↑k : Int))))))), ver := (0 : Nat) }]) else L f n (mkS (86 : Nat) [((1 : Nat), AVal.int IntKind.i64 (gz (br.sv (↑r : Int).toNat (↑c : Int).toNat xs (↑k : Int).toNat) (0 : Nat))), ((2 : Nat), AVal.int IntKind.i64 (↑k : Int)), ((3 : Nat), AVal.ptr (0 : Nat) (0 : Nat) (0 : Nat)), ((6 : Nat), AVal.nils), ((7 : Nat), AVal.bool false), ((8 : Nat), AVal.ptr (3 : Nat) (0 : Nat) (0 : Nat)), ((9 : Nat), AVal.own (4 : Nat) (0 : Nat) (zs.length + (List.take (1 : Nat) (List.drop (0 : Nat) ((List.replicate (1 : Nat) (0 : Int)).set (0 : Nat) (IntKind.i64.wrap (IntKind.i64.wrap (gz (br.sv (↑r : Int).toNat (↑c : Int).toNat xs (↑k : Int).toNat) (0 : Nat) * (↑c : Int)) + (↑k : Int)))))).length) (0 : Nat) (1 : Nat))] [{ c := BC.cells [AVal.int IntKind.i64 (↑r : Int), AVal.int IntKind.i64 (↑c : Int), AVal.ro (Cont.ints IntKind.i64 xs) xs.length (1 : Nat), AVal.ro (Cont.ints IntKind.i64 ys) ys.length (1 : Nat)], ver := (0 : Nat) }, { c := BC.typ (Cont.ints IntKind.i64 ta), ver := (0 : Nat) }, { c := BC.typ (Cont.ints IntKind.i64 tb), ver := (0 : Nat) }, { c := BC.cells [AVal.int IntKind.i64 (↑c : Int), AVal.int IntKind.i64 (↑r : Int), AVal.own (1 : Nat) (0 : Nat) q (0 : Nat) (1 : Nat), AVal.own (2 : Nat) (0 : Nat) q (0 : Nat) (1 : Nat)], ver := (0 : Nat) }, { c := BC.typ (Cont.ints IntKind.i64 (List.take zs.length zs ++ List.take (1 : Nat) (List.drop (0 : Nat) ((List.replicate (1 : Nat) (0 : Int)).set (0 : Nat) (IntKind.i64.wrap (IntKind.i64.wrap (gz (br.sv (↑r : Int).toNat (↑c : Int).toNat xs (↑k : Int).toNat) (0 : Nat) * (↑c : Int)) + (↑k : Int))))))), ver := (0 : Nat) }]) else none else none else none else bif true && true && (true && true && (true && true && (true && true && true))) then bif true && true && (true && true && (true && true && (true && true && true))) then bif decide (xs.length = xs.length ∧ ys.length = ys.length ∧ (0 : Int) ≤ (↑i : Int) ∧ (0 : Int) ≤ gz (br.sv (↑c : Int).toNat (↑r : Int).toNat ta (↑i : Int).toNat) (nat_lit 0) ∧ (↑i : Int) ≤ (100 : Int) ∧ gz (br.sv (↑c : Int).toNat (↑r : Int).toNat ta (↑i : Int).toNat) (nat_lit 0) ≤ (100 : Int) ∧ (0 : Int) ≤ (↑c : Int) ∧ (↑c : Int) ≤ (100 : Int) ∧ (↑i : Int) * (↑c : Int) + gz (br.sv (↑c : Int).toNat (↑r : Int).toNat ta (↑i : Int).toNat) (nat_lit 0) < (↑ys.length : Int)) && (true && (true && (true && (true && true))) && (true && (true && true)) || true && true) then bif decide (xs.length = xs.length ∧ ys.length = ys.length ∧ (0 : Int) ≤ (↑i : Int) ∧ (0 : Int) ≤ (↑k : Int) ∧ (↑i : Int) ≤ (100 : Int) ∧ (↑k : Int) ≤ (100 : Int) ∧ (0 : Int) ≤ (↑c : Int) ∧ (↑c : Int) ≤ (100 : Int) ∧ (↑i : Int) * (↑c : Int) + (↑k : Int) < (↑ys.length : Int)) && (true && (true && (true && (true && true))) && (true && (true && true)) || true && true) then bif decide (gz ys ((↑i : Int) * (↑c : Int) + (↑k : Int)).toNat < gz ys ((↑i : Int) * (↑c : Int) + gz (br.sv (↑c : Int).toNat (↑r : Int).toNat ta (↑i : Int).toNat) (0 : Nat)).toNat) then bif true && true then bif decide (zs.length ≤ zs.length ∧ zs.length ≤ (4611686018427387904 : Nat)) && (false && (true && true) || true && true) then bif (1 : Nat) == (1 : Nat) && (1 : Nat) == (1 : Nat) && (true && (true && true) && (true && true && (decide (zs.length + (List.take (1 : Nat) (List.drop (0 : Nat) ((List.replicate (1 : Nat) (0 : Int)).set (0 : Nat) (IntKind.i64.wrap (IntKind.i64.wrap ((↑i : Int) * (↑c : Int)) + gz (br.sv (↑c : Int).toNat (↑r : Int).toNat ta (↑i : Int).toNat) (0 : Nat)))))).length ≤ (4611686018427387904 : Nat)) && decide ((zs.length + (List.take (1 : Nat) (List.drop (0 : Nat) ((List.replicate (1 : Nat) (0 : Int)).set (0 : Nat) (IntKind.i64.wrap (IntKind.i64.wrap ((↑i : Int) * (↑c : Int)) + gz (br.sv (↑c : Int).toNat (↑r : Int).toNat ta (↑i : Int).toNat) (0 : Nat)))))).length) * (8 : Nat) ≤ (140737488355328 : Nat))))) then bif pu.h.sp (List.take zs.length zs) (IntKind.i64.wrap (IntKind.i64.wrap ((↑i : Int) * (↑c : Int)) + gz (br.sv (↑c : Int).toNat (↑r : Int).toNat ta (↑i : Int).toNat) (0 : Nat))) then some (AVal.tup [AVal.own (4 : Nat) (0 : Nat) (zs.length + (List.take (1 : Nat) (List.drop (0 : Nat) ((List.replicate (1 : Nat) (0 : Int)).set (0 : Nat) (IntKind.i64.wrap (IntKind.i64.wrap ((↑i : Int) * (↑c : Int)) + gz (br.sv (↑c : Int).toNat (↑r : Int).toNat ta (↑i : Int).toNat) (0 : Nat)))))).length) (0 : Nat) (1 : Nat), AVal.bool true], [{ c := BC.cells [AVal.int IntKind.i64 (↑r : Int), AVal.int IntKind.i64 (↑c : Int), AVal.ro (Cont.ints IntKind.i64 xs) xs.length (1 : Nat), AVal.ro (Cont.ints IntKind.i64 ys) ys.length (1 : Nat)], ver := (0 : Nat) }, { c := BC.typ (Cont.ints IntKind.i64 ta), ver := (0 : Nat) }, { c := BC.typ (Cont.ints IntKind.i64 tb), ver := (0 : Nat) }, { c := BC.cells [AVal.int IntKind.i64 (↑c : Int), AVal.int IntKind.i64 (↑r : Int), AVal.own (1 : Nat) (0 : Nat) q (0 : Nat) (1 : Nat), AVal.own (2 : Nat) (0 : Nat) q (0 : Nat) (1 : Nat)], ver := (0 : Nat) }, { c := BC.typ (Cont.ints IntKind.i64 (List.take zs.length zs ++ List.take (1 : Nat) (List.drop (0 : Nat) ((List.replicate (1 : Nat) (0 : Int)).set (0 : Nat) (IntKind.i64.wrap (IntKind.i64.wrap ((↑i : Int) * (↑c : Int)) + gz (br.sv (↑c : Int).toNat (↑r : Int).toNat ta (↑i : Int).toNat) (0 : Nat))))))), ver := (0 : Nat) }]) else L f n (mkS (86 : Nat) [((1 : Nat), AVal.int IntKind.i64 (↑i : Int)), ((2 : Nat), AVal.int IntKind.i64 (gz (br.sv (↑c : Int).toNat (↑r : Int).toNat ta (↑i : Int).toNat) (0 : Nat))), ((3 : Nat), AVal.ptr (0 : Nat) (0 : Nat) (0 : Nat)), ((6 : Nat), AVal.nils), ((7 : Nat), AVal.bool false), ((8 : Nat), AVal.ptr (3 : Nat) (0 : Nat) (0 : Nat)), ((9 : Nat), AVal.own (4 : Nat) (0 : Nat) (zs.length + (List.take (1 : Nat) (List.drop (0 : Nat) ((List.replicate (1 : Nat) (0 : Int)).set (0 : Nat) (IntKind.i64.wrap (IntKind.i64.wrap ((↑i : Int) * (↑c : Int)) + gz (br.sv (↑c : Int).toNat (↑r : Int).toNat ta (↑i : Int).toNat) (0 : Nat)))))).length) (0 : Nat) (1 : Nat))] [{ c := BC.cells [AVal.int IntKind.i64 (↑r : Int), AVal.int IntKind.i64 (↑c : Int), AVal.ro (Cont.ints IntKind.i64 xs) xs.length (1 : Nat), AVal.ro (Cont.ints IntKind.i64 ys) ys.length (1 : Nat)], ver := (0 : Nat) }, { c := BC.typ (Cont.ints IntKind.i64 ta), ver := (0 : Nat) }, { c := BC.typ (Cont.ints IntKind.i64 tb), ver := (0 : Nat) }, { c := BC.cells [AVal.int IntKind.i64 (↑c : Int), AVal.int IntKind.i64 (↑r : Int), AVal.own (1 : Nat) (0 : Nat) q (0 : Nat) (1 : Nat), AVal.own (2 : Nat) (0 : Nat) q (0 : Nat) (1 : Nat)], ver := (0 : Nat) }, { c := BC.typ (Cont.ints IntKind.i64 (List.take zs.length zs ++ List.take (1 : Nat) (List.drop (0 : Nat) ((List.replicate (1 : Nat) (0 : Int)).set (0 : Nat) (IntKind.i64.wrap (IntKind.i64.wrap ((↑i : Int) * (↑c : Int)) + gz (br.sv (↑c : Int).toNat (↑r : Int).toNat ta (↑i : Int).toNat) (0 : Nat))))))), ver := (0 : Nat) }]) else none else none else none else some (AVal.tup [AVal.own (4 : Nat) (0 : Nat) zs.length (0 : Nat) (1 : Nat), AVal.bool true], [{ c := BC.cells [AVal.int IntKind.i64 (↑r : Int), AVal.int IntKind.i64 (↑c : Int), AVal.ro (Cont.ints IntKind.i64 xs) xs.length (1 : Nat), AVal.ro (Cont.ints IntKind.i64 ys) ys.length (1 : Nat)], ver := (0 : Nat) }, { c := BC.typ (Cont.ints IntKind.i64 ta), ver := (0 : Nat) }, { c := BC.typ (Cont.ints IntKind.i64 tb), ver := (0 : Nat) }, { c := BC.cells [AVal.int IntKind.i64 (↑c : Int), AVal.int IntKind.i64 (↑r : Int), AVal.own (1 : Nat) (0 : Nat) q (0 : Nat) (1 : Nat), AVal.own (2 : Nat) (0 : Nat) q (0 : Nat) (1 : Nat)], ver := (0 : Nat) }, { c := BC.typ (Cont.ints IntKind.i64 zs), ver := (0 : Nat) }]) else none else none else none else none else none else none else none else none else none else none else none else none else none else none else none else none) := by kernel_rfl
theorem loop (r c : Nat) (xs ys : List Int) (f : Nat) (hv : gm.sp r c xs ys = true) (hw : gm.sp c r (tn.sv r c ys) (tn.sv r c xs) = true) (hr : 1 ≤ r ∧ r ≤ 6) (hc : 1 ≤ c ∧ c ≤ 6) (hx : xs.length = r * c) (hy : ys.length = r * c) : ∀ (m n i k : Nat) (zs : List Int), m < n → i < r → k < c → zs.Nodup → (∀ y ∈ zs, 0 ≤ y ∧ y < ((r * c : Nat) : Int)) → r * c < zs.length + m →
    L f n (mkS 86 [(1, .int .i64 i), (2, .int .i64 k), (3, .ptr 0 0 0), (6, .nils), (7, .bool false), (8, .ptr 3 0 0), (9, .own 4 0 zs.length 0 1)] [⟨.cells [.int .i64 r, .int .i64 c, .ro (.ints .i64 xs) xs.length 1, .ro (.ints .i64 ys) ys.length 1], 0⟩, ⟨.typ (.ints .i64 (tn.sv r c ys)), 0⟩, ⟨.typ (.ints .i64 (tn.sv r c xs)), 0⟩, ⟨.cells [.int .i64 c, .int .i64 r, .own 1 0 (c * r) 0 1, .own 2 0 (c * r) 0 1], 0⟩, ⟨.typ (.ints .i64 zs), 0⟩]) = some (.tup [.own 4 0 (bs.go r c xs ys m i k zs).length 0 1, .bool true], [⟨.cells [.int .i64 r, .int .i64 c, .ro (.ints .i64 xs) xs.length 1, .ro (.ints .i64 ys) ys.length 1], 0⟩, ⟨.typ (.ints .i64 (tn.sv r c ys)), 0⟩, ⟨.typ (.ints .i64 (tn.sv r c xs)), 0⟩, ⟨.cells [.int .i64 c, .int .i64 r, .own 1 0 (c * r) 0 1, .own 2 0 (c * r) 0 1], 0⟩, ⟨.typ (.ints .i64 (bs.go r c xs ys m i k zs)), 0⟩]) := by
  intro m
  induction m with
  | zero =>
    intro n i k zs _ _ _ hd hb hl
    have := bs.pigeon (r * c) zs hd hb
    omega
  | succ m ih =>
    intro n i k zs hn hi hk hd hb hl
    obtain ⟨n, rfl⟩ : ∃ k, n = k + 1 := ⟨n - 1, by omega⟩
    have h36 := gm.le_36 hr.2 hc.2
    have h36c := gm.le_36 hc.2 hr.2
    have hpg := bs.pigeon (r * c) zs hd hb
    have t4 : c * r ≤ 4611686018427387904 := by omega
    have c0 : (0 : Int) ≤ (c : Int) := Int.natCast_nonneg _
    have cc1 : (c : Int) ≤ 100 := by omega
    have s0 : zs.length ≤ 4611686018427387904 := by omega
    have s1 : zs.length + 1 ≤ 4611686018427387904 := by omega
    have s2 : (zs.length + 1) * 8 ≤ 140737488355328 := by omega
    obtain ⟨g1, hit⟩ := bs.to_ok c xs k (r := r) (by omega)
    obtain ⟨g2, hks⟩ := bs.to_ok r (tn.sv r c ys) i (r := c) (by omega)
    have g3 : 0 < (br.sv r c xs k).length := br.sv_pos _ _ _ (by omega)
    have g4 : 0 < (br.sv c r (tn.sv r c ys) i).length := br.sv_pos _ _ _ (by omega)
    have g5 : (0 : Int) < ((br.sv r c xs k).length : Int) := by omega
    have g6 : (0 : Int) < ((br.sv c r (tn.sv r c ys) i).length : Int) := by omega
    have t1 : (tn.sv r c ys).length = c * r := tn.sv_length _ _ _
    have t2 : (tn.sv r c xs).length = c * r := tn.sv_length _ _ _
    have t5 : (tn.sv r c ys).take (c * r) = tn.sv r c ys := List.take_of_length_le (by omega)
    have t6 : (tn.sv r c xs).take (c * r) = tn.sv r c xs := List.take_of_length_le (by omega)
    rw [round]
    simp only [bs.go]
    generalize hto : bs.to.sv r c xs k = t at hit g1 ⊢
    generalize han : bs.to.sv c r (tn.sv r c ys) i = s at hks g2 ⊢
    have hia := hi
    have hka := hk
    have hkt := hk
    have his := hi
    have hlta := gm.ix_lt (R := r) (C := c) hia hka
    have i0a : (0 : Int) ≤ (i : Int) := Int.natCast_nonneg _
    have i1a : (i : Int) ≤ 100 := by omega
    have i2a : (i : Int) < (r : Int) := by omega
    have k0a : (0 : Int) ≤ (k : Int) := Int.natCast_nonneg _
    have k1a : (k : Int) ≤ 100 := by omega
    have k2a : (k : Int) < (c : Int) := by omega
    have ema : (i : Int) * (c : Int) = ((i * c : Nat) : Int) := by simp
    have eea : ((i * c : Nat) : Int) + (k : Int) = ((i * c + k : Nat) : Int) := by simp
    have lxa : ((i * c + k : Nat) : Int) < (xs.length : Int) := by omega
    have lya : ((i * c + k : Nat) : Int) < (ys.length : Int) := by omega
    have lx2a : i * c + k < xs.length := by omega
    have ly2a : i * c + k < ys.length := by omega
    have p0a : (0 : Int) ≤ ((i * c + k : Nat) : Int) := Int.natCast_nonneg _
    have w1a : IntKind.i64.wrap ((i * c : Nat) : Int) = ((i * c : Nat) : Int) := IntWalk.i64_in _ (by omega)
    have w2a : IntKind.i64.wrap ((i * c + k : Nat) : Int) = ((i * c + k : Nat) : Int) := IntWalk.i64_in _ (by omega)
    have cxa : gz xs (i * c + k) = br.col c xs k i := rfl
    have cya : gz ys (i * c + k) = br.col c ys k i := rfl
    have hltt := gm.ix_lt (R := r) (C := c) hit hkt
    have i0t : (0 : Int) ≤ (t : Int) := Int.natCast_nonneg _
    have i1t : (t : Int) ≤ 100 := by omega
    have i2t : (t : Int) < (r : Int) := by omega
    have k0t : (0 : Int) ≤ (k : Int) := Int.natCast_nonneg _
    have k1t : (k : Int) ≤ 100 := by omega
    have k2t : (k : Int) < (c : Int) := by omega
    have emt : (t : Int) * (c : Int) = ((t * c : Nat) : Int) := by simp
    have eet : ((t * c : Nat) : Int) + (k : Int) = ((t * c + k : Nat) : Int) := by simp
    have lxt : ((t * c + k : Nat) : Int) < (xs.length : Int) := by omega
    have lyt : ((t * c + k : Nat) : Int) < (ys.length : Int) := by omega
    have lx2t : t * c + k < xs.length := by omega
    have ly2t : t * c + k < ys.length := by omega
    have p0t : (0 : Int) ≤ ((t * c + k : Nat) : Int) := Int.natCast_nonneg _
    have w1t : IntKind.i64.wrap ((t * c : Nat) : Int) = ((t * c : Nat) : Int) := IntWalk.i64_in _ (by omega)
    have w2t : IntKind.i64.wrap ((t * c + k : Nat) : Int) = ((t * c + k : Nat) : Int) := IntWalk.i64_in _ (by omega)
    have cxt : gz xs (t * c + k) = br.col c xs k t := rfl
    have cyt : gz ys (t * c + k) = br.col c ys k t := rfl
    have hlts := gm.ix_lt (R := r) (C := c) his hks
    have i0s : (0 : Int) ≤ (i : Int) := Int.natCast_nonneg _
    have i1s : (i : Int) ≤ 100 := by omega
    have i2s : (i : Int) < (r : Int) := by omega
    have k0s : (0 : Int) ≤ (s : Int) := Int.natCast_nonneg _
    have k1s : (s : Int) ≤ 100 := by omega
    have k2s : (s : Int) < (c : Int) := by omega
    have ems : (i : Int) * (c : Int) = ((i * c : Nat) : Int) := by simp
    have ees : ((i * c : Nat) : Int) + (s : Int) = ((i * c + s : Nat) : Int) := by simp
    have lxs : ((i * c + s : Nat) : Int) < (xs.length : Int) := by omega
    have lys : ((i * c + s : Nat) : Int) < (ys.length : Int) := by omega
    have lx2s : i * c + s < xs.length := by omega
    have ly2s : i * c + s < ys.length := by omega
    have p0s : (0 : Int) ≤ ((i * c + s : Nat) : Int) := Int.natCast_nonneg _
    have w1s : IntKind.i64.wrap ((i * c : Nat) : Int) = ((i * c : Nat) : Int) := IntWalk.i64_in _ (by omega)
    have w2s : IntKind.i64.wrap ((i * c + s : Nat) : Int) = ((i * c + s : Nat) : Int) := IntWalk.i64_in _ (by omega)
    have cxs : gz xs (i * c + s) = br.col c xs s i := rfl
    have cys : gz ys (i * c + s) = br.col c ys s i := rfl
    have hmem : ∀ (x : Nat), x < r * c → pu.h.sp zs (x : Int) = false → (zs ++ [(x : Int)]).Nodup ∧ ∀ y ∈ zs ++ [(x : Int)], 0 ≤ y ∧ y < ((r * c : Nat) : Int) := fun x hx' hh => by
      refine ⟨bs.snoc_nodup hd (bs.mem_h hh), fun y hy => ?_⟩
      rcases List.mem_append.1 hy with h | h
      · exact hb y h
      · simp only [List.mem_singleton] at h; omega
    have el : ∀ x : Int, (zs ++ [x]).length = zs.length + 1 := fun x => by simp
    by_cases c1 : br.col c xs k i < br.col c xs k t
    · cases hh : pu.h.sp zs ((t * c + k : Nat) : Int)
      · obtain ⟨n1, n2⟩ := hmem _ hltt hh
        have hih := ih n t k (zs ++ [((t * c + k : Nat) : Int)]) (by omega) hit hk n1 n2 (by rw [el]; omega)
        rw [el] at hih
        simp -implicitDefEqProofs only [c1, hh, bs.next, s0, s1, s2, t1, t2, t4, t5, t6, hv, hw, g1, g2, g3, g4, g5, g6, c0, cc1, Int.toNat_zero, Int.lt_irrefl, Int.le_refl, ema, eea, w1a, w2a, lxa, lya, lx2a, ly2a, p0a, i0a, i1a, i2a, k0a, k1a, k2a, cxa, cya, emt, eet, w1t, w2t, lxt, lyt, lx2t, ly2t, p0t, i0t, i1t, i2t, k0t, k1t, k2t, cxt, cyt, ems, ees, w1s, w2s, lxs, lys, lx2s, ly2s, p0s, i0s, i1s, i2s, k0s, k1s, k2s, cxs, cys, Int.toNat_natCast, one_set, List.length_singleton, List.take_length, Nat.le_refl, Nat.reduceBEq, and_self, eq_self, decide_true, decide_false, Bool.and_self, Bool.or_self, Bool.and_true, Bool.true_and, Bool.and_false, Bool.false_and, Bool.or_true, Bool.true_or, Bool.or_false, Bool.false_or, Bool.not_true, Bool.not_false, cond_true, cond_false]
        exact hih
      · simp -implicitDefEqProofs only [c1, hh, bs.next, el, s0, s1, s2, t1, t2, t4, t5, t6, hv, hw, g1, g2, g3, g4, g5, g6, c0, cc1, Int.toNat_zero, Int.lt_irrefl, Int.le_refl, ema, eea, w1a, w2a, lxa, lya, lx2a, ly2a, p0a, i0a, i1a, i2a, k0a, k1a, k2a, cxa, cya, emt, eet, w1t, w2t, lxt, lyt, lx2t, ly2t, p0t, i0t, i1t, i2t, k0t, k1t, k2t, cxt, cyt, ems, ees, w1s, w2s, lxs, lys, lx2s, ly2s, p0s, i0s, i1s, i2s, k0s, k1s, k2s, cxs, cys, Int.toNat_natCast, one_set, List.length_singleton, List.take_length, Nat.le_refl, Nat.reduceBEq, and_self, eq_self, decide_true, decide_false, Bool.and_self, Bool.or_self, Bool.and_true, Bool.true_and, Bool.and_false, Bool.false_and, Bool.or_true, Bool.true_or, Bool.or_false, Bool.false_or, Bool.not_true, Bool.not_false, cond_true, cond_false]
    · by_cases c2 : br.col c ys k i < br.col c ys s i
      · cases hh : pu.h.sp zs ((i * c + s : Nat) : Int)
        · obtain ⟨n1, n2⟩ := hmem _ hlts hh
          have hih := ih n i s (zs ++ [((i * c + s : Nat) : Int)]) (by omega) hi hks n1 n2 (by rw [el]; omega)
          rw [el] at hih
          simp -implicitDefEqProofs only [c1, c2, hh, bs.next, s0, s1, s2, t1, t2, t4, t5, t6, hv, hw, g1, g2, g3, g4, g5, g6, c0, cc1, Int.toNat_zero, Int.lt_irrefl, Int.le_refl, ema, eea, w1a, w2a, lxa, lya, lx2a, ly2a, p0a, i0a, i1a, i2a, k0a, k1a, k2a, cxa, cya, emt, eet, w1t, w2t, lxt, lyt, lx2t, ly2t, p0t, i0t, i1t, i2t, k0t, k1t, k2t, cxt, cyt, ems, ees, w1s, w2s, lxs, lys, lx2s, ly2s, p0s, i0s, i1s, i2s, k0s, k1s, k2s, cxs, cys, Int.toNat_natCast, one_set, List.length_singleton, List.take_length, Nat.le_refl, Nat.reduceBEq, and_self, eq_self, decide_true, decide_false, Bool.and_self, Bool.or_self, Bool.and_true, Bool.true_and, Bool.and_false, Bool.false_and, Bool.or_true, Bool.true_or, Bool.or_false, Bool.false_or, Bool.not_true, Bool.not_false, cond_true, cond_false]
          exact hih
        · simp -implicitDefEqProofs only [c1, c2, hh, bs.next, el, s0, s1, s2, t1, t2, t4, t5, t6, hv, hw, g1, g2, g3, g4, g5, g6, c0, cc1, Int.toNat_zero, Int.lt_irrefl, Int.le_refl, ema, eea, w1a, w2a, lxa, lya, lx2a, ly2a, p0a, i0a, i1a, i2a, k0a, k1a, k2a, cxa, cya, emt, eet, w1t, w2t, lxt, lyt, lx2t, ly2t, p0t, i0t, i1t, i2t, k0t, k1t, k2t, cxt, cyt, ems, ees, w1s, w2s, lxs, lys, lx2s, ly2s, p0s, i0s, i1s, i2s, k0s, k1s, k2s, cxs, cys, Int.toNat_natCast, one_set, List.length_singleton, List.take_length, Nat.le_refl, Nat.reduceBEq, and_self, eq_self, decide_true, decide_false, Bool.and_self, Bool.or_self, Bool.and_true, Bool.true_and, Bool.and_false, Bool.false_and, Bool.or_true, Bool.true_or, Bool.or_false, Bool.false_or, Bool.not_true, Bool.not_false, cond_true, cond_false]
      · simp -implicitDefEqProofs only [c1, c2, s0, s1, s2, t1, t2, t4, t5, t6, hv, hw, g1, g2, g3, g4, g5, g6, c0, cc1, Int.toNat_zero, Int.lt_irrefl, Int.le_refl, ema, eea, w1a, w2a, lxa, lya, lx2a, ly2a, p0a, i0a, i1a, i2a, k0a, k1a, k2a, cxa, cya, emt, eet, w1t, w2t, lxt, lyt, lx2t, ly2t, p0t, i0t, i1t, i2t, k0t, k1t, k2t, cxt, cyt, ems, ees, w1s, w2s, lxs, lys, lx2s, ly2s, p0s, i0s, i1s, i2s, k0s, k1s, k2s, cxs, cys, Int.toNat_natCast, one_set, List.length_singleton, List.take_length, Nat.le_refl, Nat.reduceBEq, and_self, eq_self, decide_true, decide_false, Bool.and_self, Bool.or_self, Bool.and_true, Bool.true_and, Bool.and_false, Bool.false_and, Bool.or_true, Bool.true_or, Bool.or_false, Bool.false_or, Bool.not_true, Bool.not_false, cond_true, cond_false]
theorem run : ∀ args v new, R args = some (true, v, new) → ∃ fuel, regc [4] (runFn Try.prog (orc [⟨13, iValidGame.R⟩, ⟨40, gHasRow.R⟩, ⟨38, gHasColumn.R⟩, ⟨29, gTurned.R⟩, ⟨39, gBestRows.R⟩, ⟨45, gA.R⟩, ⟨46, gB.R⟩, ⟨47, slContains.R⟩]) hd dr none fuel (bodyOf Try.f22) 86 [6, 7] args []) = some (v, new) := by
  intro args v new h
  unfold R at h
  split at h
  · rename_i r c xs ma ys mb i k
    simp only [Option.some.injEq, Prod.mk.injEq, Bool.and_eq_true, decide_eq_true_eq, Bool.not_eq_true'] at h
    obtain ⟨⟨⟨rfl, rfl, h3, h4⟩, hs⟩, rfl, rfl⟩ := h
    have hs2 := hs
    simp only [bs.sp, Bool.and_eq_true, decide_eq_true_eq] at hs2
    obtain ⟨⟨hv, hi0, hi1⟩, hk0, hk1⟩ := hs2
    have hv2 := hv
    obtain ⟨r, c, rfl, rfl, hr, hc, hx, hy, vx, vy⟩ := gm.valid hv2
    obtain ⟨i, rfl⟩ : ∃ q : Nat, i = q := ⟨i.toNat, by omega⟩
    obtain ⟨k, rfl⟩ : ∃ q : Nat, k = q := ⟨k.toNat, by omega⟩
    have hia : i < r := by omega
    have hka : k < c := by omega
    have h36 := gm.le_36 hr.2 hc.2
    have hlta := gm.ix_lt (R := r) (C := c) hia hka
    have i0a : (0 : Int) ≤ (i : Int) := Int.natCast_nonneg _
    have i1a : (i : Int) ≤ 100 := by omega
    have i2a : (i : Int) < (r : Int) := by omega
    have k0a : (0 : Int) ≤ (k : Int) := Int.natCast_nonneg _
    have k1a : (k : Int) ≤ 100 := by omega
    have k2a : (k : Int) < (c : Int) := by omega
    have ema : (i : Int) * (c : Int) = ((i * c : Nat) : Int) := by simp
    have eea : ((i * c : Nat) : Int) + (k : Int) = ((i * c + k : Nat) : Int) := by simp
    have lxa : ((i * c + k : Nat) : Int) < (xs.length : Int) := by omega
    have lya : ((i * c + k : Nat) : Int) < (ys.length : Int) := by omega
    have lx2a : i * c + k < xs.length := by omega
    have ly2a : i * c + k < ys.length := by omega
    have p0a : (0 : Int) ≤ ((i * c + k : Nat) : Int) := Int.natCast_nonneg _
    have w1a : IntKind.i64.wrap ((i * c : Nat) : Int) = ((i * c : Nat) : Int) := IntWalk.i64_in _ (by omega)
    have w2a : IntKind.i64.wrap ((i * c + k : Nat) : Int) = ((i * c + k : Nat) : Int) := IntWalk.i64_in _ (by omega)
    have cxa : gz xs (i * c + k) = br.col c xs k i := rfl
    have cya : gz ys (i * c + k) = br.col c ys k i := rfl
    obtain ⟨F, hF⟩ : ∃ F : Nat, F = 100 := ⟨100, rfl⟩
    refine ⟨F, ?_⟩
    have hl := loop r c xs ys F hv (tn.valid hr hc hx hy vx vy) hr hc hx hy 40 F i k [((i * c + k : Nat) : Int)] (by omega) hia hka (by simp) (fun y hy => by simp only [List.mem_singleton] at hy; omega) (by simp only [List.length_cons, List.length_nil]; omega)
    have hr1 : (1 : Int) ≤ (r : Int) := by omega
    have hr6 : (r : Int) ≤ 6 := by omega
    have hc1 : (1 : Int) ≤ (c : Int) := by omega
    have hc6 : (c : Int) ≤ 6 := by omega
    have wr : IntKind.i64.wrap ((r : Int) - 1) = (r : Int) - 1 := IntWalk.i64_in _ (by omega)
    have wc : IntKind.i64.wrap ((c : Int) - 1) = (c : Int) - 1 := IntWalk.i64_in _ (by omega)
    have e : ((c : Int) * (r : Int)).toNat = c * r := by
      have : (c : Int) * (r : Int) = ((c * r : Nat) : Int) := by simp
      rw [this]; rfl
    rw [start]
    simp -implicitDefEqProofs only [e, wr, wc, hr1, hr6, hc1, hc6, hi0, hi1, hk0, hk1, h3, h4, hv, ema, eea, w1a, w2a, lxa, lya, lx2a, ly2a, p0a, i0a, i1a, i2a, k0a, k1a, k2a, cxa, cya, eq_self, and_self, Int.toNat_natCast, one_set, List.length_singleton, decide_true, decide_false, Bool.and_self, Bool.or_self, Bool.and_true, Bool.true_and, Bool.and_false, Bool.false_and, Bool.or_true, Bool.true_or, Bool.or_false, Bool.false_or, Bool.not_true, Bool.not_false, cond_true, cond_false]
    exact (congrArg (regc [4]) hl).trans rfl
  · cases h
theorem ok : EntOk Try.prog ⟨22, R⟩ :=
  ent_okAG (ks := [4]) mixed (A := (orc [⟨13, iValidGame.R⟩, ⟨40, gHasRow.R⟩, ⟨38, gHasColumn.R⟩, ⟨29, gTurned.R⟩, ⟨39, gBestRows.R⟩, ⟨45, gA.R⟩, ⟨46, gB.R⟩, ⟨47, slContains.R⟩])) (orc_ok (by simp only [List.mem_cons, List.not_mem_nil, or_false, forall_eq_or_imp, forall_eq]; exact ⟨iValidGame.ok, gHasRow.ok, gHasColumn.ok, gTurned.ok, gBestRows.ok, gA.ok, gB.ok, slContains.ok⟩)) Try.func22 (by kernel_rfl) (by kernel_rfl) (n := 86) (ts := [6, 7]) (hd := hd) (dr := dr) (cut := none) (by kernel_rfl) (by kernel_rfl) (by kernel_rfl) run
end iBetterSteps_t

namespace iBetterSteps_f
def dr : Nat → Dr := fun i => bif eqN i 5 then ⟨some [0, 1, 5, 6, 2, 3, 4, 7, 8, 9, 10, 11], false⟩ else bif eqN i 7 then ⟨some [0, 1, 2, 4, 5, 6, 3, 7, 8, 9], false⟩ else bif eqN i 9 then ⟨some [0, 1, 2, 4, 5, 6, 3, 7, 8, 9], false⟩ else ⟨none, false⟩
def R : List AVal → Option (Bool × AVal × List Blk)
  | [.agg [.int .i64 r, .int .i64 c, .ro (.ints .i64 xs) ma 1, .ro (.ints .i64 ys) mb 1], .int .i64 i, .int .i64 k] => some (decide (ma = xs.length ∧ mb = ys.length ∧ ma ≤ 4611686018427387904 ∧ mb ≤ 4611686018427387904) && !bs.sp r c xs ys i k, .tup [.nils, .bool false], [])
  | _ => none
def hd : Nat → Head := fun _ => ⟨[1, 2, 3, 6, 7, 8, 9], some 5⟩
noncomputable def L (f n : Nat) (s : State) := loopAt Try.prog (orc [⟨13, iValidGame.R⟩, ⟨40, gHasRow.R⟩, ⟨38, gHasColumn.R⟩]) hd dr 0 f (bodyOf Try.f22) 0 [true, true, true, true] (retK Try.prog [6, 7] 0 (some 0)) n s
theorem start (r c : Int) (xs ys : List Int) (i k : Int) (f : Nat) :
  runFn Try.prog (orc [⟨13, iValidGame.R⟩, ⟨40, gHasRow.R⟩, ⟨38, gHasColumn.R⟩]) hd dr (some 0) f (bodyOf Try.f22) 86 [6, 7] [.agg [.int .i64 r, .int .i64 c, .ro (.ints .i64 xs) xs.length 1, .ro (.ints .i64 ys) ys.length 1], .int .i64 i, .int .i64 k] []
  = (bif true && true && (true && true && (true && true && (true && true && true))) then bif decide (xs.length = xs.length ∧ ys.length = ys.length ∧ xs.length ≤ (4611686018427387904 : Nat) ∧ ys.length ≤ (4611686018427387904 : Nat)) && (true && (true && (true && (true && true))) && true || true && true) then bif !gm.sp r c xs ys then some (AVal.tup [AVal.nils, AVal.bool false], []) else bif true && true && (true && true && (true && true && (true && true && true))) then bif decide ((1 : Int) ≤ r ∧ r ≤ (6 : Int)) && (true && (true && (true && (true && true))) && (true && true) || true && true) then bif !(decide ((0 : Int) ≤ i) && decide (i ≤ r - (1 : Int))) then some (AVal.tup [AVal.nils, AVal.bool false], []) else bif true && true && (true && true && (true && true && (true && true && true))) then bif decide ((1 : Int) ≤ c ∧ c ≤ (6 : Int)) && (true && (true && (true && (true && true))) && (true && true) || true && true) then bif !(decide ((0 : Int) ≤ k) && decide (k ≤ c - (1 : Int))) then some (AVal.tup [AVal.nils, AVal.bool false], []) else bif true && true && (true && true && (true && true && (true && true && true))) then none else none else none else none else none else none else none else none) := by kernel_rfl
theorem run : ∀ args v new, R args = some (true, v, new) → ∃ fuel, runFn Try.prog (orc [⟨13, iValidGame.R⟩, ⟨40, gHasRow.R⟩, ⟨38, gHasColumn.R⟩]) hd dr (some 0) fuel (bodyOf Try.f22) 86 [6, 7] args [] = some (v, new) := by
  intro args v new h
  unfold R at h
  split at h
  · rename_i r c xs ma ys mb i k
    simp only [Option.some.injEq, Prod.mk.injEq, Bool.and_eq_true, decide_eq_true_eq, Bool.not_eq_true'] at h
    obtain ⟨⟨⟨rfl, rfl, h3, h4⟩, hs⟩, rfl, rfl⟩ := h
    refine ⟨xs.length, ?_⟩
    rw [start]
    simp only [bs.sp] at hs
    cases hg : gm.sp r c xs ys
    · simp -implicitDefEqProofs only [hg, h3, h4, and_self, eq_self, decide_true, decide_false, Bool.and_self, Bool.or_self, Bool.and_true, Bool.true_and, Bool.and_false, Bool.false_and, Bool.or_true, Bool.true_or, Bool.or_false, Bool.false_or, Bool.not_true, Bool.not_false, cond_true, cond_false]
    · rw [hg, Bool.true_and] at hs
      obtain ⟨r, c, rfl, rfl, hr, hc, hx, hy, vx, vy⟩ := gm.valid hg
      have hr1 : (1 : Int) ≤ (r : Int) := by omega
      have hr6 : (r : Int) ≤ 6 := by omega
      have hc1 : (1 : Int) ≤ (c : Int) := by omega
      have hc6 : (c : Int) ≤ 6 := by omega
      have wr : IntKind.i64.wrap ((r : Int) - 1) = (r : Int) - 1 := IntWalk.i64_in _ (by omega)
      have wc : IntKind.i64.wrap ((c : Int) - 1) = (c : Int) - 1 := IntWalk.i64_in _ (by omega)
      generalize hb1 : (decide (0 ≤ i) && decide (i ≤ (r : Int) - 1)) = b1 at hs
      generalize hb2 : (decide (0 ≤ k) && decide (k ≤ (c : Int) - 1)) = b2 at hs
      cases b1
      · simp -implicitDefEqProofs only [wr, wc, hb1, hg, hr1, hr6, h3, h4, and_self, eq_self, decide_true, decide_false, Bool.and_self, Bool.or_self, Bool.and_true, Bool.true_and, Bool.and_false, Bool.false_and, Bool.or_true, Bool.true_or, Bool.or_false, Bool.false_or, Bool.not_true, Bool.not_false, cond_true, cond_false]
      · cases b2
        · simp -implicitDefEqProofs only [wr, wc, hb1, hb2, hg, hr1, hr6, hc1, hc6, h3, h4, and_self, eq_self, decide_true, decide_false, Bool.and_self, Bool.or_self, Bool.and_true, Bool.true_and, Bool.and_false, Bool.false_and, Bool.or_true, Bool.true_or, Bool.or_false, Bool.false_or, Bool.not_true, Bool.not_false, cond_true, cond_false]
        · cases hs
  · cases h
theorem ok : EntOk Try.prog ⟨22, R⟩ :=
  ent_okA mixed (A := (orc [⟨13, iValidGame.R⟩, ⟨40, gHasRow.R⟩, ⟨38, gHasColumn.R⟩])) (orc_ok (by simp only [List.mem_cons, List.not_mem_nil, or_false, forall_eq_or_imp, forall_eq]; exact ⟨iValidGame.ok, gHasRow.ok, gHasColumn.ok⟩)) Try.func22 (by kernel_rfl) (by kernel_rfl) (n := 86) (ts := [6, 7]) (hd := hd) (dr := dr) (cut := (some 0)) (by kernel_rfl) (by kernel_rfl) (by kernel_rfl) run
end iBetterSteps_f

namespace iBetterSteps
def Rt := iBetterSteps_t.R
def Rf := iBetterSteps_f.R
theorem okt : EntOk Try.prog ⟨22, Rt⟩ := iBetterSteps_t.ok
theorem okf : EntOk Try.prog ⟨22, Rf⟩ := iBetterSteps_f.ok
end iBetterSteps







end Go.Proofs.Ytfbalfhekldkbaa.Ab
