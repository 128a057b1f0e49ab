/-
  Functions: best rows.
-/
import Derived.Test.YthecninmmojkgaaFnGC
namespace Go.Proofs.Ythecninmmojkgaa.Ab
open Go
set_option linter.unusedVariables false
set_option linter.unusedSimpArgs false
set_option maxRecDepth 100000

namespace br
/-- The places of the greatest of the first so many. -/
def P (f : Nat → Int) (n q : Nat) : Bool := (List.range n).all fun j => decide (f j ≤ f q)
def F (f : Nat → Int) (n : Nat) : List Nat := (List.range n).filter (P f n)
theorem P_iff {f : Nat → Int} {n q : Nat} : P f n q = true ↔ ∀ j, j < n → f j ≤ f q := by simp [P]
theorem P_succ (f : Nat → Int) (n q : Nat) : P f (n + 1) q = (P f n q && decide (f n ≤ f q)) := by simp [P, List.range_succ]
theorem mem_F {f : Nat → Int} {n q : Nat} (h : q ∈ F f n) : q < n ∧ ∀ j, j < n → f j ≤ f q := by
  simp only [F, List.mem_filter, List.mem_range] at h
  exact ⟨h.1, P_iff.1 h.2⟩
theorem F_succ (f : Nat → Int) (n : Nat) : F f (n + 1) = (List.range n).filter (P f (n + 1)) ++ (bif P f (n + 1) n then [n] else []) := by
  simp only [F, List.range_succ, List.filter_append]
  cases h : P f (n + 1) n <;> simp [h]
theorem F_lt {f : Nat → Int} {n h : Nat} (hh : h ∈ F f n) (c : f n < f h) : F f (n + 1) = F f n := by
  obtain ⟨h1, h2⟩ := mem_F hh
  rw [F_succ]
  have e1 : P f (n + 1) n = false := by
    cases hp : P f (n + 1) n with
    | false => rfl
    | true => have := P_iff.1 hp h (by omega); omega
  rw [e1, cond_false, List.append_nil, F]
  apply List.filter_congr
  intro q hq
  rw [P_succ]
  cases hp : P f n q with
  | false => rfl
  | true => have := P_iff.1 hp h h1; simp; omega
theorem F_eq {f : Nat → Int} {n h : Nat} (hh : h ∈ F f n) (c : f n = f h) : F f (n + 1) = F f n ++ [n] := by
  obtain ⟨h1, h2⟩ := mem_F hh
  rw [F_succ]
  have e1 : P f (n + 1) n = true := P_iff.2 fun j hj => by
    by_cases e : j = n
    · subst e; exact Int.le_refl _
    · have := h2 j (by omega); omega
  rw [e1, cond_true, F]
  congr 1
  apply List.filter_congr
  intro q hq
  rw [P_succ]
  cases hp : P f n q with
  | false => rfl
  | true => have := P_iff.1 hp h h1; simp; omega
theorem F_gt {f : Nat → Int} {n h : Nat} (hh : h ∈ F f n) (c : f h < f n) : F f (n + 1) = [n] := by
  obtain ⟨h1, h2⟩ := mem_F hh
  rw [F_succ]
  have e1 : P f (n + 1) n = true := P_iff.2 fun j hj => by
    by_cases e : j = n
    · subst e; exact Int.le_refl _
    · have := h2 j (by omega); omega
  have e2 : (List.range n).filter (P f (n + 1)) = [] := by
    apply List.filter_eq_nil_iff.2
    intro q hq
    rw [P_succ]
    have := h2 q (List.mem_range.1 hq)
    simp; omega
  rw [e1, e2]; rfl
theorem F_one (f : Nat → Int) : F f 1 = [0] := by simp [F, P, List.range_succ]
theorem F_pos (f : Nat → Int) : ∀ n, 0 < n → 0 < (F f n).length := by
  intro n
  induction n with
  | zero => intro h; omega
  | succ n ih =>
    intro _
    by_cases hn : n = 0
    · subst hn; rw [F_one]; decide
    · have hp := ih (by omega)
      have hm : (F f n)[0] ∈ F f n := List.getElem_mem _
      rcases Int.lt_trichotomy (f n) (f (F f n)[0]) with c | c | c
      · rw [F_lt hm c]; exact hp
      · rw [F_eq hm c]; simp
      · rw [F_gt hm c]; simp
theorem F_length (f : Nat → Int) (n : Nat) : (F f n).length ≤ n := by
  have := List.length_filter_le (P f n) (List.range n)
  simpa [F] using this
def up (l : List Nat) : List Int := l.map fun (i : Nat) => (i : Int)
theorem up_length (l : List Nat) : (up l).length = l.length := by simp [up]
def col (c : Nat) (xs : List Int) (k i : Nat) : Int := gz xs (i * c + k)
/-- The best rows in a column. -/
def sv (r c : Nat) (xs : List Int) (k : Nat) : List Int := up (F (col c xs k) r)
theorem sv_length (r c : Nat) (xs : List Int) (k : Nat) : (sv r c xs k).length ≤ r := by rw [sv, up_length]; exact F_length _ _
theorem sv_pos {r : Nat} (c : Nat) (xs : List Int) (k : Nat) (h : 0 < r) : 0 < (sv r c xs k).length := by rw [sv, up_length]; exact F_pos _ _ h
theorem sv_mem {r c : Nat} {xs : List Int} {k : Nat} {y : Int} (h : y ∈ sv r c xs k) : ∃ q : Nat, y = q ∧ q < r := by
  simp only [sv, up, List.mem_map] at h
  obtain ⟨q, hq, rfl⟩ := h
  exact ⟨q, rfl, (mem_F hq).1⟩
/-- As the reference says it. -/
def G (f : Nat → Int) (r n : Nat) : List Nat := (List.range n).filter (P f r)
theorem G_succ (f : Nat → Int) (r n : Nat) : G f r (n + 1) = G f r n ++ (bif P f r n then [n] else []) := by
  simp only [G, List.range_succ, List.filter_append]
  cases h : P f r n <;> simp [h]
theorem drop_range {r j : Nat} (h : j < r) : (List.range r).drop j = j :: (List.range r).drop (j + 1) := by
  rw [List.drop_eq_getElem_cons (by simpa using h)]; simp
end br

namespace gBestRows
def dr : Nat → Dr := fun i => bif eqN i 5 then ⟨some [0, 1, 2, 3, 4, 5, 6, 8, 9, 10, 11, 12, 7, 13, 14, 15, 16], false⟩ else bif eqN i 6 then ⟨some [0, 1, 2, 3, 4, 5, 6, 8, 9, 10, 11, 12, 7, 13, 14, 15, 16], false⟩ else ⟨none, false⟩
def R : List AVal → Option (Bool × AVal × List Blk)
  | [.agg [.int .i64 r, .int .i64 c, .ro (.ints .i64 xs) ma 1, .ro (.ints .i64 ys) mb 1], .int .i64 k] => some (decide (ma = xs.length ∧ mb = ys.length ∧ 0 ≤ k ∧ k < c) && gm.sp r c xs ys, .own 0 0 (br.sv r.toNat c.toNat xs k.toNat).length 0 1, [⟨.typ (.ints .i64 (br.sv r.toNat c.toNat xs k.toNat)), 0⟩])
  | _ => none
def hd : Nat → Head := fun _ => ⟨[1, 2, 5, 9, 10], some 2⟩
noncomputable def L (f n : Nat) (s : State) := loopAt Try.prog (orc [⟨89, gA.R⟩]) hd dr 0 f (bodyOf Try.f71) 0 [true, true, false, true] (retK Try.prog [4] 0 none) n s
theorem start (r c : Nat) (xs ys : List Int) (k f : Nat) :
  runFn Try.prog (orc [⟨89, gA.R⟩]) hd dr none f (bodyOf Try.f71) 55 [4] [.agg [.int .i64 r, .int .i64 c, .ro (.ints .i64 xs) xs.length 1, .ro (.ints .i64 ys) ys.length 1], .int .i64 k] []
  = (bif true && true then L f f (mkS (55 : Nat) [((1 : Nat), AVal.int IntKind.i64 (↑k : Int)), ((2 : Nat), AVal.ptr (0 : Nat) (0 : Nat) (0 : Nat)), ((5 : Nat), AVal.own (1 : Nat) (0 : Nat) (0 : Nat) (0 : Nat) (1 : Nat)), ((9 : Nat), AVal.int IntKind.i64 (↑r : Int)), ((10 : Nat), AVal.int IntKind.i64 (0 : Int))] [{ c := BC.cells [AVal.int IntKind.i64 (↑r : Int), AVal.int IntKind.i64 (↑c : Int), AVal.ro (Cont.ints IntKind.i64 xs) xs.length (1 : Nat), AVal.ro (Cont.ints IntKind.i64 ys) ys.length (1 : Nat)], ver := (0 : Nat) }, { c := BC.typ (Cont.ints IntKind.i64 (List.replicate (0 : Nat) (0 : Int))), ver := (0 : Nat) }]) else none) := by kernel_rfl
theorem round (r c : Nat) (xs ys : List Int) (zs : List Int) (k i f n : Nat) :
  L f (n + 1) (mkS 55 [(1, .int .i64 k), (2, .ptr 0 0 0), (5, .own 1 0 zs.length 0 1), (9, .int .i64 r), (10, .int .i64 i)] [⟨.cells [.int .i64 r, .int .i64 c, .ro (.ints .i64 xs) xs.length 1, .ro (.ints .i64 ys) ys.length 1], 0⟩, ⟨.typ (.ints .i64 zs), 0⟩])
  = (bif decide ((↑i : Int) < (↑r : Int)) then bif decide ((0 : Int) < (↑zs.length : Int)) then bif true && true && (true && true && (true && true && (true && true && true))) then bif true && true && (true && true && (true && true && (true && true && true))) then bif decide ((0 : Int) < (↑zs.length : Int)) then bif true && decide ((0 : Nat) < zs.length) then bif decide (xs.length = xs.length ∧ ys.length = ys.length ∧ (0 : Int) ≤ (↑i : Int) ∧ (0 : Int) ≤ (↑k : Int) ∧ (↑i : Int) ≤ (100 : Int) ∧ (↑k : Int) ≤ (100 : Int) ∧ (0 : Int) ≤ (↑c : Int) ∧ (↑c : Int) ≤ (100 : Int) ∧ (↑i : Int) * (↑c : Int) + (↑k : Int) < (↑xs.length : Int)) && (true && (true && (true && (true && true))) && (true && (true && true)) || true && true) then bif decide (xs.length = xs.length ∧ ys.length = ys.length ∧ (0 : Int) ≤ gz zs (nat_lit 0) ∧ (0 : Int) ≤ (↑k : Int) ∧ gz zs (nat_lit 0) ≤ (100 : Int) ∧ (↑k : Int) ≤ (100 : Int) ∧ (0 : Int) ≤ (↑c : Int) ∧ (↑c : Int) ≤ (100 : Int) ∧ gz zs (nat_lit 0) * (↑c : Int) + (↑k : Int) < (↑xs.length : Int)) && (true && (true && (true && (true && true))) && (true && (true && true)) || true && true) then bif decide (gz xs ((↑i : Int) * (↑c : Int) + (↑k : Int)).toNat < gz xs (gz zs (0 : Nat) * (↑c : Int) + (↑k : Int)).toNat) then L f n (mkS (55 : Nat) [((1 : Nat), AVal.int IntKind.i64 (↑k : Int)), ((2 : Nat), AVal.ptr (0 : Nat) (0 : Nat) (0 : Nat)), ((5 : Nat), AVal.own (1 : Nat) (0 : Nat) zs.length (0 : Nat) (1 : Nat)), ((9 : Nat), AVal.int IntKind.i64 (↑r : Int)), ((10 : Nat), AVal.int IntKind.i64 (IntKind.i64.wrap ((↑i : Int) + (1 : Int))))] [{ c := BC.cells [AVal.int IntKind.i64 (↑r : Int), AVal.int IntKind.i64 (↑c : Int), AVal.ro (Cont.ints IntKind.i64 xs) xs.length (1 : Nat), AVal.ro (Cont.ints IntKind.i64 ys) ys.length (1 : Nat)], ver := (0 : Nat) }, { c := BC.typ (Cont.ints IntKind.i64 zs), ver := (0 : Nat) }]) else bif decide ((0 : Int) < (↑zs.length : Int)) then bif true && true && (true && true && (true && true && (true && true && true))) then bif true && true && (true && true && (true && true && (true && true && true))) then bif decide ((0 : Int) < (↑zs.length : Int)) then bif true && decide ((0 : Nat) < zs.length) then bif decide (xs.length = xs.length ∧ ys.length = ys.length ∧ (0 : Int) ≤ (↑i : Int) ∧ (0 : Int) ≤ (↑k : Int) ∧ (↑i : Int) ≤ (100 : Int) ∧ (↑k : Int) ≤ (100 : Int) ∧ (0 : Int) ≤ (↑c : Int) ∧ (↑c : Int) ≤ (100 : Int) ∧ (↑i : Int) * (↑c : Int) + (↑k : Int) < (↑xs.length : Int)) && (true && (true && (true && (true && true))) && (true && (true && true)) || true && true) then bif decide (xs.length = xs.length ∧ ys.length = ys.length ∧ (0 : Int) ≤ gz zs (nat_lit 0) ∧ (0 : Int) ≤ (↑k : Int) ∧ gz zs (nat_lit 0) ≤ (100 : Int) ∧ (↑k : Int) ≤ (100 : Int) ∧ (0 : Int) ≤ (↑c : Int) ∧ (↑c : Int) ≤ (100 : Int) ∧ gz zs (nat_lit 0) * (↑c : Int) + (↑k : Int) < (↑xs.length : Int)) && (true && (true && (true && (true && true))) && (true && (true && true)) || true && true) then bif decide (gz xs (gz zs (0 : Nat) * (↑c : Int) + (↑k : Int)).toNat < gz xs ((↑i : Int) * (↑c : Int) + (↑k : Int)).toNat) then bif decide ((0 : Int) ≤ (↑zs.length : Int)) && (true && (true || decide ((0 : Nat) < (0 : Nat)))) then bif (1 : Nat) == (1 : Nat) && (1 : Nat) == (1 : Nat) && (true && (true && true) && (true && true && (decide ((0 : Nat) + (List.take (1 : Nat) (List.drop (0 : Nat) ((List.replicate (1 : Nat) (0 : Int)).set (0 : Nat) (↑i : Int)))).length ≤ (4611686018427387904 : Nat)) && decide (((0 : Nat) + (List.take (1 : Nat) (List.drop (0 : Nat) ((List.replicate (1 : Nat) (0 : Int)).set (0 : Nat) (↑i : Int)))).length) * (8 : Nat) ≤ (140737488355328 : Nat))))) then L f n (mkS (55 : Nat) [((1 : Nat), AVal.int IntKind.i64 (↑k : Int)), ((2 : Nat), AVal.ptr (0 : Nat) (0 : Nat) (0 : Nat)), ((5 : Nat), AVal.own (1 : Nat) (0 : Nat) ((0 : Nat) + (List.take (1 : Nat) (List.drop (0 : Nat) ((List.replicate (1 : Nat) (0 : Int)).set (0 : Nat) (↑i : Int)))).length) (0 : Nat) (1 : Nat)), ((9 : Nat), AVal.int IntKind.i64 (↑r : Int)), ((10 : Nat), AVal.int IntKind.i64 (IntKind.i64.wrap ((↑i : Int) + (1 : Int))))] [{ c := BC.cells [AVal.int IntKind.i64 (↑r : Int), AVal.int IntKind.i64 (↑c : Int), AVal.ro (Cont.ints IntKind.i64 xs) xs.length (1 : Nat), AVal.ro (Cont.ints IntKind.i64 ys) ys.length (1 : Nat)], ver := (0 : Nat) }, { c := BC.typ (Cont.ints IntKind.i64 (List.take (0 : Nat) zs ++ List.take (1 : Nat) (List.drop (0 : Nat) ((List.replicate (1 : Nat) (0 : Int)).set (0 : Nat) (↑i : Int))))), ver := (0 : Nat) }]) else none else none else bif (1 : Nat) == (1 : Nat) && (1 : Nat) == (1 : Nat) && (true && (true && true) && (true && true && (decide (zs.length + (List.take (1 : Nat) (List.drop (0 : Nat) ((List.replicate (1 : Nat) (0 : Int)).set (0 : Nat) (↑i : Int)))).length ≤ (4611686018427387904 : Nat)) && decide ((zs.length + (List.take (1 : Nat) (List.drop (0 : Nat) ((List.replicate (1 : Nat) (0 : Int)).set (0 : Nat) (↑i : Int)))).length) * (8 : Nat) ≤ (140737488355328 : Nat))))) then L f n (mkS (55 : Nat) [((1 : Nat), AVal.int IntKind.i64 (↑k : Int)), ((2 : Nat), AVal.ptr (0 : Nat) (0 : Nat) (0 : Nat)), ((5 : Nat), AVal.own (1 : Nat) (0 : Nat) (zs.length + (List.take (1 : Nat) (List.drop (0 : Nat) ((List.replicate (1 : Nat) (0 : Int)).set (0 : Nat) (↑i : Int)))).length) (0 : Nat) (1 : Nat)), ((9 : Nat), AVal.int IntKind.i64 (↑r : Int)), ((10 : Nat), AVal.int IntKind.i64 (IntKind.i64.wrap ((↑i : Int) + (1 : Int))))] [{ c := BC.cells [AVal.int IntKind.i64 (↑r : Int), AVal.int IntKind.i64 (↑c : Int), AVal.ro (Cont.ints IntKind.i64 xs) xs.length (1 : Nat), AVal.ro (Cont.ints IntKind.i64 ys) ys.length (1 : Nat)], ver := (0 : Nat) }, { c := BC.typ (Cont.ints IntKind.i64 (List.take zs.length zs ++ List.take (1 : Nat) (List.drop (0 : Nat) ((List.replicate (1 : Nat) (0 : Int)).set (0 : Nat) (↑i : Int))))), ver := (0 : Nat) }]) else none else none else none else none else none else none else none else bif (1 : Nat) == (1 : Nat) && (1 : Nat) == (1 : Nat) && (true && (true && true) && (true && true && (decide (zs.length + (List.take (1 : Nat) (List.drop (0 : Nat) ((List.replicate (1 : Nat) (0 : Int)).set (0 : Nat) (↑i : Int)))).length ≤ (4611686018427387904 : Nat)) && decide ((zs.length + (List.take (1 : Nat) (List.drop (0 : Nat) ((List.replicate (1 : Nat) (0 : Int)).set (0 : Nat) (↑i : Int)))).length) * (8 : Nat) ≤ (140737488355328 : Nat))))) then L f n (mkS (55 : Nat) [((1 : Nat), AVal.int IntKind.i64 (↑k : Int)), ((2 : Nat), AVal.ptr (0 : Nat) (0 : Nat) (0 : Nat)), ((5 : Nat), AVal.own (1 : Nat) (0 : Nat) (zs.length + (List.take (1 : Nat) (List.drop (0 : Nat) ((List.replicate (1 : Nat) (0 : Int)).set (0 : Nat) (↑i : Int)))).length) (0 : Nat) (1 : Nat)), ((9 : Nat), AVal.int IntKind.i64 (↑r : Int)), ((10 : Nat), AVal.int IntKind.i64 (IntKind.i64.wrap ((↑i : Int) + (1 : Int))))] [{ c := BC.cells [AVal.int IntKind.i64 (↑r : Int), AVal.int IntKind.i64 (↑c : Int), AVal.ro (Cont.ints IntKind.i64 xs) xs.length (1 : Nat), AVal.ro (Cont.ints IntKind.i64 ys) ys.length (1 : Nat)], ver := (0 : Nat) }, { c := BC.typ (Cont.ints IntKind.i64 (List.take zs.length zs ++ List.take (1 : Nat) (List.drop (0 : Nat) ((List.replicate (1 : Nat) (0 : Int)).set (0 : Nat) (↑i : Int))))), ver := (0 : Nat) }]) else none else none else none else none else none else none else none else bif decide ((0 : Int) < (↑zs.length : Int)) then bif true && true && (true && true && (true && true && (true && true && true))) then bif true && true && (true && true && (true && true && (true && true && true))) then bif decide ((0 : Int) < (↑zs.length : Int)) then bif true && decide ((0 : Nat) < zs.length) then bif decide (xs.length = xs.length ∧ ys.length = ys.length ∧ (0 : Int) ≤ (↑i : Int) ∧ (0 : Int) ≤ (↑k : Int) ∧ (↑i : Int) ≤ (100 : Int) ∧ (↑k : Int) ≤ (100 : Int) ∧ (0 : Int) ≤ (↑c : Int) ∧ (↑c : Int) ≤ (100 : Int) ∧ (↑i : Int) * (↑c : Int) + (↑k : Int) < (↑xs.length : Int)) && (true && (true && (true && (true && true))) && (true && (true && true)) || true && true) then bif decide (xs.length = xs.length ∧ ys.length = ys.length ∧ (0 : Int) ≤ gz zs (nat_lit 0) ∧ (0 : Int) ≤ (↑k : Int) ∧ gz zs (nat_lit 0) ≤ (100 : Int) ∧ (↑k : Int) ≤ (100 : Int) ∧ (0 : Int) ≤ (↑c : Int) ∧ (↑c : Int) ≤ (100 : Int) ∧ gz zs (nat_lit 0) * (↑c : Int) + (↑k : Int) < (↑xs.length : Int)) && (true && (true && (true && (true && true))) && (true && (true && true)) || true && true) then bif decide (gz xs (gz zs (0 : Nat) * (↑c : Int) + (↑k : Int)).toNat < gz xs ((↑i : Int) * (↑c : Int) + (↑k : Int)).toNat) then bif decide ((0 : Int) ≤ (↑zs.length : Int)) && (true && (true || decide ((0 : Nat) < (0 : Nat)))) then bif (1 : Nat) == (1 : Nat) && (1 : Nat) == (1 : Nat) && (true && (true && true) && (true && true && (decide ((0 : Nat) + (List.take (1 : Nat) (List.drop (0 : Nat) ((List.replicate (1 : Nat) (0 : Int)).set (0 : Nat) (↑i : Int)))).length ≤ (4611686018427387904 : Nat)) && decide (((0 : Nat) + (List.take (1 : Nat) (List.drop (0 : Nat) ((List.replicate (1 : Nat) (0 : Int)).set (0 : Nat) (↑i : Int)))).length) * (8 : Nat) ≤ (140737488355328 : Nat))))) then L f n (mkS (55 : Nat) [((1 : Nat), AVal.int IntKind.i64 (↑k : Int)), ((2 : Nat), AVal.ptr (0 : Nat) (0 : Nat) (0 : Nat)), ((5 : Nat), AVal.own (1 : Nat) (0 : Nat) ((0 : Nat) + (List.take (1 : Nat) (List.drop (0 : Nat) ((List.replicate (1 : Nat) (0 : Int)).set (0 : Nat) (↑i : Int)))).length) (0 : Nat) (1 : Nat)), ((9 : Nat), AVal.int IntKind.i64 (↑r : Int)), ((10 : Nat), AVal.int IntKind.i64 (IntKind.i64.wrap ((↑i : Int) + (1 : Int))))] [{ c := BC.cells [AVal.int IntKind.i64 (↑r : Int), AVal.int IntKind.i64 (↑c : Int), AVal.ro (Cont.ints IntKind.i64 xs) xs.length (1 : Nat), AVal.ro (Cont.ints IntKind.i64 ys) ys.length (1 : Nat)], ver := (0 : Nat) }, { c := BC.typ (Cont.ints IntKind.i64 (List.take (0 : Nat) zs ++ List.take (1 : Nat) (List.drop (0 : Nat) ((List.replicate (1 : Nat) (0 : Int)).set (0 : Nat) (↑i : Int))))), ver := (0 : Nat) }]) else none else none else bif (1 : Nat) == (1 : Nat) && (1 : Nat) == (1 : Nat) && (true && (true && true) && (true && true && (decide (zs.length + (List.take (1 : Nat) (List.drop (0 : Nat) ((List.replicate (1 : Nat) (0 : Int)).set (0 : Nat) (↑i : Int)))).length ≤ (4611686018427387904 : Nat)) && decide ((zs.length + (List.take (1 : Nat) (List.drop (0 : Nat) ((List.replicate (1 : Nat) (0 : Int)).set (0 : Nat) (↑i : Int)))).length) * (8 : Nat) ≤ (140737488355328 : Nat))))) then L f n (mkS (55 : Nat) [((1 : Nat), AVal.int IntKind.i64 (↑k : Int)), ((2 : Nat), AVal.ptr (0 : Nat) (0 : Nat) (0 : Nat)), ((5 : Nat), AVal.own (1 : Nat) (0 : Nat) (zs.length + (List.take (1 : Nat) (List.drop (0 : Nat) ((List.replicate (1 : Nat) (0 : Int)).set (0 : Nat) (↑i : Int)))).length) (0 : Nat) (1 : Nat)), ((9 : Nat), AVal.int IntKind.i64 (↑r : Int)), ((10 : Nat), AVal.int IntKind.i64 (IntKind.i64.wrap ((↑i : Int) + (1 : Int))))] [{ c := BC.cells [AVal.int IntKind.i64 (↑r : Int), AVal.int IntKind.i64 (↑c : Int), AVal.ro (Cont.ints IntKind.i64 xs) xs.length (1 : Nat), AVal.ro (Cont.ints IntKind.i64 ys) ys.length (1 : Nat)], ver := (0 : Nat) }, { c := BC.typ (Cont.ints IntKind.i64 (List.take zs.length zs ++ List.take (1 : Nat) (List.drop (0 : Nat) ((List.replicate (1 : Nat) (0 : Int)).set (0 : Nat) (↑i : Int))))), ver := (0 : Nat) }]) else none else none else none else none else none else none else none else bif (1 : Nat) == (1 : Nat) && (1 : Nat) == (1 : Nat) && (true && (true && true) && (true && true && (decide (zs.length + (List.take (1 : Nat) (List.drop (0 : Nat) ((List.replicate (1 : Nat) (0 : Int)).set (0 : Nat) (↑i : Int)))).length ≤ (4611686018427387904 : Nat)) && decide ((zs.length + (List.take (1 : Nat) (List.drop (0 : Nat) ((List.replicate (1 : Nat) (0 : Int)).set (0 : Nat) (↑i : Int)))).length) * (8 : Nat) ≤ (140737488355328 : Nat))))) then L f n (mkS (55 : Nat) [((1 : Nat), AVal.int IntKind.i64 (↑k : Int)), ((2 : Nat), AVal.ptr (0 : Nat) (0 : Nat) (0 : Nat)), ((5 : Nat), AVal.own (1 : Nat) (0 : Nat) (zs.length + (List.take (1 : Nat) (List.drop (0 : Nat) ((List.replicate (1 : Nat) (0 : Int)).set (0 : Nat) (↑i : Int)))).length) (0 : Nat) (1 : Nat)), ((9 : Nat), AVal.int IntKind.i64 (↑r : Int)), ((10 : Nat), AVal.int IntKind.i64 (IntKind.i64.wrap ((↑i : Int) + (1 : Int))))] [{ c := BC.cells [AVal.int IntKind.i64 (↑r : Int), AVal.int IntKind.i64 (↑c : Int), AVal.ro (Cont.ints IntKind.i64 xs) xs.length (1 : Nat), AVal.ro (Cont.ints IntKind.i64 ys) ys.length (1 : Nat)], ver := (0 : Nat) }, { c := BC.typ (Cont.ints IntKind.i64 (List.take zs.length zs ++ List.take (1 : Nat) (List.drop (0 : Nat) ((List.replicate (1 : Nat) (0 : Int)).set (0 : Nat) (↑i : Int))))), ver := (0 : Nat) }]) else none else some (AVal.own (1 : Nat) (0 : Nat) zs.length (0 : Nat) (1 : Nat), [{ c := BC.cells [AVal.int IntKind.i64 (↑r : Int), AVal.int IntKind.i64 (↑c : Int), AVal.ro (Cont.ints IntKind.i64 xs) xs.length (1 : Nat), AVal.ro (Cont.ints IntKind.i64 ys) ys.length (1 : Nat)], ver := (0 : Nat) }, { c := BC.typ (Cont.ints IntKind.i64 zs), ver := (0 : Nat) }])) := by kernel_rfl
theorem loop (r c : Nat) (xs ys : List Int) (k f : Nat) (hr : 1 ≤ r ∧ r ≤ 6) (hc : 1 ≤ c ∧ c ≤ 6) (hx : xs.length = r * c) (hy : ys.length = r * c) (hk : k < c) : ∀ (d i n : Nat), i + d = r → d < n →
    L f n (mkS 55 [(1, .int .i64 k), (2, .ptr 0 0 0), (5, .own 1 0 (br.up (br.F (br.col c xs k) i)).length 0 1), (9, .int .i64 r), (10, .int .i64 i)] [⟨.cells [.int .i64 r, .int .i64 c, .ro (.ints .i64 xs) xs.length 1, .ro (.ints .i64 ys) ys.length 1], 0⟩, ⟨.typ (.ints .i64 (br.up (br.F (br.col c xs k) i))), 0⟩]) = some (.own 1 0 (br.up (br.F (br.col c xs k) r)).length 0 1, [⟨.cells [.int .i64 r, .int .i64 c, .ro (.ints .i64 xs) xs.length 1, .ro (.ints .i64 ys) ys.length 1], 0⟩, ⟨.typ (.ints .i64 (br.up (br.F (br.col c xs k) r))), 0⟩]) := by
  intro d
  induction d with
  | zero =>
    intro i n hi hn
    obtain ⟨n, rfl⟩ : ∃ k, n = k + 1 := ⟨n - 1, by omega⟩
    obtain rfl : i = r := by omega
    rw [round]
    simp only [Int.lt_irrefl, decide_true, decide_false, Bool.and_self, Bool.or_self, Bool.and_true, Bool.true_and, Bool.and_false, Bool.false_and, Bool.or_true, Bool.true_or, Bool.or_false, Bool.false_or, Bool.not_true, Bool.not_false, cond_true, cond_false]
  | succ d ih =>
    intro i n hi' hn
    obtain ⟨n, rfl⟩ : ∃ k, n = k + 1 := ⟨n - 1, by omega⟩
    have hi : i < r := by omega
    have hi5 : (i : Int) < (r : Int) := by omega
    have wi : IntKind.i64.wrap ((i : Int) + 1) = ((i + 1 : Nat) : Int) := wrap_nat i (by omega)
    have h36 := gm.le_36 hr.2 hc.2
    have k0 : (0 : Int) ≤ (k : Int) := Int.natCast_nonneg _
    have k1 : (k : Int) ≤ 100 := by omega
    have c0 : (0 : Int) ≤ (c : Int) := Int.natCast_nonneg _
    have c1 : (c : Int) ≤ 100 := by omega
    have hlt := gm.ix_lt (R := r) (C := c) hi hk
    have i0 : (0 : Int) ≤ (i : Int) := Int.natCast_nonneg _
    have i1 : (i : Int) ≤ 100 := by omega
    have em : (i : Int) * (c : Int) = ((i * c : Nat) : Int) := by simp
    have ee : ((i * c : Nat) : Int) + (k : Int) = ((i * c + k : Nat) : Int) := by simp
    have lx : ((i * c + k : Nat) : Int) < (xs.length : Int) := by omega
    have lx2 : i * c + k < xs.length := by omega
    have p0 : (0 : Int) ≤ ((i * c + k : Nat) : Int) := Int.natCast_nonneg _
    have w1 : IntKind.i64.wrap ((i * c : Nat) : Int) = ((i * c : Nat) : Int) := IntWalk.i64_in _ (by omega)
    have w2 : IntKind.i64.wrap ((i * c + k : Nat) : Int) = ((i * c + k : Nat) : Int) := IntWalk.i64_in _ (by omega)
    have cc : gz xs (i * c + k) = br.col c xs k i := rfl
    have hih := ih (i + 1) n (by omega) (by omega)
    have hfl := br.F_length (br.col c xs k) i
    have s1 : (br.up (br.F (br.col c xs k) i)).length + 1 ≤ 4611686018427387904 := by rw [br.up_length]; omega
    have s2 : ((br.up (br.F (br.col c xs k) i)).length + 1) * 8 ≤ 140737488355328 := by rw [br.up_length]; omega
    rw [round]
    by_cases z : i = 0
    · have e0 : br.up (br.F (br.col c xs k) i) = [] := by rw [z]; rfl
      have e1 : br.up (br.F (br.col c xs k) (i + 1)) = [(i : Int)] := by rw [z, br.F_one]; rfl
      rw [e1] at hih
      have g0 : ¬ ((0 : Int) < (([] : List Int).length : Int)) := by decide
      have s3 : 0 + 1 ≤ 4611686018427387904 := by omega
      have s4 : (0 + 1) * 8 ≤ 140737488355328 := by omega
      simp only [e0, g0, hi5, wi, List.length_nil, List.take_nil, List.nil_append, s3, s4, Int.lt_irrefl, Int.natCast_zero, Nat.reduceMul, Nat.reduceLeDiff, k0, k1, c0, c1, Int.toNat_natCast, one_set, List.length_singleton, Nat.zero_add, Nat.reduceBEq, Nat.le_refl, List.take_length, and_self, eq_self, decide_true, decide_false, Bool.and_self, Bool.or_self, Bool.and_true, Bool.true_and, Bool.and_false, Bool.false_and, Bool.or_true, Bool.true_or, Bool.or_false, Bool.false_or, Bool.not_true, Bool.not_false, cond_true, cond_false]
      exact hih
    · have hp := br.F_pos (br.col c xs k) i (by omega)
      obtain ⟨q, hq⟩ : ∃ q : Nat, (br.F (br.col c xs k) i)[0] = q := ⟨_, rfl⟩
      have hm : q ∈ br.F (br.col c xs k) i := by rw [← hq]; exact List.getElem_mem _
      have hiq : q < r := by have := (br.mem_F hm).1; omega
      have hltq := gm.ix_lt (R := r) (C := c) hiq hk
      have i0q : (0 : Int) ≤ (q : Int) := Int.natCast_nonneg _
      have i1q : (q : Int) ≤ 100 := by omega
      have emq : (q : Int) * (c : Int) = ((q * c : Nat) : Int) := by simp
      have eeq : ((q * c : Nat) : Int) + (k : Int) = ((q * c + k : Nat) : Int) := by simp
      have lxq : ((q * c + k : Nat) : Int) < (xs.length : Int) := by omega
      have lx2q : q * c + k < xs.length := by omega
      have p0q : (0 : Int) ≤ ((q * c + k : Nat) : Int) := Int.natCast_nonneg _
      have w1q : IntKind.i64.wrap ((q * c : Nat) : Int) = ((q * c : Nat) : Int) := IntWalk.i64_in _ (by omega)
      have w2q : IntKind.i64.wrap ((q * c + k : Nat) : Int) = ((q * c + k : Nat) : Int) := IntWalk.i64_in _ (by omega)
      have ccq : gz xs (q * c + k) = br.col c xs k q := rfl
      have l0 : 0 < (br.up (br.F (br.col c xs k) i)).length := by rw [br.up_length]; exact hp
      have g0 : (0 : Int) < ((br.up (br.F (br.col c xs k) i)).length : Int) := by omega
      have g1 : gz (br.up (br.F (br.col c xs k) i)) 0 = (q : Int) := by rw [gz_eq l0]; simp [br.up, hq]
      have ht : (br.up (br.F (br.col c xs k) i)).take (br.up (br.F (br.col c xs k) i)).length = br.up (br.F (br.col c xs k) i) := List.take_length
      rcases Int.lt_trichotomy (br.col c xs k i) (br.col c xs k q) with cq | cq | cq
      · rw [br.F_lt hm cq] at hih
        simp only [cq, g0, g1, hi5, wi, l0, Int.lt_irrefl, Int.toNat_zero, em, w1, ee, w2, lx, lx2, p0, i0, i1, cc, emq, w1q, eeq, w2q, lxq, lx2q, p0q, i0q, i1q, ccq, k0, k1, c0, c1, Int.toNat_natCast, one_set, List.length_singleton, Nat.zero_add, Nat.reduceBEq, Nat.le_refl, List.take_length, and_self, eq_self, decide_true, decide_false, Bool.and_self, Bool.or_self, Bool.and_true, Bool.true_and, Bool.and_false, Bool.false_and, Bool.or_true, Bool.true_or, Bool.or_false, Bool.false_or, Bool.not_true, Bool.not_false, cond_true, cond_false]
        exact hih
      · have n1 : ¬ (br.col c xs k i < br.col c xs k q) := by omega
        have n2 : ¬ (br.col c xs k q < br.col c xs k i) := by omega
        have e1 : br.up (br.F (br.col c xs k) i ++ [i]) = br.up (br.F (br.col c xs k) i) ++ [(i : Int)] := by simp [br.up]
        rw [br.F_eq hm cq, e1, List.length_append] at hih
        simp only [n1, n2, g0, g1, hi5, wi, l0, s1, s2, ht, Int.lt_irrefl, Int.toNat_zero, em, w1, ee, w2, lx, lx2, p0, i0, i1, cc, emq, w1q, eeq, w2q, lxq, lx2q, p0q, i0q, i1q, ccq, k0, k1, c0, c1, Int.toNat_natCast, one_set, List.length_singleton, Nat.zero_add, Nat.reduceBEq, Nat.le_refl, List.take_length, and_self, eq_self, decide_true, decide_false, Bool.and_self, Bool.or_self, Bool.and_true, Bool.true_and, Bool.and_false, Bool.false_and, Bool.or_true, Bool.true_or, Bool.or_false, Bool.false_or, Bool.not_true, Bool.not_false, cond_true, cond_false]
        exact hih
      · have n1 : ¬ (br.col c xs k i < br.col c xs k q) := by omega
        have e1 : br.up [i] = [(i : Int)] := rfl
        have s3 : 0 + 1 ≤ 4611686018427387904 := by omega
        have s4 : (0 + 1) * 8 ≤ 140737488355328 := by omega
        rw [br.F_gt hm cq, e1] at hih
        simp only [n1, cq, g0, g1, hi5, wi, l0, s3, s4, Int.lt_irrefl, Int.toNat_zero, List.take_zero, List.nil_append, Nat.reduceMul, Nat.reduceLeDiff, em, w1, ee, w2, lx, lx2, p0, i0, i1, cc, emq, w1q, eeq, w2q, lxq, lx2q, p0q, i0q, i1q, ccq, k0, k1, c0, c1, Int.toNat_natCast, one_set, List.length_singleton, Nat.zero_add, Nat.reduceBEq, Nat.le_refl, List.take_length, and_self, eq_self, decide_true, decide_false, Bool.and_self, Bool.or_self, Bool.and_true, Bool.true_and, Bool.and_false, Bool.false_and, Bool.or_true, Bool.true_or, Bool.or_false, Bool.false_or, Bool.not_true, Bool.not_false, cond_true, cond_false]
        exact hih
theorem run : ∀ args v new, R args = some (true, v, new) → ∃ fuel, regc [1] (runFn Try.prog (orc [⟨89, gA.R⟩]) hd dr none fuel (bodyOf Try.f71) 55 [4] args []) = some (v, new) := by
  intro args v new h
  unfold R at h
  split at h
  · rename_i r c xs ma ys mb k
    simp only [Option.some.injEq, Prod.mk.injEq, Bool.and_eq_true, decide_eq_true_eq, Bool.not_eq_true'] at h
    obtain ⟨⟨⟨rfl, rfl, hk0, hk1⟩, hv⟩, rfl, rfl⟩ := h
    obtain ⟨r, c, rfl, rfl, hr, hc, hx, hy, vx, vy⟩ := gm.valid hv
    obtain ⟨k, rfl⟩ : ∃ q : Nat, k = q := ⟨k.toNat, by omega⟩
    obtain ⟨F, hF⟩ : ∃ F : Nat, F = 100 := ⟨100, rfl⟩
    refine ⟨F, ?_⟩
    rw [start]
    have hl := loop r c xs ys k F hr hc hx hy (by omega) r 0 F (by omega) (by omega)
    exact (congrArg (regc [1]) hl).trans rfl
  · cases h
theorem ok : EntOk Try.prog ⟨71, R⟩ :=
  ent_okAG (ks := [1]) mixed (A := (orc [⟨89, gA.R⟩])) (orc_ok (by simp only [List.mem_cons, List.not_mem_nil, or_false, forall_eq_or_imp, forall_eq]; exact gA.ok)) Try.func71 (by kernel_rfl) (by kernel_rfl) (n := 55) (ts := [4]) (hd := hd) (dr := dr) (cut := none) (by kernel_rfl) (by kernel_rfl) (by kernel_rfl) run
end gBestRows

namespace l02BestRows
def R : List AVal → Option (Bool × AVal × List Blk)
  | [.rom [.int .i64 r, .int .i64 c, .ro (.ints .i64 xs) ma 1, .ro (.ints .i64 ys) mb 1] 0, .int .i64 k] => some (decide (ma = xs.length ∧ mb = ys.length ∧ 0 ≤ k ∧ k < c) && gm.sp r c xs ys, .own 0 0 (br.sv r.toNat c.toNat xs k.toNat).length 0 1, [⟨.typ (.ints .i64 (br.sv r.toNat c.toNat xs k.toNat)), 0⟩])
  | _ => none
def hd : Nat → Head := fun i => bif eqN i 2 then ⟨[0, 1, 5, 6, 7, 8], some 1⟩ else ⟨[0, 1, 5, 6], some 1⟩
noncomputable def L1 (f n : Nat) (s : State) := loopAt Try.prog (orc []) hd Dr.std 0 f (bodyOf Try.f49) 0 [true, true, false, true] (retK Try.prog [4] 0 none) n s
noncomputable def L2 (f n n2 : Nat) (s : State) := loopAt Try.prog (orc []) hd Dr.std 0 f (bodyAt (bodyOf Try.f49) [true, true, false, true]) (curAt (bodyOf Try.f49) 0 [true, true, false, true]) [true, false, true, false, true] (iterK (normE 0 (hd (curAt (bodyOf Try.f49) 0 [true, true, false, true]))) (L1 f n) (contAt Try.prog (orc []) hd Dr.std 0 f (bodyOf Try.f49) 0 [true, true, false, true] (retK Try.prog [4] 0 none))) n2 s
theorem start (r c : Nat) (xs ys : List Int) (k f : Nat) :
  runFn Try.prog (orc []) hd Dr.std none f (bodyOf Try.f49) 64 [4] [.rom [.int .i64 r, .int .i64 c, .ro (.ints .i64 xs) xs.length 1, .ro (.ints .i64 ys) ys.length 1] 0, .int .i64 k] []
  = (L1 f f (mkS (64 : Nat) [((0 : Nat), AVal.rom [AVal.int IntKind.i64 (↑r : Int), AVal.int IntKind.i64 (↑c : Int), AVal.ro (Cont.ints IntKind.i64 xs) xs.length (1 : Nat), AVal.ro (Cont.ints IntKind.i64 ys) ys.length (1 : Nat)] (0 : Nat)), ((1 : Nat), AVal.int IntKind.i64 (↑k : Int)), ((5 : Nat), AVal.own (0 : Nat) (0 : Nat) (0 : Nat) (0 : Nat) (1 : Nat)), ((6 : Nat), AVal.int IntKind.i64 (0 : Int))] [{ c := BC.typ (Cont.ints IntKind.i64 (List.replicate (0 : Nat) (0 : Int))), ver := (0 : Nat) }])) := by kernel_rfl
theorem round1 (r c : Nat) (xs ys : List Int) (zs : List Int) (k i f n : Nat) :
  L1 f (n + 1) (mkS 64 [(0, .rom [.int .i64 r, .int .i64 c, .ro (.ints .i64 xs) xs.length 1, .ro (.ints .i64 ys) ys.length 1] 0), (1, .int .i64 k), (5, .own 0 0 zs.length 0 1), (6, .int .i64 i)] [⟨.typ (.ints .i64 zs), 0⟩])
  = (bif decide ((↑i : Int) < (↑r : Int)) then L2 f n f (mkS (64 : Nat) [((0 : Nat), AVal.rom [AVal.int IntKind.i64 (↑r : Int), AVal.int IntKind.i64 (↑c : Int), AVal.ro (Cont.ints IntKind.i64 xs) xs.length (1 : Nat), AVal.ro (Cont.ints IntKind.i64 ys) ys.length (1 : Nat)] (0 : Nat)), ((1 : Nat), AVal.int IntKind.i64 (↑k : Int)), ((5 : Nat), AVal.own (0 : Nat) (0 : Nat) zs.length (0 : Nat) (1 : Nat)), ((6 : Nat), AVal.int IntKind.i64 (↑i : Int)), ((7 : Nat), AVal.bool true), ((8 : Nat), AVal.int IntKind.i64 (0 : Int))] [{ c := BC.typ (Cont.ints IntKind.i64 zs), ver := (0 : Nat) }]) else some (AVal.own (0 : Nat) (0 : Nat) zs.length (0 : Nat) (1 : Nat), [{ c := BC.typ (Cont.ints IntKind.i64 zs), ver := (0 : Nat) }])) := by kernel_rfl
theorem round2 (r c : Nat) (xs ys : List Int) (zs : List Int) (b : Bool) (k i j f n n2 : Nat) :
  L2 f n (n2 + 1) (mkS 64 [(0, .rom [.int .i64 r, .int .i64 c, .ro (.ints .i64 xs) xs.length 1, .ro (.ints .i64 ys) ys.length 1] 0), (1, .int .i64 k), (5, .own 0 0 zs.length 0 1), (6, .int .i64 i), (7, .bool b), (8, .int .i64 j)] [⟨.typ (.ints .i64 zs), 0⟩])
  = (bif decide ((↑j : Int) < (↑r : Int)) then bif b then bif true && (decide ((0 : Int) ≤ IntKind.i64.wrap (IntKind.i64.wrap ((↑j : Int) * (↑c : Int)) + (↑k : Int))) && decide (IntKind.i64.wrap (IntKind.i64.wrap ((↑j : Int) * (↑c : Int)) + (↑k : Int)) < (↑xs.length : Int))) then bif decide ((IntKind.i64.wrap (IntKind.i64.wrap ((↑j : Int) * (↑c : Int)) + (↑k : Int))).toNat < xs.length) then bif true && (decide ((0 : Int) ≤ IntKind.i64.wrap (IntKind.i64.wrap ((↑i : Int) * (↑c : Int)) + (↑k : Int))) && decide (IntKind.i64.wrap (IntKind.i64.wrap ((↑i : Int) * (↑c : Int)) + (↑k : Int)) < (↑xs.length : Int))) then bif decide ((IntKind.i64.wrap (IntKind.i64.wrap ((↑i : Int) * (↑c : Int)) + (↑k : Int))).toNat < xs.length) then L2 f n n2 (mkS (64 : Nat) [((0 : Nat), AVal.rom [AVal.int IntKind.i64 (↑r : Int), AVal.int IntKind.i64 (↑c : Int), AVal.ro (Cont.ints IntKind.i64 xs) xs.length (1 : Nat), AVal.ro (Cont.ints IntKind.i64 ys) ys.length (1 : Nat)] (0 : Nat)), ((1 : Nat), AVal.int IntKind.i64 (↑k : Int)), ((5 : Nat), AVal.own (0 : Nat) (0 : Nat) zs.length (0 : Nat) (1 : Nat)), ((6 : Nat), AVal.int IntKind.i64 (↑i : Int)), ((7 : Nat), AVal.bool (decide (gz xs (IntKind.i64.wrap (IntKind.i64.wrap ((↑j : Int) * (↑c : Int)) + (↑k : Int))).toNat ≤ gz xs (IntKind.i64.wrap (IntKind.i64.wrap ((↑i : Int) * (↑c : Int)) + (↑k : Int))).toNat))), ((8 : Nat), AVal.int IntKind.i64 (IntKind.i64.wrap ((↑j : Int) + (1 : Int))))] [{ c := BC.typ (Cont.ints IntKind.i64 zs), ver := (0 : Nat) }]) else none else none else none else none else L2 f n n2 (mkS (64 : Nat) [((0 : Nat), AVal.rom [AVal.int IntKind.i64 (↑r : Int), AVal.int IntKind.i64 (↑c : Int), AVal.ro (Cont.ints IntKind.i64 xs) xs.length (1 : Nat), AVal.ro (Cont.ints IntKind.i64 ys) ys.length (1 : Nat)] (0 : Nat)), ((1 : Nat), AVal.int IntKind.i64 (↑k : Int)), ((5 : Nat), AVal.own (0 : Nat) (0 : Nat) zs.length (0 : Nat) (1 : Nat)), ((6 : Nat), AVal.int IntKind.i64 (↑i : Int)), ((7 : Nat), AVal.bool false), ((8 : Nat), AVal.int IntKind.i64 (IntKind.i64.wrap ((↑j : Int) + (1 : Int))))] [{ c := BC.typ (Cont.ints IntKind.i64 zs), ver := (0 : Nat) }]) else bif b then bif (1 : Nat) == (1 : Nat) && (1 : Nat) == (1 : Nat) && (true && (true && true) && (true && true && (decide (zs.length + (List.take (1 : Nat) (List.drop (0 : Nat) ((List.replicate (1 : Nat) (0 : Int)).set (0 : Nat) (↑i : Int)))).length ≤ (4611686018427387904 : Nat)) && decide ((zs.length + (List.take (1 : Nat) (List.drop (0 : Nat) ((List.replicate (1 : Nat) (0 : Int)).set (0 : Nat) (↑i : Int)))).length) * (8 : Nat) ≤ (140737488355328 : Nat))))) then L1 f n (mkS (64 : Nat) [((0 : Nat), AVal.rom [AVal.int IntKind.i64 (↑r : Int), AVal.int IntKind.i64 (↑c : Int), AVal.ro (Cont.ints IntKind.i64 xs) xs.length (1 : Nat), AVal.ro (Cont.ints IntKind.i64 ys) ys.length (1 : Nat)] (0 : Nat)), ((1 : Nat), AVal.int IntKind.i64 (↑k : Int)), ((5 : Nat), AVal.own (0 : Nat) (0 : Nat) (zs.length + (List.take (1 : Nat) (List.drop (0 : Nat) ((List.replicate (1 : Nat) (0 : Int)).set (0 : Nat) (↑i : Int)))).length) (0 : Nat) (1 : Nat)), ((6 : Nat), AVal.int IntKind.i64 (IntKind.i64.wrap ((↑i : Int) + (1 : Int))))] [{ c := BC.typ (Cont.ints IntKind.i64 (List.take zs.length zs ++ List.take (1 : Nat) (List.drop (0 : Nat) ((List.replicate (1 : Nat) (0 : Int)).set (0 : Nat) (↑i : Int))))), ver := (0 : Nat) }]) else none else L1 f n (mkS (64 : Nat) [((0 : Nat), AVal.rom [AVal.int IntKind.i64 (↑r : Int), AVal.int IntKind.i64 (↑c : Int), AVal.ro (Cont.ints IntKind.i64 xs) xs.length (1 : Nat), AVal.ro (Cont.ints IntKind.i64 ys) ys.length (1 : Nat)] (0 : Nat)), ((1 : Nat), AVal.int IntKind.i64 (↑k : Int)), ((5 : Nat), AVal.own (0 : Nat) (0 : Nat) zs.length (0 : Nat) (1 : Nat)), ((6 : Nat), AVal.int IntKind.i64 (IntKind.i64.wrap ((↑i : Int) + (1 : Int))))] [{ c := BC.typ (Cont.ints IntKind.i64 zs), ver := (0 : Nat) }])) := by kernel_rfl
theorem inner (r c : Nat) (xs ys : List Int) (zs : List Int) (f n k i : Nat) (hr : 1 ≤ r ∧ r ≤ 6) (hc : 1 ≤ c ∧ c ≤ 6) (hx : xs.length = r * c) (hy : ys.length = r * c) (hk : k < c) (hi : i < r) (hz : zs.length ≤ i) : ∀ (d j n2 : Nat) (b : Bool), j + d = r → d < n2 →
    L2 f n n2 (mkS 64 [(0, .rom [.int .i64 r, .int .i64 c, .ro (.ints .i64 xs) xs.length 1, .ro (.ints .i64 ys) ys.length 1] 0), (1, .int .i64 k), (5, .own 0 0 zs.length 0 1), (6, .int .i64 i), (7, .bool b), (8, .int .i64 j)] [⟨.typ (.ints .i64 zs), 0⟩]) = bif (b && ((List.range r).drop j).all fun j => decide (br.col c xs k j ≤ br.col c xs k i)) then L1 f n (mkS 64 [(0, .rom [.int .i64 r, .int .i64 c, .ro (.ints .i64 xs) xs.length 1, .ro (.ints .i64 ys) ys.length 1] 0), (1, .int .i64 k), (5, .own 0 0 (zs ++ [(i : Int)]).length 0 1), (6, .int .i64 ((i + 1 : Nat) : Int))] [⟨.typ (.ints .i64 (zs ++ [(i : Int)])), 0⟩]) else L1 f n (mkS 64 [(0, .rom [.int .i64 r, .int .i64 c, .ro (.ints .i64 xs) xs.length 1, .ro (.ints .i64 ys) ys.length 1] 0), (1, .int .i64 k), (5, .own 0 0 zs.length 0 1), (6, .int .i64 ((i + 1 : Nat) : Int))] [⟨.typ (.ints .i64 zs), 0⟩]) := by
  have wi : IntKind.i64.wrap ((i : Int) + 1) = ((i + 1 : Nat) : Int) := wrap_nat i (by omega)
  have s1 : zs.length + 1 ≤ 4611686018427387904 := by omega
  have s2 : (zs.length + 1) * 8 ≤ 140737488355328 := by omega
  have el : (zs ++ [(i : Int)]).length = zs.length + 1 := by simp
  have h36 := gm.le_36 hr.2 hc.2
  have k0 : (0 : Int) ≤ (k : Int) := Int.natCast_nonneg _
  have k1 : (k : Int) ≤ 100 := by omega
  have c0 : (0 : Int) ≤ (c : Int) := Int.natCast_nonneg _
  have c1 : (c : Int) ≤ 100 := by omega
  have hlt := gm.ix_lt (R := r) (C := c) hi hk
  have i0 : (0 : Int) ≤ (i : Int) := Int.natCast_nonneg _
  have i1 : (i : Int) ≤ 100 := by omega
  have em : (i : Int) * (c : Int) = ((i * c : Nat) : Int) := by simp
  have ee : ((i * c : Nat) : Int) + (k : Int) = ((i * c + k : Nat) : Int) := by simp
  have lx : ((i * c + k : Nat) : Int) < (xs.length : Int) := by omega
  have lx2 : i * c + k < xs.length := by omega
  have p0 : (0 : Int) ≤ ((i * c + k : Nat) : Int) := Int.natCast_nonneg _
  have w1 : IntKind.i64.wrap ((i * c : Nat) : Int) = ((i * c : Nat) : Int) := IntWalk.i64_in _ (by omega)
  have w2 : IntKind.i64.wrap ((i * c + k : Nat) : Int) = ((i * c + k : Nat) : Int) := IntWalk.i64_in _ (by omega)
  have cc : gz xs (i * c + k) = br.col c xs k i := rfl
  intro d
  induction d with
  | zero =>
    intro j n2 b hj hn
    obtain ⟨n2, rfl⟩ : ∃ k, n2 = k + 1 := ⟨n2 - 1, by omega⟩
    obtain rfl : j = r := by omega
    rw [round2]
    have e : (List.range j).drop j = [] := List.drop_of_length_le (by simp)
    cases b <;> simp only [e, el, s1, s2, wi, List.all_nil, List.take_length, Int.lt_irrefl, k0, k1, c0, c1, Int.toNat_natCast, one_set, List.length_singleton, Nat.zero_add, Nat.reduceBEq, Nat.le_refl, List.take_length, and_self, eq_self, decide_true, decide_false, Bool.and_self, Bool.or_self, Bool.and_true, Bool.true_and, Bool.and_false, Bool.false_and, Bool.or_true, Bool.true_or, Bool.or_false, Bool.false_or, Bool.not_true, Bool.not_false, cond_true, cond_false]
  | succ d ih =>
    intro j n2 b hj' hn
    obtain ⟨n2, rfl⟩ : ∃ k, n2 = k + 1 := ⟨n2 - 1, by omega⟩
    have hij : j < r := by omega
    have hj5 : (j : Int) < (r : Int) := by omega
    have wj : IntKind.i64.wrap ((j : Int) + 1) = ((j + 1 : Nat) : Int) := wrap_nat j (by omega)
    have hltj := gm.ix_lt (R := r) (C := c) hij hk
    have i0j : (0 : Int) ≤ (j : Int) := Int.natCast_nonneg _
    have i1j : (j : Int) ≤ 100 := by omega
    have emj : (j : Int) * (c : Int) = ((j * c : Nat) : Int) := by simp
    have eej : ((j * c : Nat) : Int) + (k : Int) = ((j * c + k : Nat) : Int) := by simp
    have lxj : ((j * c + k : Nat) : Int) < (xs.length : Int) := by omega
    have lx2j : j * c + k < xs.length := by omega
    have p0j : (0 : Int) ≤ ((j * c + k : Nat) : Int) := Int.natCast_nonneg _
    have w1j : IntKind.i64.wrap ((j * c : Nat) : Int) = ((j * c : Nat) : Int) := IntWalk.i64_in _ (by omega)
    have w2j : IntKind.i64.wrap ((j * c + k : Nat) : Int) = ((j * c + k : Nat) : Int) := IntWalk.i64_in _ (by omega)
    have ccj : gz xs (j * c + k) = br.col c xs k j := rfl
    have hih := fun b => ih (j + 1) n2 b (by omega) (by omega)
    rw [round2, br.drop_range hij, List.all_cons]
    cases b
    · simp only [hj5, wj, decide_true, decide_false, Bool.and_self, Bool.or_self, Bool.and_true, Bool.true_and, Bool.and_false, Bool.false_and, Bool.or_true, Bool.true_or, Bool.or_false, Bool.false_or, Bool.not_true, Bool.not_false, cond_true, cond_false]
      rw [hih]
      simp only [decide_true, decide_false, Bool.and_self, Bool.or_self, Bool.and_true, Bool.true_and, Bool.and_false, Bool.false_and, Bool.or_true, Bool.true_or, Bool.or_false, Bool.false_or, Bool.not_true, Bool.not_false, cond_true, cond_false]
    · simp only [hj5, wj, em, w1, ee, w2, lx, lx2, p0, i0, i1, cc, emj, w1j, eej, w2j, lxj, lx2j, p0j, i0j, i1j, ccj, k0, k1, c0, c1, Int.toNat_natCast, one_set, List.length_singleton, Nat.zero_add, Nat.reduceBEq, Nat.le_refl, List.take_length, and_self, eq_self, decide_true, decide_false, Bool.and_self, Bool.or_self, Bool.and_true, Bool.true_and, Bool.and_false, Bool.false_and, Bool.or_true, Bool.true_or, Bool.or_false, Bool.false_or, Bool.not_true, Bool.not_false, cond_true, cond_false]
      rw [hih]
theorem outer (r c : Nat) (xs ys : List Int) (k f : Nat) (hr : 1 ≤ r ∧ r ≤ 6) (hc : 1 ≤ c ∧ c ≤ 6) (hx : xs.length = r * c) (hy : ys.length = r * c) (hk : k < c) (hf : r < f) : ∀ (d i n : Nat), i + d = r → d < n →
    L1 f n (mkS 64 [(0, .rom [.int .i64 r, .int .i64 c, .ro (.ints .i64 xs) xs.length 1, .ro (.ints .i64 ys) ys.length 1] 0), (1, .int .i64 k), (5, .own 0 0 (br.up (br.G (br.col c xs k) r i)).length 0 1), (6, .int .i64 i)] [⟨.typ (.ints .i64 (br.up (br.G (br.col c xs k) r i))), 0⟩]) = some (.own 0 0 (br.up (br.G (br.col c xs k) r r)).length 0 1, [⟨.typ (.ints .i64 (br.up (br.G (br.col c xs k) r r))), 0⟩]) := by
  intro d
  induction d with
  | zero =>
    intro i n hi hn
    obtain ⟨n, rfl⟩ : ∃ k, n = k + 1 := ⟨n - 1, by omega⟩
    obtain rfl : i = r := by omega
    rw [round1]
    simp only [Int.lt_irrefl, decide_true, decide_false, Bool.and_self, Bool.or_self, Bool.and_true, Bool.true_and, Bool.and_false, Bool.false_and, Bool.or_true, Bool.true_or, Bool.or_false, Bool.false_or, Bool.not_true, Bool.not_false, cond_true, cond_false]
  | succ d ih =>
    intro i n hi' hn
    obtain ⟨n, rfl⟩ : ∃ k, n = k + 1 := ⟨n - 1, by omega⟩
    have hi : i < r := by omega
    have hi5 : (i : Int) < (r : Int) := by omega
    have hih := ih (i + 1) n (by omega) (by omega)
    have hz : (br.up (br.G (br.col c xs k) r i)).length ≤ i := by
      have := List.length_filter_le (br.P (br.col c xs k) r) (List.range i)
      simpa [br.up, br.G] using this
    have hin := inner r c xs ys (br.up (br.G (br.col c xs k) r i)) f n k i hr hc hx hy hk hi hz r 0 f true (by omega) hf
    rw [round1]
    simp only [hi5, decide_true, cond_true]
    refine hin.trans ?_
    rw [List.drop_zero, Bool.true_and]
    have hP : ((List.range r).all fun j => decide (br.col c xs k j ≤ br.col c xs k i)) = br.P (br.col c xs k) r i := rfl
    rw [hP]
    rw [br.G_succ] at hih
    cases hp : br.P (br.col c xs k) r i
    · rw [hp, cond_false, List.append_nil] at hih
      exact hih
    · rw [hp, cond_true] at hih
      have e1 : br.up (br.G (br.col c xs k) r i ++ [i]) = br.up (br.G (br.col c xs k) r i) ++ [(i : Int)] := by simp [br.up]
      rw [e1] at hih
      exact hih
theorem run : ∀ args v new, R args = some (true, v, new) → ∃ fuel, runFn Try.prog (orc []) hd Dr.std none fuel (bodyOf Try.f49) 64 [4] args [] = some (v, new) := by
  intro args v new h
  unfold R at h
  split at h
  · rename_i r c xs ma ys mb k
    simp only [Option.some.injEq, Prod.mk.injEq, Bool.and_eq_true, decide_eq_true_eq, Bool.not_eq_true'] at h
    obtain ⟨⟨⟨rfl, rfl, hk0, hk1⟩, hv⟩, rfl, rfl⟩ := h
    obtain ⟨r, c, rfl, rfl, hr, hc, hx, hy, vx, vy⟩ := gm.valid hv
    obtain ⟨k, rfl⟩ : ∃ q : Nat, k = q := ⟨k.toNat, by omega⟩
    obtain ⟨F, hF⟩ : ∃ F : Nat, F = 100 := ⟨100, rfl⟩
    refine ⟨F, ?_⟩
    rw [start]
    have hl := outer r c xs ys k F hr hc hx hy (by omega) (by omega) r 0 F (by omega) (by omega)
    exact hl
  · cases h
theorem ok : EntOk Try.prog ⟨49, R⟩ :=
  ent_okA mixed (A := (orc [])) (orc_ok (by simp)) Try.func49 (by kernel_rfl) (by kernel_rfl) (n := 64) (ts := [4]) (hd := hd) (dr := Dr.std) (cut := none) (by kernel_rfl) (by kernel_rfl) (by kernel_rfl) run
end l02BestRows

end Go.Proofs.Ythecninmmojkgaa.Ab
