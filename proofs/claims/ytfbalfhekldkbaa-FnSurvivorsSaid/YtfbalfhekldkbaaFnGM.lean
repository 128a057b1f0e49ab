/-
  Functions: parts of games, what is left out.
-/
import Derived.Test.YtfbalfhekldkbaaFnGG
import Derived.Test.YtfbalfhekldkbaaFnGI
namespace Go.Proofs.Ytfbalfhekldkbaa.Ab
open Go
set_option linter.unusedVariables false
set_option linter.unusedSimpArgs false
set_option maxRecDepth 100000

namespace pt
def in.sp (r x : Int) : Bool := decide (0 ≤ x) && decide (x < r)
theorem in_mem {r : Int} {ps : List Int} (h : ps.all (pt.in.sp r) = true) {p : Int} (hp : p ∈ ps) : 0 ≤ p ∧ p < r := by
  have := List.all_eq_true.1 h p hp
  simpa [pt.in.sp] using this
def cell (c : Nat) (xs : List Int) (p q : Int) : Int := gz xs (p.toNat * c + q.toNat)
def row (c : Nat) (xs : List Int) (p : Int) (qs : List Int) : List Int := qs.map (cell c xs p)
def pre (c : Nat) (xs ps qs : List Int) (i k : Nat) : List Int := ((ps.take i).flatMap fun p => row c xs p qs) ++ row c xs (gz ps i) (qs.take k)
/-- The cells of some rows and columns. -/
def sv (c : Nat) (xs ps qs : List Int) : List Int := ps.flatMap fun p => row c xs p qs
theorem pre_succ (c : Nat) (xs ps qs : List Int) (i : Nat) {k : Nat} (hk : k < qs.length) : pre c xs ps qs i k ++ [cell c xs (gz ps i) qs[k]] = pre c xs ps qs i (k + 1) := by
  have e : qs.take (k + 1) = qs.take k ++ [qs[k]] := by rw [List.take_add_one, List.getElem?_eq_getElem hk]; rfl
  simp only [pre, row, e, List.map_append, List.map_cons, List.map_nil, List.append_assoc]
theorem pre_next (c : Nat) (xs ps qs : List Int) {i : Nat} (hi : i < ps.length) : pre c xs ps qs i qs.length = pre c xs ps qs (i + 1) 0 := by
  have e : ps.take (i + 1) = ps.take i ++ [ps[i]] := by rw [List.take_add_one, List.getElem?_eq_getElem hi]; rfl
  simp only [pre, e, List.flatMap_append, List.flatMap_cons, List.flatMap_nil, List.append_nil, gz_eq hi, List.take_length, List.take_zero, row, List.map_nil]
theorem pre_zero (c : Nat) (xs ps qs : List Int) : pre c xs ps qs 0 0 = [] := by simp [pre, row]
theorem pre_all (c : Nat) (xs ps qs : List Int) : pre c xs ps qs ps.length 0 = sv c xs ps qs := by simp [pre, sv, row]
theorem sv_length (c : Nat) (xs ps qs : List Int) : (sv c xs ps qs).length = ps.length * qs.length := by
  induction ps with
  | nil => simp [sv]
  | cons p t ih =>
    have : sv c xs (p :: t) qs = row c xs p qs ++ sv c xs t qs := by simp [sv]
    rw [this, List.length_append, ih, List.length_cons, Nat.add_mul, Nat.one_mul]
    simp [row]; omega
theorem pre_length (c : Nat) (xs ps qs : List Int) {i k : Nat} (hi : i ≤ ps.length) (hk : k ≤ qs.length) : (pre c xs ps qs i k).length = i * qs.length + k := by
  have h := sv_length c xs (ps.take i) qs
  simp only [sv] at h
  have hr : (row c xs (gz ps i) (qs.take k)).length = k := by simp [row]; omega
  rw [pre, List.length_append, h, hr, List.length_take, Nat.min_eq_left hi]
theorem cell_gain {r c : Nat} {xs : List Int} (hl : xs.length = r * c) (hg : ∀ x ∈ xs, -1000 ≤ x ∧ x ≤ 1000) {p q : Int} (hp : 0 ≤ p ∧ p < (r : Int)) (hq : 0 ≤ q ∧ q < (c : Int)) : -1000 ≤ cell c xs p q ∧ cell c xs p q ≤ 1000 := by
  have := gm.ix_lt (R := r) (C := c) (i := p.toNat) (k := q.toNat) (by omega) (by omega)
  unfold cell
  rw [gz_eq (by omega)]
  exact hg _ (List.getElem_mem _)
theorem valid {r c : Nat} {xs ys ps qs : List Int} (hx : xs.length = r * c) (hy : ys.length = r * c) (vx : ∀ x ∈ xs, -1000 ≤ x ∧ x ≤ 1000) (vy : ∀ x ∈ ys, -1000 ≤ x ∧ x ≤ 1000)
    (hp : ps.all (pt.in.sp (r : Int)) = true) (hq : qs.all (pt.in.sp (c : Int)) = true) (lp : 1 ≤ ps.length ∧ ps.length ≤ 6) (lq : 1 ≤ qs.length ∧ qs.length ≤ 6) :
    gm.sp (ps.length : Int) (qs.length : Int) (sv c xs ps qs) (sv c ys ps qs) = true := by
  have mem : ∀ zs, zs.length = r * c → (∀ x ∈ zs, -1000 ≤ x ∧ x ≤ 1000) → ∀ y ∈ sv c zs ps qs, -1000 ≤ y ∧ y ≤ 1000 := by
    intro zs hz vz y hy'
    simp only [sv, row, List.mem_flatMap, List.mem_map] at hy'
    obtain ⟨p, hpm, q, hqm, rfl⟩ := hy'
    exact cell_gain hz vz (in_mem hp hpm) (in_mem hq hqm)
  simp only [gm.sp, gm.gain.sp, Bool.and_eq_true, decide_eq_true_eq, List.all_eq_true, sv_length]
  refine ⟨⟨⟨by omega, by omega⟩, by omega, by omega⟩, ⟨by simp, mem xs hx vx⟩, by simp, mem ys hy vy⟩
end pt
namespace lv
def go (ps : List Int) : List Int → Nat → List Int
  | [], _ => []
  | x :: t, i => bif pu.h.sp ps (i : Int) then go ps t (i + 1) else x :: go ps t (i + 1)
/-- What is left when some places are left out. -/
def sv (l ps : List Int) : List Int := go ps l 0
theorem go_length (ps : List Int) : ∀ (l : List Int) (i : Nat), (go ps l i).length ≤ l.length := by
  intro l
  induction l with
  | nil => intro i; exact Nat.le_refl _
  | cons x t ih =>
    intro i
    have := ih (i + 1)
    simp only [go]
    cases pu.h.sp ps (i : Int)
    · simp only [cond_false, List.length_cons]; omega
    · simp only [cond_true, List.length_cons]; omega
theorem go_mem (ps : List Int) : ∀ (l : List Int) (i : Nat) (x : Int), x ∈ go ps l i → x ∈ l := by
  intro l
  induction l with
  | nil => intro i x h; cases h
  | cons y t ih =>
    intro i x h
    simp only [go] at h
    cases hp : pu.h.sp ps (i : Int)
    · rw [hp, cond_false] at h
      rcases List.mem_cons.1 h with rfl | h
      · exact List.mem_cons_self
      · exact List.mem_cons_of_mem _ (ih _ _ h)
    · rw [hp, cond_true] at h
      exact List.mem_cons_of_mem _ (ih _ _ h)
theorem go_lt (ps : List Int) : ∀ (l : List Int) (i j : Nat), i ≤ j → j < i + l.length → pu.h.sp ps (j : Int) = true → (go ps l i).length < l.length := by
  intro l
  induction l with
  | nil => intro i j h1 h2; simp at h2; omega
  | cons y t ih =>
    intro i j h1 h2 hj
    simp only [List.length_cons] at h2
    simp only [go]
    by_cases e : i = j
    · subst e
      have := go_length ps t (i + 1)
      rw [hj, cond_true, List.length_cons]; omega
    · have := ih (i + 1) j (by omega) (by omega) hj
      cases pu.h.sp ps (i : Int)
      · simp only [cond_false, List.length_cons]; omega
      · simp only [cond_true, List.length_cons]; omega
theorem go_pos (ps : List Int) : ∀ (l : List Int) (i j : Nat), i ≤ j → j < i + l.length → pu.h.sp ps (j : Int) = false → 1 ≤ (go ps l i).length := by
  intro l
  induction l with
  | nil => intro i j h1 h2; simp at h2; omega
  | cons y t ih =>
    intro i j h1 h2 hj
    simp only [List.length_cons] at h2
    simp only [go]
    by_cases e : i = j
    · subst e
      rw [hj, cond_false, List.length_cons]; omega
    · have := ih (i + 1) j (by omega) (by omega) hj
      cases pu.h.sp ps (i : Int)
      · simp only [cond_false, List.length_cons]; omega
      · simpa only [cond_true] using this
theorem sv_length (l ps : List Int) : (sv l ps).length ≤ l.length := go_length ps l 0
theorem sv_all {l ps : List Int} {p : Int → Bool} (h : l.all p = true) : (sv l ps).all p = true :=
  List.all_eq_true.2 fun x hx => List.all_eq_true.1 h x (go_mem ps l 0 x hx)
end lv
namespace wr
theorem sv_in {r c : Nat} {xs : List Int} {y : Int} (h : y ∈ sv r c xs) : ∃ q : Nat, y = q ∧ q < r := by
  simp only [sv, br.up, List.mem_map] at h
  obtain ⟨q, hq, rfl⟩ := h
  simp only [F, List.mem_filter, List.mem_range] at hq
  exact ⟨q, rfl, hq.1⟩
/-- One row is not worse. -/
theorem sv_out {r c : Nat} (xs : List Int) (hr : 0 < r) (hc : 0 < c) : ∃ i : Nat, i < r ∧ pu.h.sp (sv r c xs) (i : Int) = false := by
  have hp := br.F_pos (br.col c xs 0) r hr
  obtain ⟨h1, h2⟩ := br.mem_F (List.getElem_mem hp)
  refine ⟨_, h1, ?_⟩
  generalize (br.F (br.col c xs 0) r)[0] = i at h1 h2 ⊢
  cases hh : pu.h.sp (sv r c xs) (i : Int) with
  | false => rfl
  | true =>
    exfalso
    simp only [pu.h.sp, List.any_eq_true, beq_iff_eq] at hh
    obtain ⟨y, hy, rfl⟩ := hh
    simp only [sv, br.up, List.mem_map] at hy
    obtain ⟨q, hq, hqe⟩ := hy
    have hqi : q = i := by omega
    subst hqi
    simp only [F, List.mem_filter, List.mem_range, wr.b.sp, wr.ex.sp, List.any_eq_true, wr.w.sp, Bool.not_eq_true', List.any_eq_false] at hq
    obtain ⟨_, j, hj, hw⟩ := hq
    have := hw 0 hc
    simp only [wr.le.sp, decide_eq_true_eq] at this
    have := h2 j hj
    omega
theorem sv_has {r c : Nat} {xs : List Int} (h : 0 < (sv r c xs).length) : ∃ i : Nat, i < r ∧ pu.h.sp (sv r c xs) (i : Int) = true := by
  have hm := List.getElem_mem h
  obtain ⟨q, h1, h2⟩ := sv_in hm
  refine ⟨q, h2, ?_⟩
  simp only [pu.h.sp, List.any_eq_true, beq_iff_eq]
  exact ⟨_, hm, h1⟩
end wr
namespace sg
/-- Rows, or columns, that are worse in what is left. -/
def w1.sv (c : Nat) (xs ps qs : List Int) : List Int := wr.sv ps.length qs.length (pt.sv c xs ps qs)
def w2.sv (c : Nat) (ys ps qs : List Int) : List Int := wr.sv qs.length ps.length (tn.sv ps.length qs.length (pt.sv c ys ps qs))
def p1 (c : Nat) (xs ps qs : List Int) : List Int := lv.sv ps (w1.sv c xs ps qs)
def q1 (c : Nat) (xs ys ps qs : List Int) : List Int := lv.sv qs (w2.sv c ys (p1 c xs ps qs) qs)
def go (c : Nat) (xs ys : List Int) : Nat → List Int → List Int → List Int × List Int
  | 0, ps, qs => (ps, qs)
  | m + 1, ps, qs => bif decide ((w1.sv c xs ps qs).length = 0) && decide ((w2.sv c ys (p1 c xs ps qs) qs).length = 0) then (p1 c xs ps qs, q1 c xs ys ps qs) else go c xs ys m (p1 c xs ps qs) (q1 c xs ys ps qs)
theorem p1_pos {c : Nat} (xs : List Int) {ps qs : List Int} (hp : 1 ≤ ps.length) (hq : 1 ≤ qs.length) : 1 ≤ (p1 c xs ps qs).length := by
  obtain ⟨i, h1, h2⟩ := wr.sv_out (r := ps.length) (c := qs.length) (pt.sv c xs ps qs) hp hq
  exact lv.go_pos _ ps 0 i (Nat.zero_le _) (by omega) h2
theorem q1_pos {c : Nat} (xs ys : List Int) {ps qs : List Int} (hp : 1 ≤ ps.length) (hq : 1 ≤ qs.length) : 1 ≤ (q1 c xs ys ps qs).length := by
  obtain ⟨i, h1, h2⟩ := wr.sv_out (r := qs.length) (c := (p1 c xs ps qs).length) (tn.sv (p1 c xs ps qs).length qs.length (pt.sv c ys (p1 c xs ps qs) qs)) hq (p1_pos xs hp hq)
  exact lv.go_pos _ qs 0 i (Nat.zero_le _) (by omega) h2
theorem p1_lt {c : Nat} {xs ps qs : List Int} (h : 0 < (w1.sv c xs ps qs).length) : (p1 c xs ps qs).length < ps.length := by
  obtain ⟨i, h1, h2⟩ := wr.sv_has h
  exact lv.go_lt _ ps 0 i (Nat.zero_le _) (by omega) h2
theorem q1_lt {c : Nat} {xs ys ps qs : List Int} (h : 0 < (w2.sv c ys (p1 c xs ps qs) qs).length) : (q1 c xs ys ps qs).length < qs.length := by
  obtain ⟨i, h1, h2⟩ := wr.sv_has h
  exact lv.go_lt _ qs 0 i (Nat.zero_le _) (by omega) h2
def rows.sv (r c : Nat) (xs ys : List Int) : List Int := (sg.go c xs ys 20 (cnt.sv r) (cnt.sv c)).1
def cols.sv (r c : Nat) (xs ys : List Int) : List Int := (sg.go c xs ys 20 (cnt.sv r) (cnt.sv c)).2
theorem go_length (c : Nat) (xs ys : List Int) : ∀ (m : Nat) (ps qs : List Int), (go c xs ys m ps qs).1.length ≤ ps.length ∧ (go c xs ys m ps qs).2.length ≤ qs.length := by
  intro m
  induction m with
  | zero => intro ps qs; exact ⟨Nat.le_refl _, Nat.le_refl _⟩
  | succ m ih =>
    intro ps qs
    have h1 : (p1 c xs ps qs).length ≤ ps.length := lv.sv_length _ _
    have h2 : (q1 c xs ys ps qs).length ≤ qs.length := lv.sv_length _ _
    have h3 := ih (p1 c xs ps qs) (q1 c xs ys ps qs)
    simp only [go]
    cases decide ((w1.sv c xs ps qs).length = 0) && decide ((w2.sv c ys (p1 c xs ps qs) qs).length = 0)
    · simp only [cond_false]; omega
    · exact ⟨h1, h2⟩
theorem cnt_in (n : Nat) : (cnt.sv n).all (pt.in.sp (n : Int)) = true := by
  simp only [cnt.sv, br.up, List.all_map, List.all_eq_true, List.mem_range, Function.comp, pt.in.sp, Bool.and_eq_true, decide_eq_true_eq]
  intro i hi; omega
end sg

namespace leave
def R : List AVal → Option (Bool × AVal × List Blk)
  | [.ro (.ints .i64 l) ml 1, .ro (.ints .i64 ps) mp 1] => some (decide (ml = l.length ∧ mp = ps.length ∧ ml ≤ 1000 ∧ mp ≤ 1000), .own 0 0 (lv.sv l ps).length 0 1, [⟨.typ (.ints .i64 (lv.sv l ps)), 0⟩])
  | _ => none
def hd : Nat → Head := fun _ => ⟨[1, 5, 9, 10, 11], some 1⟩
noncomputable def L (f n : Nat) (s : State) := loopAt Try.prog (orc [⟨47, slContains.R⟩]) hd Dr.std 0 f (bodyOf Try.f34) 0 [true, true, false, true] (retK Try.prog [4] 0 none) n s
theorem start (l ps : List Int) (f : Nat) :
  runFn Try.prog (orc [⟨47, slContains.R⟩]) hd Dr.std none f (bodyOf Try.f34) 26 [4] [.ro (.ints .i64 l) l.length 1, .ro (.ints .i64 ps) ps.length 1] []
  = (L f f (mkS (26 : Nat) [((1 : Nat), AVal.ro (Cont.ints IntKind.i64 ps) ps.length (1 : Nat)), ((5 : Nat), AVal.own (0 : Nat) (0 : Nat) (0 : Nat) (0 : Nat) (1 : Nat)), ((9 : Nat), AVal.ro (Cont.ints IntKind.i64 l) l.length (1 : Nat)), ((10 : Nat), AVal.int IntKind.i64 (↑l.length : Int)), ((11 : Nat), AVal.int IntKind.i64 (0 : Int))] [{ c := BC.typ (Cont.ints IntKind.i64 (List.replicate (0 : Nat) (0 : Int))), ver := (0 : Nat) }])) := by kernel_rfl
theorem round (l ps zs : List Int) (i f n : Nat) :
  L f (n + 1) (mkS 26 [(1, .ro (.ints .i64 ps) ps.length 1), (5, .own 0 0 zs.length 0 1), (9, .ro (.ints .i64 l) l.length 1), (10, .int .i64 l.length), (11, .int .i64 i)] [⟨.typ (.ints .i64 zs), 0⟩])
  = (bif decide ((↑i : Int) < (↑l.length : Int)) then bif true && (decide ((0 : Int) ≤ (↑i : Int)) && decide ((↑i : Int) < (↑l.length : Int))) then bif decide ((↑i : Int).toNat < l.length) then bif decide (ps.length ≤ ps.length ∧ ps.length ≤ (4611686018427387904 : Nat)) && (true && (true && true) || true && true) then bif !pu.h.sp (List.take ps.length ps) (↑i : Int) then bif (1 : Nat) == (1 : Nat) && (1 : Nat) == (1 : Nat) && (true && (true && true) && (true && true && (decide (zs.length + (List.take (1 : Nat) (List.drop (0 : Nat) ((List.replicate (1 : Nat) (0 : Int)).set (0 : Nat) (gz l (↑i : Int).toNat)))).length ≤ (4611686018427387904 : Nat)) && decide ((zs.length + (List.take (1 : Nat) (List.drop (0 : Nat) ((List.replicate (1 : Nat) (0 : Int)).set (0 : Nat) (gz l (↑i : Int).toNat)))).length) * (8 : Nat) ≤ (140737488355328 : Nat))))) then L f n (mkS (26 : Nat) [((1 : Nat), AVal.ro (Cont.ints IntKind.i64 ps) ps.length (1 : Nat)), ((5 : Nat), AVal.own (0 : Nat) (0 : Nat) (zs.length + (List.take (1 : Nat) (List.drop (0 : Nat) ((List.replicate (1 : Nat) (0 : Int)).set (0 : Nat) (gz l (↑i : Int).toNat)))).length) (0 : Nat) (1 : Nat)), ((9 : Nat), AVal.ro (Cont.ints IntKind.i64 l) l.length (1 : Nat)), ((10 : Nat), AVal.int IntKind.i64 (↑l.length : Int)), ((11 : Nat), AVal.int IntKind.i64 (IntKind.i64.wrap ((↑i : Int) + (1 : Int))))] [{ c := BC.typ (Cont.ints IntKind.i64 (List.take zs.length zs ++ List.take (1 : Nat) (List.drop (0 : Nat) ((List.replicate (1 : Nat) (0 : Int)).set (0 : Nat) (gz l (↑i : Int).toNat))))), ver := (0 : Nat) }]) else none else L f n (mkS (26 : Nat) [((1 : Nat), AVal.ro (Cont.ints IntKind.i64 ps) ps.length (1 : Nat)), ((5 : Nat), AVal.own (0 : Nat) (0 : Nat) zs.length (0 : Nat) (1 : Nat)), ((9 : Nat), AVal.ro (Cont.ints IntKind.i64 l) l.length (1 : Nat)), ((10 : Nat), AVal.int IntKind.i64 (↑l.length : Int)), ((11 : Nat), AVal.int IntKind.i64 (IntKind.i64.wrap ((↑i : Int) + (1 : Int))))] [{ c := BC.typ (Cont.ints IntKind.i64 zs), ver := (0 : Nat) }]) else none else none else none else some (AVal.own (0 : Nat) (0 : Nat) zs.length (0 : Nat) (1 : Nat), [{ c := BC.typ (Cont.ints IntKind.i64 zs), ver := (0 : Nat) }])) := by kernel_rfl
theorem loop (l ps : List Int) (res : List Int) (f : Nat) (hl : l.length ≤ 1000) (hp : ps.length ≤ 1000) : ∀ (d i n : Nat) (zs : List Int), i + d = l.length → d < n → zs.length ≤ i → zs ++ lv.go ps (l.drop i) i = res →
    L f n (mkS 26 [(1, .ro (.ints .i64 ps) ps.length 1), (5, .own 0 0 zs.length 0 1), (9, .ro (.ints .i64 l) l.length 1), (10, .int .i64 l.length), (11, .int .i64 i)] [⟨.typ (.ints .i64 zs), 0⟩]) = some (.own 0 0 res.length 0 1, [⟨.typ (.ints .i64 res), 0⟩]) := by
  have hp4 : ps.length ≤ 4611686018427387904 := by omega
  intro d
  induction d with
  | zero =>
    intro i n zs hi hn hz hres
    obtain ⟨n, rfl⟩ : ∃ k, n = k + 1 := ⟨n - 1, by omega⟩
    obtain rfl : i = l.length := by omega
    have e : l.drop l.length = [] := by simp
    rw [e] at hres
    simp only [lv.go, List.append_nil] at hres
    subst hres
    rw [round]
    simp -implicitDefEqProofs only [Int.lt_irrefl, decide_true, decide_false, Bool.and_self, Bool.or_self, Bool.and_true, Bool.true_and, Bool.and_false, Bool.false_and, Bool.or_true, Bool.true_or, Bool.or_false, Bool.false_or, Bool.not_true, Bool.not_false, cond_true, cond_false]
  | succ d ih =>
    intro i n zs hi hn hz hres
    obtain ⟨n, rfl⟩ : ∃ k, n = k + 1 := ⟨n - 1, by omega⟩
    have h1 : i < l.length := by omega
    have h4 : (0 : Int) ≤ (i : Int) := Int.natCast_nonneg _
    have h5 : (i : Int) < (l.length : Int) := by omega
    have wi : IntKind.i64.wrap ((i : Int) + 1) = ((i + 1 : Nat) : Int) := wrap_nat i (by omega)
    have s1 : zs.length + 1 ≤ 4611686018427387904 := by omega
    have s2 : (zs.length + 1) * 8 ≤ 140737488355328 := by omega
    rw [List.drop_eq_getElem_cons h1] at hres
    simp only [lv.go] at hres
    rw [round]
    cases hh : pu.h.sp ps (i : Int)
    · rw [hh, cond_false] at hres
      have hih := ih (i + 1) n (zs ++ [l[i]]) (by omega) (by omega) (by simp; omega) (by simpa using hres)
      rw [List.length_append] at hih
      simp -implicitDefEqProofs only [h1, h4, h5, wi, s1, s2, hh, hp4, gz_eq h1, one_set, List.length_singleton, List.take_length, Nat.le_refl, Nat.reduceBEq, Int.toNat_natCast, and_self, eq_self, decide_true, decide_false, Bool.and_self, Bool.or_self, Bool.and_true, Bool.true_and, Bool.and_false, Bool.false_and, Bool.or_true, Bool.true_or, Bool.or_false, Bool.false_or, Bool.not_true, Bool.not_false, cond_true, cond_false]
      exact hih
    · rw [hh, cond_true] at hres
      have hih := ih (i + 1) n zs (by omega) (by omega) (by omega) hres
      simp -implicitDefEqProofs only [h1, h4, h5, wi, s1, s2, hh, hp4, gz_eq h1, List.take_length, Nat.le_refl, Nat.reduceBEq, Int.toNat_natCast, and_self, eq_self, decide_true, decide_false, Bool.and_self, Bool.or_self, Bool.and_true, Bool.true_and, Bool.and_false, Bool.false_and, Bool.or_true, Bool.true_or, Bool.or_false, Bool.false_or, Bool.not_true, Bool.not_false, cond_true, cond_false]
      exact hih
theorem run : ∀ args v new, R args = some (true, v, new) → ∃ fuel, runFn Try.prog (orc [⟨47, slContains.R⟩]) hd Dr.std none fuel (bodyOf Try.f34) 26 [4] args [] = some (v, new) := by
  intro args v new h
  unfold R at h
  split at h
  · rename_i l ml ps mp
    simp only [Option.some.injEq, Prod.mk.injEq, decide_eq_true_eq] at h
    obtain ⟨⟨rfl, rfl, h3, h4⟩, rfl, rfl⟩ := h
    refine ⟨l.length + 1, ?_⟩
    obtain ⟨N, hN⟩ : ∃ N : Nat, N = l.length + 1 := ⟨_, rfl⟩
    rw [← hN, start]
    exact loop l ps (lv.sv l ps) N h3 h4 l.length 0 N [] (by omega) (by omega) (Nat.zero_le _) rfl
  · cases h
theorem ok : EntOk Try.prog ⟨34, R⟩ :=
  ent_okA mixed (A := (orc [⟨47, slContains.R⟩])) (orc_ok (by simp only [List.mem_cons, List.not_mem_nil, or_false, forall_eq_or_imp, forall_eq]; exact slContains.ok)) Try.func34 (by kernel_rfl) (by kernel_rfl) (n := 26) (ts := [4]) (hd := hd) (dr := Dr.std) (cut := none) (by kernel_rfl) (by kernel_rfl) (by kernel_rfl) run
end leave



end Go.Proofs.Ytfbalfhekldkbaa.Ab
