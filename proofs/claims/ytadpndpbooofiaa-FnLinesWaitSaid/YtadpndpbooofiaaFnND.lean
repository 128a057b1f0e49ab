/-
  Functions: the law of lines that wait.
-/
import Derived.Test.YtadpndpbooofiaaFnNC
namespace Go.Proofs.Ytadpndpbooofiaa.Ab
open Go
set_option linter.unusedVariables false
set_option linter.unusedSimpArgs false
set_option maxRecDepth 100000

namespace lw
theorem sum_acc (xs : List Int) : ∀ (os : List Int) (s a : Int), sf.sum.sv xs os s a = acc (os.map fun o => gz xs o.toNat) s a := by
  intro os
  induction os with
  | nil => intro s a; rfl
  | cons o os ih => intro s a; simp only [sf.sum.sv, List.map_cons, acc]; exact ih _ _
theorem cq_map (xs : List Int) : ((cq.sv xs.length).map fun o => gz xs o.toNat) = xs := by
  refine List.ext_getElem (by rw [List.length_map, cq.sv_length]) fun i h1 h2 => ?_
  rw [List.getElem_map]
  simp only [cq.sv, List.getElem_map, List.getElem_range, Int.toNat_natCast]
  exact gz_eq h2
theorem O_perm (xs : List Int) : ((sf.O.sv xs).map fun o => gz xs o.toNat).Perm xs := by
  have := (ss.ms_perm xs (cq.sv xs.length)).map fun o => gz xs o.toNat
  rw [cq_map] at this
  exact this
theorem O_sorted (xs : List Int) : ((sf.O.sv xs).map fun o => gz xs o.toNat).Pairwise (· ≤ ·) := by
  refine List.pairwise_map.2 (List.Pairwise.imp ?_ (ss.ms_sorted xs (cq.sv xs.length)))
  intro a b h
  rw [ss.le_iff] at h
  omega
theorem O_nodup (xs : List Int) : (sf.O.sv xs).Nodup := by
  refine (ss.ms_perm xs (cq.sv xs.length)).nodup_iff.2 ?_
  unfold cq.sv
  refine List.pairwise_map.2 (List.Pairwise.imp ?_ List.nodup_range)
  intro a b h e
  exact h (by omega)
theorem O_new {xs : List Int} {i : Nat} (h : i < (sf.O.sv xs).length) : (((sf.O.sv xs).take i).any fun y => y == gz (sf.O.sv xs) i) = false := by
  rw [List.any_eq_false]
  intro y hy
  rw [gz_eq h]
  obtain ⟨j, hj, rfl⟩ := List.mem_iff_getElem.1 hy
  rw [List.length_take] at hj
  rw [List.getElem_take]
  have := List.pairwise_iff_getElem.1 (O_nodup xs) j i (by omega) h (by omega)
  simpa using this
/-! When they come. -/
def pre : List Int → Int → List Int
  | [], _ => []
  | g :: gs, a => IntKind.i64.wrap (a + g) :: pre gs (IntKind.i64.wrap (a + g))
def lst : List Int → Int → Int
  | [], a => a
  | g :: gs, a => lst gs (IntKind.i64.wrap (a + g))
theorem pre_ok : ∀ (l : List Int) (a : Int), Bd 3 l → 0 ≤ a → a + 3 * (l.length : Int) ≤ 1000000 → (pre l a).length = l.length ∧ (∀ x ∈ pre l a, a ≤ x ∧ x ≤ 1000000) ∧ (pre l a).Pairwise (· ≤ ·) := by
  intro l
  induction l with
  | nil => intro a _ _ _; exact ⟨rfl, (fun x hx => by cases hx), List.Pairwise.nil⟩
  | cons g gs ih =>
    intro a hb h0 h1
    have hg := hb g List.mem_cons_self
    rw [List.length_cons] at h1
    push_cast at h1
    have hn : (0 : Int) ≤ (gs.length : Int) := Int.natCast_nonneg _
    simp only [pre]
    rw [IntWalk.i64_in (a + g) (by omega)]
    obtain ⟨i1, i2, i3⟩ := ih (a + g) (fun x hx => hb x (List.mem_cons_of_mem _ hx)) (by omega) (by omega)
    refine ⟨by rw [List.length_cons, List.length_cons, i1], fun x hx => ?_, List.pairwise_cons.2 ⟨fun x hx => (i2 x hx).1, i3⟩⟩
    rcases List.mem_cons.1 hx with rfl | hx
    · omega
    · have := i2 x hx; omega
theorem dn_of {xs : List Int} (h : xs.Pairwise (· ≤ ·)) : ∀ i, i < xs.length → srt.dn xs i = true := by
  intro i
  induction i with
  | zero => intro _; rfl
  | succ i ih =>
    intro hi
    have h2 : i < xs.length := by omega
    have := List.pairwise_iff_getElem.1 h i (i + 1) h2 hi (by omega)
    simp only [srt.dn]
    rw [gz_eq hi, gz_eq h2, ih h2, decide_eq_false (by omega)]
    rfl
theorem srt_of {xs : List Int} (h : xs.Pairwise (· ≤ ·)) : srt.sp xs = true := by
  unfold srt.sp
  by_cases c : 0 < xs.length
  · exact dn_of h _ (by omega)
  · have : xs.length - 1 = 0 := by omega
    rw [this]; rfl
theorem sum_bd {K : Int} : ∀ (l : List Int), Bd K l → 0 ≤ l.sum ∧ l.sum ≤ (l.length : Int) * K := by
  intro l
  induction l with
  | nil => intro _; simp
  | cons x r ih =>
    intro h
    have hx := h x List.mem_cons_self
    have := ih fun y hy => h y (List.mem_cons_of_mem _ hy)
    rw [List.sum_cons, List.length_cons]
    push_cast
    rw [Int.add_mul, Int.one_mul]
    omega
theorem sum_le_gz : ∀ (a b : List Int), a.length = b.length → (∀ i, gz a i ≤ gz b i) → a.sum ≤ b.sum := by
  intro a
  induction a with
  | nil => intro b h _; match b, h with
    | [], _ => exact Int.le_refl _
  | cons x a ih =>
    intro b h hi
    match b, h with
    | y :: b, h =>
      have h0 : x ≤ y := hi 0
      have := ih b (by simpa using h) fun i => hi (i + 1)
      rw [List.sum_cons, List.sum_cons]
      omega
theorem rep_le (v : Int) (d : Nat) : le v (List.replicate d 0) = if 0 ≤ v then d else 0 := by
  unfold le
  rw [List.countP_replicate]
  simp
/-- What holds of a line. -/
structure Line (cm tk st fa od : List Int) (dk wa le : Int) : Prop where
  lc : cm.length ≤ 64
  lt : tk.length = cm.length
  ls : st.length = cm.length
  lf : fa.length = cm.length
  lo : od.length = cm.length
  bt : Bd 1000000 tk
  bs : Bd 1000000000 st
  come : ∀ i, i < cm.length → gz cm i ≤ gz st i
  rise : ∀ i, 0 < i → i < cm.length → gz st (i - 1) ≤ gz st i
  busy : ∀ i, i < cm.length → (gt (gz st i) ((List.zipWith (· + ·) st tk).take i) : Int) < dk
  fast : ∀ i, gz fa i ≤ gz st i
  sum : ln.dif st cm 0 = wa
  new : ∀ i, i < cm.length → 0 ≤ gz od i ∧ gz od i < (cm.length : Int) ∧ ((od.take i).any fun y => y == gz od i) = false
  least : le = acc (od.map fun o => gz tk o.toNat) 0 0
  most : le ≤ acc tk 0 0
theorem sp_of {cm tk : List Int} {d : Int} (hc : cm.length ≤ 64) (hl : tk.length = cm.length) (bc : Bd 1000000 cm) (bt : Bd 1000000 tk) (hp : cm.Pairwise (· ≤ ·)) (h1 : 1 ≤ d) (h2 : d ≤ 8) : ln.sp cm tk d = true := by
  have a1 : cm.all ln.tm.sp = true := by
    rw [List.all_eq_true]; intro x hx; have := bc x hx; simp only [ln.tm.sp, Bool.and_eq_true, decide_eq_true_eq]; exact this
  have a2 : tk.all ln.tm.sp = true := by
    rw [List.all_eq_true]; intro x hx; have := bt x hx; simp only [ln.tm.sp, Bool.and_eq_true, decide_eq_true_eq]; exact this
  unfold ln.sp
  simp only [hc, hl, a1, a2, srt_of hp, h1, h2, decide_true, Bool.and_self]
theorem line {cm tk : List Int} {d : Int} (hc : cm.length ≤ 64) (hl : tk.length = cm.length) (bc : Bd 1000000 cm) (bt : Bd 1000000 tk) (hp : cm.Pairwise (· ≤ ·)) (h1 : 1 ≤ d) (h2 : d ≤ 7) :
    Line cm tk (ln.sv cm tk d) (ln.sv cm tk (d + 1)) (sf.O.sv tk) d (ln.wait.sv cm tk d) (sf.S.sv tk) ∧ ln.wait.sv cm tk (d + 1) ≤ ln.wait.sv cm tk d := by
  have rb : ∀ k : Nat, Bd 1000000 (List.replicate k 0) := fun k x hx => by
    have := List.eq_of_mem_replicate hx; omega
  have l1 : 0 < (List.replicate d.toNat (0 : Int)).length := by rw [List.length_replicate]; omega
  have l2 : 0 < (List.replicate (d + 1).toNat (0 : Int)).length := by rw [List.length_replicate]; omega
  have hK : (1000000 : Int) + (cm.length : Int) * 1000000 ≤ 1000000000 := by omega
  obtain ⟨r1, r2, r3⟩ := rises cm tk _ 1000000 l1 (rb _) bc bt hl.symm hK hp
  obtain ⟨s1, s2, s3⟩ := rises cm tk _ 1000000 l2 (rb _) bc bt hl.symm hK hp
  have gl1 : (ln.sv cm tk d).length = cm.length := ln.go_length cm tk _ hl.symm
  have gl2 : (ln.sv cm tk (d + 1)).length = cm.length := ln.go_length cm tk _ hl.symm
  have hD : Dom (List.replicate d.toNat 0) (List.replicate (d + 1).toNat 0) := fun v => by
    rw [rep_le, rep_le]; split <;> omega
  have hf := faster cm tk _ _ 1000000 l1 l2 (rb _) (rb _) bc bt hK hD
  have hb := busy cm tk (List.replicate d.toNat 0) [] 1000000 l1 (rb _) bc bt hl.symm hK (fun v hv => by simp [gt])
  have sp1 := sp_of hc hl bc bt hp h1 (by omega)
  have sp2 := sp_of (d := d + 1) hc hl bc bt hp (by omega) (by omega)
  have hcs := sum_bd cm bc
  have hs1 := sum_bd _ r3
  have hs2 := sum_bd _ s3
  have hsl : (ln.go (List.replicate (d + 1).toNat 0) cm tk).sum ≤ (ln.go (List.replicate d.toNat 0) cm tk).sum := sum_le_gz _ _ (gl2.trans gl1.symm) hf
  have gl1' : (ln.go (List.replicate d.toNat 0) cm tk).length = cm.length := gl1
  have gl2' : (ln.go (List.replicate (d + 1).toNat 0) cm tk).length = cm.length := gl2
  rw [gl1'] at hs1
  rw [gl2'] at hs2
  have w1 : ln.wait.sv cm tk d = (ln.sv cm tk d).sum - cm.sum := by
    unfold ln.wait.sv
    rw [sp1, cond_true]
    exact IntWalk.i64_in _ (by unfold ln.sv; omega)
  have w2 : ln.wait.sv cm tk (d + 1) = (ln.sv cm tk (d + 1)).sum - cm.sum := by
    unfold ln.wait.sv
    rw [sp2, cond_true]
    exact IntWalk.i64_in _ (by unfold ln.sv; omega)
  have hO : ss.inr tk.length (sf.O.sv tk) := sf.O_inr tk
  have hol := sf.O_length tk
  have hS : sf.S.sv tk = acc ((sf.O.sv tk).map fun o => gz tk o.toNat) 0 0 := sum_acc tk _ 0 0
  have bo : Bd 1000000 ((sf.O.sv tk).map fun o => gz tk o.toNat) := fun x hx => bt x ((O_perm tk).mem_iff.1 hx)
  have lo : ((sf.O.sv tk).map fun o => gz tk o.toNat).length = tk.length := by rw [List.length_map, hol]
  refine ⟨⟨hc, hl, gl1, gl2, by rw [hol, hl], bt, r3, r2, fun i h0 hi => ?_, fun i hi => ?_, hf, ?_, fun i hi => ?_, hS, ?_⟩, by rw [w1, w2]; unfold ln.sv; omega⟩
  · have a1 : i - 1 < (ln.sv cm tk d).length := by omega
    have a2 : i < (ln.sv cm tk d).length := by omega
    rw [gz_eq a1, gz_eq a2]
    exact List.pairwise_iff_getElem.1 r1 (i - 1) i a1 a2 (by omega)
  · have := hb i hi
    rw [List.nil_append, List.length_replicate] at this
    unfold ln.sv
    omega
  · rw [ln.dif_eq _ _ _ gl1 (by decide), w1]
    unfold ln.sv
    rw [Int.zero_add]
    exact IntWalk.i64_in _ (by omega)
  · have a1 : i < (sf.O.sv tk).length := by omega
    obtain ⟨o1, o2⟩ := ss.inr_gz hO a1
    exact ⟨o1, by omega, O_new a1⟩
  · rw [hS, acc_eq _ _ _ bo (Int.le_refl _) (Int.le_refl _) (by rw [lo]; omega) (by rw [lo]; omega), acc_eq _ _ _ bt (Int.le_refl _) (Int.le_refl _) (by omega) (by omega)]
    have := least (O_perm tk) (O_sorted tk)
    omega
end lw

namespace lnw
theorem loop0 (ys tk gp : List Int) (f : Nat) (hg : gp.length ≤ 1000) : ∀ (d i n : Nat) (a : Int) (cm : List Int), i + d = gp.length → cm.length = i → d < n →
    ∃ n2 b, L0 f n (mkS 279 [(1, .ro (.ints .u8 ys) ys.length 1), (4, .bool false), (5, .int .i64 ((gp.length : Nat) : Int)), (6, .own 0 0 tk.length 0 1), (7, .own 1 0 gp.length 0 1), (8, .own 2 0 cm.length 0 1), (9, .int .i64 a), (10, .int .i64 ((i : Nat) : Int))] [⟨.typ (.ints .i64 tk), 0⟩, ⟨.typ (.ints .i64 gp), 0⟩, ⟨.typ (.ints .i64 cm), 0⟩]) = L0 f (n2 + 1) (mkS 279 [(1, .ro (.ints .u8 ys) ys.length 1), (4, .bool false), (5, .int .i64 ((gp.length : Nat) : Int)), (6, .own 0 0 tk.length 0 1), (7, .own 1 0 gp.length 0 1), (8, .own 2 0 (cm ++ lw.pre (gp.drop i) a).length 0 1), (9, .int .i64 b), (10, .int .i64 ((gp.length : Nat) : Int))] [⟨.typ (.ints .i64 tk), 0⟩, ⟨.typ (.ints .i64 gp), 0⟩, ⟨.typ (.ints .i64 (cm ++ lw.pre (gp.drop i) a)), 0⟩]) := by
  intro d
  induction d with
  | zero =>
    intro i n a cm hi hl hn
    obtain ⟨n, rfl⟩ : ∃ k, n = k + 1 := ⟨n - 1, by omega⟩
    obtain rfl : i = gp.length := by omega
    refine ⟨n, a, ?_⟩
    rw [List.drop_length]
    simp only [lw.pre, List.append_nil]
  | succ d ih =>
    intro i n a cm hi hl hn
    obtain ⟨n, rfl⟩ : ∃ k, n = k + 1 := ⟨n - 1, by omega⟩
    have h1 : i < gp.length := by omega
    have h4 : (0 : Int) ≤ (i : Int) := Int.natCast_nonneg _
    have h5 : (i : Int) < (gp.length : Int) := by omega
    have wi : IntKind.i64.wrap ((i : Int) + 1) = ((i + 1 : Nat) : Int) := wrap_nat i (by omega)
    have k0 : cm.length + 1 ≤ 4611686018427387904 := by omega
    have k1 : (cm.length + 1) * 8 ≤ 140737488355328 := by omega
    have one : ∀ v : Int, (List.replicate 1 (0 : Int)).set 0 v = [v] := fun v => rfl
    have e : gp.drop i = gz gp i :: gp.drop (i + 1) := by rw [List.drop_eq_getElem_cons h1, gz_eq h1]
    obtain ⟨n2, b, hb⟩ := ih (i + 1) n (IntKind.i64.wrap (a + gz gp i)) (cm ++ [IntKind.i64.wrap (a + gz gp i)]) (by omega) (by rw [List.length_append, List.length_singleton]; omega) (by omega)
    refine ⟨n2, b, ?_⟩
    rw [e]
    simp only [lw.pre]
    rw [List.append_assoc, List.singleton_append] at hb
    rw [← hb, round0 (xs := [])]
    simp -implicitDefEqProofs only [h1, h4, h5, wi, k0, k1, one, List.drop_zero, List.take_length, List.length_append, List.length_singleton, List.take_succ_cons, List.take_zero, Nat.reduceBEq, Int.toNat_natCast, decide_true, decide_false, Bool.and_self, Bool.or_self, Bool.and_true, Bool.true_and, Bool.and_false, Bool.false_and, Bool.or_true, Bool.true_or, Bool.or_false, Bool.false_or, Bool.not_true, Bool.not_false, cond_true, cond_false]
theorem loop6 (tk gp cm st fa od : List Int) (dk wa le : Int) (f : Nat) (K : lw.Line cm tk st fa od dk wa le) : ∀ (d i n : Nat) (p q r s : Int), i + d = cm.length → d < n → le = lw.acc ((od.drop i).map fun o => gz tk o.toNat) q s → le ≤ lw.acc (tk.drop i) p r →
    L6 f n (mkS 279 [(4, .bool false), (5, .int .i64 ((cm.length : Nat) : Int)), (6, .own 0 0 tk.length 0 1), (16, .int .i64 wa), (20, .own 5 0 od.length 0 1), (21, .int .i64 le), (23, .int .i64 wa), (27, .int .i64 p), (28, .int .i64 q), (29, .int .i64 r), (30, .int .i64 s), (31, .int .i64 ((i : Nat) : Int))] [⟨.typ (.ints .i64 tk), 0⟩, ⟨.typ (.ints .i64 gp), 0⟩, ⟨.typ (.ints .i64 cm), 0⟩, ⟨.typ (.ints .i64 st), 0⟩, ⟨.typ (.ints .i64 fa), 0⟩, ⟨.typ (.ints .i64 od), 0⟩]) = some (.bool true, [⟨.typ (.ints .i64 tk), 0⟩, ⟨.typ (.ints .i64 gp), 0⟩, ⟨.typ (.ints .i64 cm), 0⟩, ⟨.typ (.ints .i64 st), 0⟩, ⟨.typ (.ints .i64 fa), 0⟩, ⟨.typ (.ints .i64 od), 0⟩]) := by
  have hlc := K.lc
  have hlt := K.lt
  have hlo := K.lo
  intro d
  induction d with
  | zero =>
    intro i n p q r s hi hn h1 h2
    obtain ⟨n, rfl⟩ : ∃ k, n = k + 1 := ⟨n - 1, by omega⟩
    obtain rfl : i = cm.length := by omega
    have e1 : od.drop cm.length = [] := List.drop_of_length_le (by omega)
    have e2 : tk.drop cm.length = [] := List.drop_of_length_le (by omega)
    rw [e1] at h1
    rw [e2] at h2
    simp only [List.map_nil, lw.acc] at h1 h2
    subst h1
    rw [round6 (dk := 0) (bz := 0) (j := 0) (n2 := 0)]
    simp -implicitDefEqProofs only [Int.lt_irrefl, beq_self_eq_true, h2, decide_true, decide_false, Bool.and_self, Bool.or_self, Bool.and_true, Bool.true_and, Bool.and_false, Bool.false_and, Bool.or_true, Bool.true_or, Bool.or_false, Bool.false_or, Bool.not_true, Bool.not_false, cond_true, cond_false]
  | succ d ih =>
    intro i n p q r s hi hn h1 h2
    obtain ⟨n, rfl⟩ : ∃ k, n = k + 1 := ⟨n - 1, by omega⟩
    have a1 : i < od.length := by omega
    have a2 : i < tk.length := by omega
    have h4 : (0 : Int) ≤ (i : Int) := Int.natCast_nonneg _
    have c1 : (i : Int) < ((cm.length : Nat) : Int) := by omega
    have c2 : (i : Int) < (od.length : Int) := by omega
    have c3 : (i : Int) < (tk.length : Int) := by omega
    have c4 : (i : Int) ≤ (od.length : Int) := by omega
    have wi : IntKind.i64.wrap ((i : Int) + 1) = ((i + 1 : Nat) : Int) := wrap_nat i (by omega)
    obtain ⟨o1, o2, o3⟩ := K.new i (by omega)
    have o4 : ¬ (gz od i < 0) := by omega
    have o5 : ¬ (((cm.length : Nat) : Int) ≤ gz od i) := by omega
    have o6 : gz od i < (tk.length : Int) := by omega
    have o7 : (gz od i).toNat < tk.length := by omega
    have g1 : i ≤ od.length := by omega
    have g2 : i ≤ 4611686018427387904 := by omega
    have e1 : od.drop i = gz od i :: od.drop (i + 1) := by rw [List.drop_eq_getElem_cons a1, gz_eq a1]
    have e2 : tk.drop i = gz tk i :: tk.drop (i + 1) := by rw [List.drop_eq_getElem_cons a2, gz_eq a2]
    rw [e1] at h1
    rw [e2] at h2
    simp only [List.map_cons, lw.acc] at h1 h2
    have hih := ih (i + 1) n _ _ _ _ (by omega) (by omega) h1 h2
    rw [round6 (dk := 0) (bz := 0) (j := 0) (n2 := 0)]
    simp -implicitDefEqProofs only [a1, a2, h4, c1, c2, c3, c4, wi, o1, o3, o4, o5, o6, o7, g1, g2, Nat.sub_zero, Int.toNat_natCast, and_self, decide_true, decide_false, Bool.and_self, Bool.or_self, Bool.and_true, Bool.true_and, Bool.and_false, Bool.false_and, Bool.or_true, Bool.true_or, Bool.or_false, Bool.false_or, Bool.not_true, Bool.not_false, cond_true, cond_false]
    exact hih
theorem loop4 (tk gp cm st fa od : List Int) (dk wa le sm : Int) (f n i : Nat) (K : lw.Line cm tk st fa od dk wa le) (hi : i < cm.length) : ∀ (d j n2 : Nat) (bz : Int), j + d = i → d < n2 → 0 ≤ bz → bz ≤ (j : Int) → bz + ((((List.zipWith (· + ·) st tk).take i).drop j).countP (fun x => decide (gz st i < x)) : Nat) < dk →
    L4 f n n2 (mkS 279 [(4, .bool false), (5, .int .i64 ((cm.length : Nat) : Int)), (6, .own 0 0 tk.length 0 1), (8, .own 2 0 cm.length 0 1), (11, .int .i64 dk), (12, .own 3 0 st.length 0 1), (14, .own 4 0 fa.length 0 1), (16, .int .i64 wa), (20, .own 5 0 od.length 0 1), (21, .int .i64 le), (23, .int .i64 sm), (24, .int .i64 ((i : Nat) : Int)), (25, .int .i64 bz), (26, .int .i64 ((j : Nat) : Int))] [⟨.typ (.ints .i64 tk), 0⟩, ⟨.typ (.ints .i64 gp), 0⟩, ⟨.typ (.ints .i64 cm), 0⟩, ⟨.typ (.ints .i64 st), 0⟩, ⟨.typ (.ints .i64 fa), 0⟩, ⟨.typ (.ints .i64 od), 0⟩]) = L2 f n (mkS 279 [(4, .bool false), (5, .int .i64 ((cm.length : Nat) : Int)), (6, .own 0 0 tk.length 0 1), (8, .own 2 0 cm.length 0 1), (11, .int .i64 dk), (12, .own 3 0 st.length 0 1), (14, .own 4 0 fa.length 0 1), (16, .int .i64 wa), (20, .own 5 0 od.length 0 1), (21, .int .i64 le), (23, .int .i64 (IntKind.i64.wrap (sm + IntKind.i64.wrap (gz st i - gz cm i)))), (24, .int .i64 ((i + 1 : Nat) : Int))] [⟨.typ (.ints .i64 tk), 0⟩, ⟨.typ (.ints .i64 gp), 0⟩, ⟨.typ (.ints .i64 cm), 0⟩, ⟨.typ (.ints .i64 st), 0⟩, ⟨.typ (.ints .i64 fa), 0⟩, ⟨.typ (.ints .i64 od), 0⟩]) := by
  have hlc := K.lc
  have hlt := K.lt
  have hls := K.ls
  have hlf := K.lf
  have hz : (List.zipWith (· + ·) st tk).length = cm.length := by rw [List.length_zipWith]; omega
  have b1 : i < st.length := by omega
  have b2 : i < cm.length := hi
  have b3 : i < fa.length := by omega
  have h4 : (0 : Int) ≤ (i : Int) := Int.natCast_nonneg _
  have c1 : (i : Int) < (st.length : Int) := by omega
  have c2 : (i : Int) < (cm.length : Int) := by omega
  have c3 : (i : Int) < (fa.length : Int) := by omega
  have wi : IntKind.i64.wrap ((i : Int) + 1) = ((i + 1 : Nat) : Int) := wrap_nat i (by omega)
  intro d
  induction d with
  | zero =>
    intro j n2 bz hj hn h0 hj2 hb
    obtain ⟨n2, rfl⟩ : ∃ k, n2 = k + 1 := ⟨n2 - 1, by omega⟩
    obtain rfl : j = i := by omega
    have hb2 : ¬ (dk ≤ bz) := by omega
    have k1 := K.come j hi
    have k2 := K.fast j
    have k3 : ¬ (gz st j < gz cm j) := by omega
    have k4 : ¬ (gz st j < gz fa j) := by omega
    by_cases z : 0 < j
    · have z1 : (0 : Int) < (j : Int) := by omega
      have wj : IntKind.i64.wrap ((j : Int) - 1) = ((j - 1 : Nat) : Int) := by rw [IntWalk.i64_in _ (by omega)]; omega
      have k5 := K.rise j z hi
      have k6 : ¬ (gz st j < gz st (j - 1)) := by omega
      have d1 : (0 : Int) ≤ ((j - 1 : Nat) : Int) := Int.natCast_nonneg _
      have d2 : ((j - 1 : Nat) : Int) < (st.length : Int) := by omega
      have d3 : j - 1 < st.length := by omega
      rw [round4 (p := 0) (q := 0) (r := 0) (s := 0)]
      simp -implicitDefEqProofs only [Int.lt_irrefl, b1, b2, b3, h4, c1, c2, c3, wi, hb2, k3, k4, z1, wj, k6, d1, d2, d3, Int.toNat_natCast, decide_true, decide_false, Bool.and_self, Bool.or_self, Bool.and_true, Bool.true_and, Bool.and_false, Bool.false_and, Bool.or_true, Bool.true_or, Bool.or_false, Bool.false_or, Bool.not_true, Bool.not_false, cond_true, cond_false]
    · have z1 : ¬ ((0 : Int) < (j : Int)) := by omega
      rw [round4 (p := 0) (q := 0) (r := 0) (s := 0)]
      simp -implicitDefEqProofs only [Int.lt_irrefl, b1, b2, b3, h4, c1, c2, c3, wi, hb2, k3, k4, z1, Int.toNat_natCast, decide_true, decide_false, Bool.and_self, Bool.or_self, Bool.and_true, Bool.true_and, Bool.and_false, Bool.false_and, Bool.or_true, Bool.true_or, Bool.or_false, Bool.false_or, Bool.not_true, Bool.not_false, cond_true, cond_false]
  | succ d ih =>
    intro j n2 bz hj hn h0 hj2 hb
    obtain ⟨n2, rfl⟩ : ∃ k, n2 = k + 1 := ⟨n2 - 1, by omega⟩
    have a1 : j < st.length := by omega
    have a2 : j < tk.length := by omega
    have a0 : (0 : Int) ≤ (j : Int) := Int.natCast_nonneg _
    have a3 : (j : Int) < (st.length : Int) := by omega
    have a4 : (j : Int) < (tk.length : Int) := by omega
    have a5 : (j : Int) < (i : Int) := by omega
    have wj : IntKind.i64.wrap ((j : Int) + 1) = ((j + 1 : Nat) : Int) := wrap_nat j (by omega)
    have wb : IntKind.i64.wrap (bz + 1) = bz + 1 := IntWalk.i64_in _ (by omega)
    have s1 := K.bs _ (List.getElem_mem a1)
    have s2 := K.bt _ (List.getElem_mem a2)
    have ws : IntKind.i64.wrap (gz st j + gz tk j) = gz st j + gz tk j := by rw [gz_eq a1, gz_eq a2]; exact IntWalk.i64_in _ (by omega)
    have hlen : j < ((List.zipWith (· + ·) st tk).take i).length := by rw [List.length_take]; omega
    have e : ((List.zipWith (· + ·) st tk).take i).drop j = (gz st j + gz tk j) :: ((List.zipWith (· + ·) st tk).take i).drop (j + 1) := by
      rw [List.drop_eq_getElem_cons hlen, List.getElem_take, List.getElem_zipWith, gz_eq a1, gz_eq a2]
    rw [e, List.countP_cons] at hb
    rw [round4 (p := 0) (q := 0) (r := 0) (s := 0)]
    by_cases hc : gz st i < gz st j + gz tk j
    · rw [if_pos (by simpa using hc)] at hb
      have hih := ih (j + 1) n2 (bz + 1) (by omega) (by omega) (by omega) (by omega) (by omega)
      simp -implicitDefEqProofs only [a1, a2, a0, a3, a4, a5, b1, h4, c1, wj, wb, ws, hc, Int.toNat_natCast, decide_true, decide_false, Bool.and_self, Bool.or_self, Bool.and_true, Bool.true_and, Bool.and_false, Bool.false_and, Bool.or_true, Bool.true_or, Bool.or_false, Bool.false_or, Bool.not_true, Bool.not_false, cond_true, cond_false]
      exact hih
    · rw [if_neg (by simpa using hc)] at hb
      have hih := ih (j + 1) n2 bz (by omega) (by omega) h0 (by omega) (by omega)
      simp -implicitDefEqProofs only [a1, a2, a0, a3, a4, a5, b1, h4, c1, wj, wb, ws, hc, Int.toNat_natCast, decide_true, decide_false, Bool.and_self, Bool.or_self, Bool.and_true, Bool.true_and, Bool.and_false, Bool.false_and, Bool.or_true, Bool.true_or, Bool.or_false, Bool.false_or, Bool.not_true, Bool.not_false, cond_true, cond_false]
      exact hih
theorem loop2 (tk gp cm st fa od : List Int) (dk wa le : Int) (f : Nat) (hf : 64 < f) (K : lw.Line cm tk st fa od dk wa le) : ∀ (d i n : Nat) (sm : Int), i + d = cm.length → d < n →
    L2 f n (mkS 279 [(4, .bool false), (5, .int .i64 ((cm.length : Nat) : Int)), (6, .own 0 0 tk.length 0 1), (8, .own 2 0 cm.length 0 1), (11, .int .i64 dk), (12, .own 3 0 st.length 0 1), (14, .own 4 0 fa.length 0 1), (16, .int .i64 wa), (20, .own 5 0 od.length 0 1), (21, .int .i64 le), (23, .int .i64 sm), (24, .int .i64 ((i : Nat) : Int))] [⟨.typ (.ints .i64 tk), 0⟩, ⟨.typ (.ints .i64 gp), 0⟩, ⟨.typ (.ints .i64 cm), 0⟩, ⟨.typ (.ints .i64 st), 0⟩, ⟨.typ (.ints .i64 fa), 0⟩, ⟨.typ (.ints .i64 od), 0⟩]) = L6 f f (mkS 279 [(4, .bool false), (5, .int .i64 ((cm.length : Nat) : Int)), (6, .own 0 0 tk.length 0 1), (16, .int .i64 wa), (20, .own 5 0 od.length 0 1), (21, .int .i64 le), (23, .int .i64 (ln.dif (st.drop i) (cm.drop i) sm)), (27, .int .i64 0), (28, .int .i64 0), (29, .int .i64 0), (30, .int .i64 0), (31, .int .i64 ((0 : Nat) : Int))] [⟨.typ (.ints .i64 tk), 0⟩, ⟨.typ (.ints .i64 gp), 0⟩, ⟨.typ (.ints .i64 cm), 0⟩, ⟨.typ (.ints .i64 st), 0⟩, ⟨.typ (.ints .i64 fa), 0⟩, ⟨.typ (.ints .i64 od), 0⟩]) := by
  have hlc := K.lc
  have hls := K.ls
  intro d
  induction d with
  | zero =>
    intro i n sm hi hn
    obtain ⟨n, rfl⟩ : ∃ k, n = k + 1 := ⟨n - 1, by omega⟩
    obtain rfl : i = cm.length := by omega
    have e1 : st.drop cm.length = [] := List.drop_of_length_le (by omega)
    have e2 : cm.drop cm.length = [] := List.drop_length
    rw [e1, e2, round2 (bz := 0) (p := 0) (q := 0) (r := 0) (s := 0) (j := 0) (n2 := 0)]
    simp -implicitDefEqProofs only [Int.lt_irrefl, ln.dif, decide_true, decide_false, Bool.and_self, Bool.or_self, Bool.and_true, Bool.true_and, Bool.and_false, Bool.false_and, Bool.or_true, Bool.true_or, Bool.or_false, Bool.false_or, Bool.not_true, Bool.not_false, cond_true, cond_false]
    try rfl
  | succ d ih =>
    intro i n sm hi hn
    obtain ⟨n, rfl⟩ : ∃ k, n = k + 1 := ⟨n - 1, by omega⟩
    have a1 : i < st.length := by omega
    have a2 : i < cm.length := by omega
    have c1 : (i : Int) < ((cm.length : Nat) : Int) := by omega
    have e1 : st.drop i = gz st i :: st.drop (i + 1) := by rw [List.drop_eq_getElem_cons a1, gz_eq a1]
    have e2 : cm.drop i = gz cm i :: cm.drop (i + 1) := by rw [List.drop_eq_getElem_cons a2, gz_eq a2]
    have hb := K.busy i a2
    have h4 := loop4 tk gp cm st fa od dk wa le sm f n i K a2 i 0 f 0 (by omega) (by omega) (Int.le_refl _) (Int.le_refl _) (by rw [List.drop_zero, Int.zero_add]; exact hb)
    have hih := ih (i + 1) n (IntKind.i64.wrap (sm + IntKind.i64.wrap (gz st i - gz cm i))) (by omega) (by omega)
    rw [e1, e2, round2 (bz := 0) (p := 0) (q := 0) (r := 0) (s := 0) (j := 0) (n2 := 0)]
    simp only [ln.dif]
    simp -implicitDefEqProofs only [c1, decide_true, decide_false, Bool.and_self, Bool.or_self, Bool.and_true, Bool.true_and, Bool.and_false, Bool.false_and, Bool.or_true, Bool.true_or, Bool.or_false, Bool.false_or, Bool.not_true, Bool.not_false, cond_true, cond_false]
    exact h4.trans hih
theorem run : ∀ args v new, R args = some (true, v, new) → ∃ fuel, regc [] (runFn Try.prog (orc [⟨18, r8Long.R⟩, ⟨19, r8At.R⟩, ⟨20, R8Below.R⟩, ⟨21, iLineOf.Rt⟩, ⟨22, iWaitOf.R⟩, ⟨17, iShortestFirst.Rt⟩, ⟨23, r8Has.R⟩]) hd Dr.std none fuel (bodyOf Try.f6) 279 [4] args []) = some (v, new) := by
  intro args v new h
  unfold R at h
  split at h
  · rename_i xs m ys k
    simp only [Option.some.injEq, Prod.mk.injEq, Bool.and_eq_true, decide_eq_true_eq] at h
    obtain ⟨⟨⟨rfl, rfl⟩, hx, hy⟩, rfl, rfl⟩ := h
    obtain ⟨F, hF⟩ : ∃ F : Nat, F = 1000 := ⟨1000, rfl⟩
    refine ⟨F, ?_⟩
    rw [start]
    by_cases c1 : (48 : Int) < (xs.length : Int)
    · simp -implicitDefEqProofs only [c1, decide_true, decide_false, Bool.and_self, Bool.or_self, Bool.and_true, Bool.true_and, Bool.and_false, Bool.false_and, Bool.or_true, Bool.true_or, Bool.or_false, Bool.false_or, Bool.not_true, Bool.not_false, cond_true, cond_false]
      rfl
    by_cases c2 : (48 : Int) < (ys.length : Int)
    · simp -implicitDefEqProofs only [c1, c2, decide_true, decide_false, Bool.and_self, Bool.or_self, Bool.and_true, Bool.true_and, Bool.and_false, Bool.false_and, Bool.or_true, Bool.true_or, Bool.or_false, Bool.false_or, Bool.not_true, Bool.not_false, cond_true, cond_false]
      rfl
    obtain ⟨n0, n1⟩ := r8.at_in hy 40 12 (by decide)
    obtain ⟨d0, d1⟩ := r8.at_in hy 41 4 (by decide)
    have n2 : r8.at.sv ys 40 12 ≤ 1000 := by omega
    have x1 : xs.length ≤ 1000000 := by omega
    have y1 : ys.length ≤ 1000000 := by omega
    have f1 : (0 : Int) ≤ 40 := by decide
    have f2 : (0 : Int) ≤ 41 := by decide
    have f3 : (2 : Int) ≤ 9 := by decide
    have f4 : (9 : Int) ≤ 200 := by decide
    have f5 : (2 : Int) ≤ 4 := by decide
    have f6 : (4 : Int) ≤ 200 := by decide
    have ltk : (r8.bel.sv xs (r8.at.sv ys 40 12).toNat 9).length = (r8.at.sv ys 40 12).toNat := r8.go_length _ _ _ _ _
    have lgp : (r8.bel.sv ys (r8.at.sv ys 40 12).toNat 4).length = (r8.at.sv ys 40 12).toNat := r8.go_length _ _ _ _ _
    have btk : lw.Bd 1000000 (r8.bel.sv xs (r8.at.sv ys 40 12).toNat 9) := fun x hx2 => by have := r8.go_in hx (by decide : (0 : Int) < 9) _ _ _ x hx2; omega
    have bgp : lw.Bd 3 (r8.bel.sv ys (r8.at.sv ys 40 12).toNat 4) := fun x hx2 => by have := r8.go_in hy (by decide : (0 : Int) < 4) _ _ _ x hx2; omega
    simp -implicitDefEqProofs only [c1, c2, n0, n2, x1, y1, f1, f3, f4, f5, f6, List.replicate_zero, and_self, eq_self, decide_true, decide_false, Bool.and_self, Bool.or_self, Bool.and_true, Bool.true_and, Bool.and_false, Bool.false_and, Bool.or_true, Bool.true_or, Bool.or_false, Bool.false_or, Bool.not_true, Bool.not_false, cond_true, cond_false]
    generalize r8.bel.sv xs (r8.at.sv ys 40 12).toNat 9 = tk at ltk btk ⊢
    generalize r8.bel.sv ys (r8.at.sv ys 40 12).toNat 4 = gp at lgp bgp ⊢
    have ek : r8.at.sv ys 40 12 = ((gp.length : Nat) : Int) := by omega
    obtain ⟨p1, p2, p3⟩ := lw.pre_ok gp 0 bgp (Int.le_refl _) (by omega)
    obtain ⟨q, b, hq⟩ := loop0 ys tk gp F (by omega) gp.length 0 F 0 [] (by omega) rfl (by omega)
    rw [List.drop_zero, List.nil_append] at hq
    generalize lw.pre gp 0 = cm at p1 p2 p3 hq
    have wd : IntKind.i64.wrap (1 + r8.at.sv ys 41 4) = 1 + r8.at.sv ys 41 4 := IntWalk.i64_in _ (by omega)
    obtain ⟨dk, hdk⟩ : ∃ dk, 1 + r8.at.sv ys 41 4 = dk := ⟨_, rfl⟩
    have wd2 : IntKind.i64.wrap (dk + 1) = dk + 1 := IntWalk.i64_in _ (by omega)
    have hlc : cm.length ≤ 64 := by omega
    have hlt : tk.length = cm.length := by omega
    obtain ⟨K, hless⟩ := lw.line (d := dk) hlc hlt p2 btk p3 (by omega) (by omega)
    have sp1 := lw.sp_of (d := dk) hlc hlt p2 btk p3 (by omega) (by omega)
    have sp2 := lw.sp_of (d := dk + 1) hlc hlt p2 btk p3 (by omega) (by omega)
    have ssp : sf.sp tk = true := by
      unfold sf.sp
      rw [Bool.and_eq_true, decide_eq_true_eq]
      refine ⟨?_, by omega⟩
      rw [List.all_eq_true]; intro x hx2; have := btk x hx2; simp only [ln.tm.sp, Bool.and_eq_true, decide_eq_true_eq]; exact this
    have g1 : cm.length ≤ 4611686018427387904 := by omega
    have g2 : tk.length ≤ 4611686018427387904 := by omega
    have ck : ((cm.length : Nat) : Int) = ((gp.length : Nat) : Int) := by omega
    have l1 := K.ls
    have l2 := K.lf
    have l3 := K.lo
    have hbne : (((cm.length : Nat) : Int) != ((gp.length : Nat) : Int)) = false := by rw [ck]; exact bne_self_eq_false _
    have hw : ¬ (ln.wait.sv cm tk dk < ln.wait.sv cm tk (dk + 1)) := by omega
    have h2 := loop2 tk gp cm (ln.sv cm tk dk) (ln.sv cm tk (dk + 1)) (sf.O.sv tk) dk (ln.wait.sv cm tk dk) (sf.S.sv tk) F (by omega) K cm.length 0 F 0 (by omega) (by omega)
    rw [List.drop_zero, List.drop_zero, K.sum] at h2
    have h6 := loop6 tk gp cm (ln.sv cm tk dk) (ln.sv cm tk (dk + 1)) (sf.O.sv tk) dk (ln.wait.sv cm tk dk) (sf.S.sv tk) F K cm.length 0 F 0 0 0 0 (by omega) (by omega) (by rw [List.drop_zero]; exact K.least) (by rw [List.drop_zero]; exact K.most)
    have hx2 := hq.trans (round0 xs ys tk gp cm ((gp.length : Nat) : Int) b gp.length F q)
    rw [wd, hdk] at hx2
    rw [ek]
    rw [ck] at h2 h6
    simp -implicitDefEqProofs only [Int.lt_irrefl, f2, g1, g2, wd2, sp1, sp2, ssp, l1, l2, l3, hbne, hw, List.take_length, Nat.le_refl, and_self, eq_self, decide_true, decide_false, Bool.and_self, Bool.or_self, Bool.and_true, Bool.true_and, Bool.and_false, Bool.false_and, Bool.or_true, Bool.true_or, Bool.or_false, Bool.false_or, Bool.not_true, Bool.not_false, cond_true, cond_false] at hx2
    rw [l1, l2, l3] at h2
    rw [l3] at h6
    exact (congrArg (regc []) (hx2.trans (h2.trans h6))).trans rfl
  · cases h
theorem ok : EntOk Try.prog ⟨6, R⟩ :=
  ent_okAG (ks := []) mixed (A := (orc [⟨18, r8Long.R⟩, ⟨19, r8At.R⟩, ⟨20, R8Below.R⟩, ⟨21, iLineOf.Rt⟩, ⟨22, iWaitOf.R⟩, ⟨17, iShortestFirst.Rt⟩, ⟨23, r8Has.R⟩])) (orc_ok (by simp only [List.mem_cons, List.not_mem_nil, or_false, forall_eq_or_imp, forall_eq]; exact ⟨r8Long.ok, r8At.ok, R8Below.ok, iLineOf.okt, iWaitOf.ok, iShortestFirst.okt, r8Has.ok⟩)) Try.func6 (by kernel_rfl) (by kernel_rfl) (n := 279) (ts := [4]) (hd := hd) (dr := Dr.std) (cut := none) (by kernel_rfl) (by kernel_rfl) (by kernel_rfl) run
end lnw
namespace FnLinesWait
def R := lnw.R
theorem ok : EntOk Try.prog ⟨6, R⟩ := lnw.ok
end FnLinesWait
theorem r8.bytes_of {xs : List Int} (h : ∀ n ∈ xs, (Lit.int .u8 n).wf = true) : r8.bytes.sp xs = true := by
  unfold r8.bytes.sp
  rw [List.all_eq_true]
  intro x hx
  have := h x hx
  have e1 : IntKind.u8.min = 0 := by decide
  have e2 : IntKind.u8.max = 255 := by decide
  simp only [Lit.wf, e1, e2, Bool.and_eq_true, decide_eq_true_eq] at this ⊢
  exact this

end Go.Proofs.Ytadpndpbooofiaa.Ab
