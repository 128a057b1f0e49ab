/-
  Those on the left ask (the reference): what the rounds come to.
-/
import Derived.Test.YtchebdconomdoaaFnUF
namespace Go.Proofs.Ytchebdconomdoaa.Ab
open Go
set_option linter.unusedVariables false
set_option linter.unusedSimpArgs false
set_option maxRecDepth 100000

set_option maxRecDepth 100000
theorem tot_get : ∀ {xs : List (List Int)} {j : Nat}, j < xs.length → (gr xs j).length ≤ tot.sv xs := by
  intro xs
  induction xs with
  | nil => intro j h; simp at h
  | cons x r ih =>
    intro j h
    cases j with
    | zero => simp [gr, tot.sv]
    | succ j =>
      have := ih (j := j) (by simpa using h)
      have e : gr (x :: r) (j + 1) = gr r j := by simp [gr]
      have e2 : tot.sv (x :: r) = x.length + tot.sv r := by simp [tot.sv]
      rw [e, e2]; omega
namespace l05Ask
theorem loop0 (ls rs : List (List Int)) (ss : List Int) (m k p : Nat) (f : Nat) (hm : m ≤ 1000) : ∀ (d i n : Nat), i + d = m → d < n →
    L0 f n (mkS 149 [(0, .rom [.ro (.rows .i64 ls) m 1, .ro (.rows .i64 rs) k 1] 0), (1, .ro (.ints .i64 ss) p 1), (4, .nils), (5, .int .i64 0), (6, .int .i64 m), (7, .own 0 0 i 0 1), (26, .int .i64 m), (27, .int .i64 i)] [⟨.typ (.ints .i64 (List.replicate i (-1))), 0⟩]) = L0 f 1 (mkS 149 [(0, .rom [.ro (.rows .i64 ls) m 1, .ro (.rows .i64 rs) k 1] 0), (1, .ro (.ints .i64 ss) p 1), (4, .nils), (5, .int .i64 0), (6, .int .i64 m), (7, .own 0 0 m 0 1), (26, .int .i64 m), (27, .int .i64 m)] [⟨.typ (.ints .i64 (List.replicate m (-1))), 0⟩]) := by
  intro d
  induction d with
  | zero =>
    intro i n hi hn
    obtain ⟨n, rfl⟩ : ∃ k, n = k + 1 := ⟨n - 1, by omega⟩
    obtain rfl : i = m := by omega
    have h := round0 ls rs ss i k p (List.replicate i (-1)) i f n
    have h' := round0 ls rs ss i k p (List.replicate i (-1)) i f 0
    rw [List.length_replicate] at h h'
    rw [h, h']
    simp -implicitDefEqProofs only [Int.lt_irrefl, and_self, decide_true, decide_false, Bool.and_self, Bool.or_self, Bool.and_true, Bool.true_and, Bool.and_false, Bool.false_and, Bool.or_true, Bool.true_or, Bool.or_false, Bool.false_or, Bool.not_true, Bool.not_false, cond_true, cond_false]
  | succ d ih =>
    intro i n hi hn
    obtain ⟨n, rfl⟩ : ∃ k, n = k + 1 := ⟨n - 1, by omega⟩
    have h5 : (i : Int) < (m : Int) := by omega
    have hih := ih (i + 1) n (by omega) (by omega)
    have e : List.replicate (i + 1) (-1 : Int) = List.replicate i (-1) ++ [-1] := by rw [List.replicate_succ']
    have one : (List.replicate 1 (0 : Int)).set 0 (-1) = [-1] := rfl
    have k0 : i + 1 ≤ 4611686018427387904 := by omega
    have k1 : (i + 1) * 8 ≤ 140737488355328 := by omega
    have tk : List.take i (List.replicate i (-1 : Int)) = List.replicate i (-1) := List.take_of_length_le (by rw [List.length_replicate]; exact Nat.le_refl i)
    have h := round0 ls rs ss m k p (List.replicate i (-1)) i f n
    rw [List.length_replicate] at h
    rw [e] at hih
    rw [← hih, h]
    simp -implicitDefEqProofs only [h5, tk, k0, k1, one, List.drop_zero, List.take_succ_cons, List.take_zero, Nat.reduceBEq, wrap_nat i (by omega), and_self, decide_true, decide_false, Bool.and_self, Bool.or_self, Bool.and_true, Bool.true_and, Bool.and_false, Bool.false_and, Bool.or_true, Bool.true_or, Bool.or_false, Bool.false_or, Bool.not_true, Bool.not_false, cond_true, cond_false]
theorem loop2 (ls rs : List (List Int)) (ss : List Int) (m k p : Nat) (mt ak : List Int) (c : Int) (f n : Nat) (I : ask.Inv ls rs mt ak) (hm : m = ls.length) : ∀ (d i n2 : Nat) (a : Int), (a = -1 ∨ 0 ≤ a) → i + d = m → d < n2 →
    L2 f n n2 (mkS 149 [(0, .rom [.ro (.rows .i64 ls) m 1, .ro (.rows .i64 rs) k 1] 0), (1, .ro (.ints .i64 ss) p 1), (4, .nils), (5, .int .i64 0), (7, .own 0 0 m 0 1), (8, .own 1 0 m 0 1), (9, .int .i64 c), (10, .int .i64 (a)), (36, .int .i64 m), (37, .int .i64 i)] [⟨.typ (.ints .i64 mt), 0⟩, ⟨.typ (.ints .i64 ak), 0⟩]) = L2 f n 1 (mkS 149 [(0, .rom [.ro (.rows .i64 ls) m 1, .ro (.rows .i64 rs) k 1] 0), (1, .ro (.ints .i64 ss) p 1), (4, .nils), (5, .int .i64 0), (7, .own 0 0 m 0 1), (8, .own 1 0 m 0 1), (9, .int .i64 c), (10, .int .i64 (bif decide (a < 0) then fidx.sq (ask.fp.sp ls mt ak) ((cq.sv m).drop i) i else a)), (36, .int .i64 m), (37, .int .i64 m)] [⟨.typ (.ints .i64 mt), 0⟩, ⟨.typ (.ints .i64 ak), 0⟩]) := by
  have hm8 := I.n8
  have hmt := I.lm
  have hak := I.la
  intro d
  induction d with
  | zero =>
    intro i n2 a ha hi hn
    obtain ⟨n2, rfl⟩ : ∃ k, n2 = k + 1 := ⟨n2 - 1, by omega⟩
    obtain rfl : i = m := by omega
    have e : (cq.sv i).drop i = [] := List.drop_of_length_le (by rw [cq.sv_length]; omega)
    have e2 : (bif decide (a < 0) then (-1) else a) = a := by
      rcases ha with rfl | ha
      · rfl
      · have : ¬ a < 0 := by omega
        simp -implicitDefEqProofs only [this, and_self, decide_true, decide_false, Bool.and_self, Bool.or_self, Bool.and_true, Bool.true_and, Bool.and_false, Bool.false_and, Bool.or_true, Bool.true_or, Bool.or_false, Bool.false_or, Bool.not_true, Bool.not_false, cond_true, cond_false]
    have h := round2 ls rs ss i k p mt ak i i c a i f n n2
    have h' := round2 ls rs ss i k p mt ak i i c a i f n 0
    rw [e]
    simp -implicitDefEqProofs only [fidx.sq]
    rw [e2, h, h']
    simp -implicitDefEqProofs only [Int.lt_irrefl, and_self, decide_true, decide_false, Bool.and_self, Bool.or_self, Bool.and_true, Bool.true_and, Bool.and_false, Bool.false_and, Bool.or_true, Bool.true_or, Bool.or_false, Bool.false_or, Bool.not_true, Bool.not_false, cond_true, cond_false]
  | succ d ih =>
    intro i n2 a ha hi hn
    obtain ⟨n2, rfl⟩ : ∃ k, n2 = k + 1 := ⟨n2 - 1, by omega⟩
    have h4 : (0 : Int) ≤ (i : Int) := Int.natCast_nonneg _
    have h5 : (i : Int) < (m : Int) := by omega
    have x1 : i < mt.length := by omega
    have x2 : i < ak.length := by omega
    have x3 : i < ls.length := by omega
    have x4 : ¬ ((i : Int) < 0) := by omega
    have h := round2 ls rs ss m k p mt ak m m c a i f n n2
    have hcq : (cq.sv m).drop i = (i : Int) :: (cq.sv m).drop (i + 1) := cq.sv_drop (by omega)
    rw [h, hcq]
    simp -implicitDefEqProofs only [fidx.sq, ask.fp.sp, h4, h5, x1, x2, x3, Int.toNat_natCast, wrap_nat i (by omega), and_self, decide_true, decide_false, Bool.and_self, Bool.or_self, Bool.and_true, Bool.true_and, Bool.and_false, Bool.false_and, Bool.or_true, Bool.true_or, Bool.or_false, Bool.false_or, Bool.not_true, Bool.not_false, cond_true, cond_false]
    rcases ha with rfl | ha
    · have hneg : ((-1 : Int) < 0) := by decide
      have hih := ih (i + 1) n2 (-1) (.inl rfl) (by omega) (by omega)
      have hih2 := ih (i + 1) n2 (i : Int) (.inr h4) (by omega) (by omega)
      simp -implicitDefEqProofs only [hneg, x4, and_self, decide_true, decide_false, Bool.and_self, Bool.or_self, Bool.and_true, Bool.true_and, Bool.and_false, Bool.false_and, Bool.or_true, Bool.true_or, Bool.or_false, Bool.false_or, Bool.not_true, Bool.not_false, cond_true, cond_false] at hih hih2
      simp -implicitDefEqProofs only [hneg, and_self, decide_true, decide_false, Bool.and_self, Bool.or_self, Bool.and_true, Bool.true_and, Bool.and_false, Bool.false_and, Bool.or_true, Bool.true_or, Bool.or_false, Bool.false_or, Bool.not_true, Bool.not_false, cond_true, cond_false]
      by_cases c1 : gz mt i < 0
      · by_cases c2 : gz ak i < ((gr ls i).length : Int)
        · simp -implicitDefEqProofs only [c1, c2, and_self, decide_true, decide_false, Bool.and_self, Bool.or_self, Bool.and_true, Bool.true_and, Bool.and_false, Bool.false_and, Bool.or_true, Bool.true_or, Bool.or_false, Bool.false_or, Bool.not_true, Bool.not_false, cond_true, cond_false]; exact hih2
        · simp -implicitDefEqProofs only [c1, c2, and_self, decide_true, decide_false, Bool.and_self, Bool.or_self, Bool.and_true, Bool.true_and, Bool.and_false, Bool.false_and, Bool.or_true, Bool.true_or, Bool.or_false, Bool.false_or, Bool.not_true, Bool.not_false, cond_true, cond_false]; exact hih
      · simp -implicitDefEqProofs only [c1, and_self, decide_true, decide_false, Bool.and_self, Bool.or_self, Bool.and_true, Bool.true_and, Bool.and_false, Bool.false_and, Bool.or_true, Bool.true_or, Bool.or_false, Bool.false_or, Bool.not_true, Bool.not_false, cond_true, cond_false]; exact hih
    · have hneg : ¬ (a < 0) := by omega
      have hih := ih (i + 1) n2 a (.inr ha) (by omega) (by omega)
      simp -implicitDefEqProofs only [hneg, and_self, decide_true, decide_false, Bool.and_self, Bool.or_self, Bool.and_true, Bool.true_and, Bool.and_false, Bool.false_and, Bool.or_true, Bool.true_or, Bool.or_false, Bool.false_or, Bool.not_true, Bool.not_false, cond_true, cond_false] at hih
      simp -implicitDefEqProofs only [hneg, and_self, decide_true, decide_false, Bool.and_self, Bool.or_self, Bool.and_true, Bool.true_and, Bool.and_false, Bool.false_and, Bool.or_true, Bool.true_or, Bool.or_false, Bool.false_or, Bool.not_true, Bool.not_false, cond_true, cond_false]
      exact hih
theorem loop3 (ls rs : List (List Int)) (ss : List Int) (m k p : Nat) (mt ak : List Int) (c b : Int) (f n : Nat) (hl : mt.length = m) (h1000 : m ≤ 1000) (hb0 : 0 ≤ b) (hbk : b < (k : Int)) (hk : k = rs.length) (hrow : (gr rs b.toNat).length ≤ 4611686018427387904) : ∀ (d i n2 : Nat) (h w : Int), 0 ≤ h → h + (d : Int) ≤ 1000 → i + d = m → d < n2 →
    L3 f n n2 (mkS 149 [(0, .rom [.ro (.rows .i64 ls) m 1, .ro (.rows .i64 rs) k 1] 0), (1, .ro (.ints .i64 ss) p 1), (4, .nils), (5, .int .i64 0), (7, .own 0 0 m 0 1), (8, .own 1 0 m 0 1), (9, .int .i64 c), (12, .int .i64 b), (13, .int .i64 (h)), (14, .int .i64 (w)), (107, .int .i64 m), (108, .int .i64 i)] [⟨.typ (.ints .i64 mt), 0⟩, ⟨.typ (.ints .i64 ak), 0⟩]) = L3 f n 1 (mkS 149 [(0, .rom [.ro (.rows .i64 ls) m 1, .ro (.rows .i64 rs) k 1] 0), (1, .ro (.ints .i64 ss) p 1), (4, .nils), (5, .int .i64 0), (7, .own 0 0 m 0 1), (8, .own 1 0 m 0 1), (9, .int .i64 c), (12, .int .i64 b), (13, .int .i64 (ask.hc.go b (mt.drop i) h)), (14, .int .i64 (ask.wo.go (gr rs b.toNat) b (mt.drop i) i w)), (107, .int .i64 m), (108, .int .i64 m)] [⟨.typ (.ints .i64 mt), 0⟩, ⟨.typ (.ints .i64 ak), 0⟩]) := by
  intro d
  induction d with
  | zero =>
    intro i n2 h w hh0 hh1 hi hn
    obtain ⟨n2, rfl⟩ : ∃ k, n2 = k + 1 := ⟨n2 - 1, by omega⟩
    obtain rfl : i = m := by omega
    have e : mt.drop i = [] := List.drop_of_length_le (by omega)
    have h1 := round3 ls rs ss i k p mt ak i i c b h w i f n n2
    have h2 := round3 ls rs ss i k p mt ak i i c b h w i f n 0
    rw [e]
    simp -implicitDefEqProofs only [ask.hc.go, ask.wo.go]
    rw [h1, h2]
    simp -implicitDefEqProofs only [Int.lt_irrefl, and_self, decide_true, decide_false, Bool.and_self, Bool.or_self, Bool.and_true, Bool.true_and, Bool.and_false, Bool.false_and, Bool.or_true, Bool.true_or, Bool.or_false, Bool.false_or, Bool.not_true, Bool.not_false, cond_true, cond_false]
  | succ d ih =>
    intro i n2 h w hh0 hh1 hi hn
    obtain ⟨n2, rfl⟩ : ∃ k, n2 = k + 1 := ⟨n2 - 1, by omega⟩
    have h4 : (0 : Int) ≤ (i : Int) := Int.natCast_nonneg _
    have h5 : (i : Int) < (m : Int) := by omega
    have x1 : i < mt.length := by omega
    have x2 : b.toNat < rs.length := by omega
    have w1 : IntKind.i64.wrap (h + 1) = h + 1 := IntWalk.i64_in _ (by omega)
    have hd : mt.drop i = gz mt i :: mt.drop (i + 1) := by rw [gz_eq x1]; exact List.drop_eq_getElem_cons x1
    have h1 := round3 ls rs ss m k p mt ak m m c b h w i f n n2
    have e : ∀ x y : Int, (x == y) = decide (x = y) := fun _ _ => rfl
    rw [h1, hd]
    simp -implicitDefEqProofs only [ask.hc.go, ask.wo.go, h4, h5, x1, x2, hb0, hbk, hrow, w1, e, Int.toNat_natCast, wrap_nat i (by omega), and_self, decide_true, decide_false, Bool.and_self, Bool.or_self, Bool.and_true, Bool.true_and, Bool.and_false, Bool.false_and, Bool.or_true, Bool.true_or, Bool.or_false, Bool.false_or, Bool.not_true, Bool.not_false, cond_true, cond_false]
    by_cases c1 : gz mt i = b
    · by_cases c2 : pl.sv w (gr rs b.toNat) < pl.sv (i : Int) (gr rs b.toNat)
      · simp -implicitDefEqProofs only [c1, c2, and_self, decide_true, decide_false, Bool.and_self, Bool.or_self, Bool.and_true, Bool.true_and, Bool.and_false, Bool.false_and, Bool.or_true, Bool.true_or, Bool.or_false, Bool.false_or, Bool.not_true, Bool.not_false, cond_true, cond_false]; exact ih (i + 1) n2 (h + 1) (i : Int) (by omega) (by omega) (by omega) (by omega)
      · simp -implicitDefEqProofs only [c1, c2, and_self, decide_true, decide_false, Bool.and_self, Bool.or_self, Bool.and_true, Bool.true_and, Bool.and_false, Bool.false_and, Bool.or_true, Bool.true_or, Bool.or_false, Bool.false_or, Bool.not_true, Bool.not_false, cond_true, cond_false]; exact ih (i + 1) n2 (h + 1) w (by omega) (by omega) (by omega) (by omega)
    · simp -implicitDefEqProofs only [c1, and_self, decide_true, decide_false, Bool.and_self, Bool.or_self, Bool.and_true, Bool.true_and, Bool.and_false, Bool.false_and, Bool.or_true, Bool.true_or, Bool.or_false, Bool.false_or, Bool.not_true, Bool.not_false, cond_true, cond_false]; exact ih (i + 1) n2 h w (by omega) (by omega) (by omega) (by omega)
theorem go_succ {ls rs : List (List Int)} {ss mt ak : List Int} {c : Int} {j : Nat} (d : Nat) (h : ask.fi.sv ls mt ak = (j : Int)) : ask.go ls rs ss (d + 1) mt ak c = ask.go ls rs ss d (ask.m2.sv rs ss mt (ask.bw.sv ls ak (j : Int)) (j : Int)) (ask.nk.sv ak (j : Int)) (c + 1) := by
  have : ¬ ((j : Int) < 0) := by omega
  simp only [ask.go, h, this, decide_false, cond_false]
theorem loop1 (ls rs : List (List Int)) (ss : List Int) (f : Nat) (hf : ls.length < f) (hp : ss.length = ls.length) (hs1 : short.sp 4611686018427387904 ls = true) (hs2 : short.sp 4611686018427387904 rs = true) (ht : tot.sv ls ≤ 1000000000) : ∀ (d n : Nat) (mt ak : List Int) (c : Int), ask.Inv ls rs mt ak → (tot.sv ls : Int) + 1 ≤ ak.sum + (d : Int) → c = ak.sum → 0 ≤ c → d < n →
    L1 f n (mkS 149 [(0, .rom [.ro (.rows .i64 ls) ls.length 1, .ro (.rows .i64 rs) rs.length 1] 0), (1, .ro (.ints .i64 ss) ss.length 1), (4, .nils), (5, .int .i64 0), (7, .own 0 0 ls.length 0 1), (8, .own 1 0 ls.length 0 1), (9, .int .i64 (c))] [⟨.typ (.ints .i64 (mt)), 0⟩, ⟨.typ (.ints .i64 (ak)), 0⟩]) = some (.tup [.own 0 0 ls.length 0 1, .int .i64 (ask.go ls rs ss d mt ak c).2], [⟨.typ (.ints .i64 (ask.go ls rs ss d mt ak c).1), 0⟩]) := by
  intro d
  induction d with
  | zero =>
    intro n mt ak c I hd hc h0 hn
    have := ask.sum_le ak ls I.la (fun j hj => (I.ab j hj).2)
    omega
  | succ d ih =>
    intro n mt ak c I hd hc h0 hn
    obtain ⟨n, rfl⟩ : ∃ k, n = k + 1 := ⟨n - 1, by omega⟩
    have hsum := ask.sum_le ak ls I.la (fun j hj => (I.ab j hj).2)
    have h8 := I.n8
    have h2 := loop2 ls rs ss ls.length rs.length ss.length mt ak c f n I rfl ls.length 0 f (-1) (.inl rfl) (by omega) hf
    have hfi : (bif decide ((-1:Int) < 0) then fidx.sq (ask.fp.sp ls mt ak) ((cq.sv ls.length).drop 0) 0 else -1) = ask.fi.sv ls mt ak := by rw [List.drop_zero]; rfl
    rw [hfi] at h2
    rw [round1]
    refine Eq.trans h2 ?_
    rcases ask.fi_cases ls mt ak with hneg | ⟨j, hj, hfe, hmj, haj⟩
    · rw [round2]
      simp -implicitDefEqProofs only [Int.lt_irrefl, hneg, ask.go, and_self, decide_true, decide_false, Bool.and_self, Bool.or_self, Bool.and_true, Bool.true_and, Bool.and_false, Bool.false_and, Bool.or_true, Bool.true_or, Bool.or_false, Bool.false_or, Bool.not_true, Bool.not_false, cond_true, cond_false]
    · obtain ⟨hb, I', hsm, hset⟩ := ask.step (ss := ss) I hj hmj haj
      rw [go_succ d hfe]
      have eb : ask.bw.sv ls ak (j : Int) = gz (gr ls j) (gz ak j).toNat := by unfold ask.bw.sv; rw [Int.toNat_natCast]
      have enk : ask.nk.sv ak (j : Int) = ak.set j (gz ak j + 1) := by unfold ask.nk.sv; rw [Int.toNat_natCast]
      rw [hfe, round2]
      obtain ⟨b, hbb⟩ : ∃ b, ask.bw.sv ls ak (j : Int) = b := ⟨_, rfl⟩
      have hbe : gz (gr ls j) (gz ak j).toNat = b := eb.symm.trans hbb
      rw [hbb] at hb I' hset ⊢
      rw [enk] at I' hsm ⊢
      have h4 : (0 : Int) ≤ (j : Int) := Int.natCast_nonneg _
      have h5 : (j : Int) < (ls.length : Int) := by omega
      have h6 : ¬ ((j : Int) < 0) := by omega
      have x1 : j < mt.length := by rw [I.lm]; exact hj
      have x2 : j < ak.length := by rw [I.la]; exact hj
      have a0 := (I.ab j hj).1
      have y1 : (gz ak j).toNat < (gr ls j).length := by omega
      have hkl : (rs.length : Int) = (ls.length : Int) := by have := I.nr; omega
      have y2 : b < (rs.length : Int) := by omega
      have y3 : b.toNat < rs.length := by omega
      have y4 : (gr rs b.toNat).length ≤ 4611686018427387904 := by rw [gr_eq y3]; exact short_get hs2 y3
      have lj : (gr ls j).length ≤ tot.sv ls := tot_get hj
      have w1 : IntKind.i64.wrap (gz ak j + 1) = gz ak j + 1 := IntWalk.i64_in _ (by omega)
      have w2 : IntKind.i64.wrap (c + 1) = c + 1 := IntWalk.i64_in _ (by omega)
      simp -implicitDefEqProofs only [Int.lt_irrefl, Int.toNat_natCast, hbe, h4, h5, h6, hj, x1, x2, a0, haj, y1, hb.1, y2, y3, y4, w1, w2, and_self, decide_true, decide_false, Bool.and_self, Bool.or_self, Bool.and_true, Bool.true_and, Bool.and_false, Bool.false_and, Bool.or_true, Bool.true_or, Bool.or_false, Bool.false_or, Bool.not_true, Bool.not_false, cond_true, cond_false]
      rcases Bool.eq_false_or_eq_true ((gr rs b.toNat).any (has.sp (j : Int))) with hta | hta
      · have h3 := loop3 ls rs ss ls.length rs.length ss.length (mt.set j b) (ak.set j (gz ak j + 1)) (c + 1) b f n (by rw [List.length_set]; exact I.lm) (by omega) hb.1 y2 rfl y4 ls.length 0 f 0 (j : Int) (by omega) (by omega) (by omega) hf
        have ehc : ask.hc.go b ((mt.set j b).drop 0) 0 = ask.hc.sv b (mt.set j b) := by rw [List.drop_zero]; rfl
        have ewo : ask.wo.go (gr rs b.toNat) b ((mt.set j b).drop 0) 0 (j : Int) = ask.wo.sv (gr rs b.toNat) b (mt.set j b) (j : Int) := by rw [List.drop_zero]; rfl
        rw [ehc, ewo] at h3
        have hm2 : ask.m2.sv rs ss mt b (j : Int) = bif decide (gz ss b.toNat < ask.hc.sv b (mt.set j b)) then (mt.set j b).set (ask.wo.sv (gr rs b.toNat) b (mt.set j b) (j : Int)).toNat (-1) else mt.set j b := by
          unfold ask.m2.sv
          rw [Int.toNat_natCast, hta, cond_true]
        have hwi := ask.wo_in (row := gr rs b.toNat) (b := b) (mt := mt.set j b) (j := j) (by rw [List.length_set]; exact x1)
        have lms : (mt.set j b).length = ls.length := by rw [List.length_set]; exact I.lm
        rw [lms] at hwi
        have z1 : (ask.wo.sv (gr rs b.toNat) b (mt.set j b) (j : Int)).toNat < ls.length := by omega
        have z2 : b.toNat < ls.length := by omega
        have ihh := ih n _ _ (c + 1) I' (by rw [hsm]; omega) (by rw [hsm, hc]) (by omega) (by omega)
        simp -implicitDefEqProofs only [hta, and_self, decide_true, decide_false, Bool.and_self, Bool.or_self, Bool.and_true, Bool.true_and, Bool.and_false, Bool.false_and, Bool.or_true, Bool.true_or, Bool.or_false, Bool.false_or, Bool.not_true, Bool.not_false, cond_true, cond_false]
        refine Eq.trans h3 ?_
        rw [round3]
        rw [hm2] at ihh ⊢
        by_cases cc : gz ss b.toNat < ask.hc.sv b (mt.set j b)
        · simp -implicitDefEqProofs only [cc, hp, and_self, decide_true, decide_false, Bool.and_self, Bool.or_self, Bool.and_true, Bool.true_and, Bool.and_false, Bool.false_and, Bool.or_true, Bool.true_or, Bool.or_false, Bool.false_or, Bool.not_true, Bool.not_false, cond_true, cond_false] at ihh
          simp -implicitDefEqProofs only [Int.lt_irrefl, cc, hb.1, hb.2, hp, z1, z2, hwi.1, hwi.2, lms, and_self, decide_true, decide_false, Bool.and_self, Bool.or_self, Bool.and_true, Bool.true_and, Bool.and_false, Bool.false_and, Bool.or_true, Bool.true_or, Bool.or_false, Bool.false_or, Bool.not_true, Bool.not_false, cond_true, cond_false]
          exact ihh
        · simp -implicitDefEqProofs only [cc, hp, and_self, decide_true, decide_false, Bool.and_self, Bool.or_self, Bool.and_true, Bool.true_and, Bool.and_false, Bool.false_and, Bool.or_true, Bool.true_or, Bool.or_false, Bool.false_or, Bool.not_true, Bool.not_false, cond_true, cond_false] at ihh
          simp -implicitDefEqProofs only [Int.lt_irrefl, cc, hb.1, hb.2, hp, z1, z2, hwi.1, hwi.2, lms, and_self, decide_true, decide_false, Bool.and_self, Bool.or_self, Bool.and_true, Bool.true_and, Bool.and_false, Bool.false_and, Bool.or_true, Bool.true_or, Bool.or_false, Bool.false_or, Bool.not_true, Bool.not_false, cond_true, cond_false]
          exact ihh
      · have hm2 : ask.m2.sv rs ss mt b (j : Int) = mt := by
          unfold ask.m2.sv
          rw [Int.toNat_natCast, hta, cond_false]
        have ihh := ih n _ _ (c + 1) I' (by rw [hsm]; omega) (by rw [hsm, hc]) (by omega) (by omega)
        simp -implicitDefEqProofs only [hta, and_self, decide_true, decide_false, Bool.and_self, Bool.or_self, Bool.and_true, Bool.true_and, Bool.and_false, Bool.false_and, Bool.or_true, Bool.true_or, Bool.or_false, Bool.false_or, Bool.not_true, Bool.not_false, cond_true, cond_false]
        rw [hm2] at ihh ⊢
        exact ihh
def R : List AVal → Option (Bool × AVal × List Blk)
  | [.rom [.ro (.rows .i64 ls) m 1, .ro (.rows .i64 rs) k 1] 0, .ro (.ints .i64 ss) p 1] => some (decide (m = ls.length ∧ k = rs.length ∧ p = ss.length ∧ p = m ∧ tot.sv ls ≤ 1000000000) && (vw.sp ls rs && (short.sp 4611686018427387904 ls && short.sp 4611686018427387904 rs)), .tup [.own 0 0 m 0 1, .int .i64 (ask.ct.sv ls rs ss)], [⟨.typ (.ints .i64 (ask.om.sv ls rs ss)), 0⟩])
  | _ => none
theorem run : ∀ args v new, R args = some (true, v, new) → ∃ fuel, runFn Try.prog (orc [⟨102, l05Takes.R⟩, ⟨103, l05Place.R⟩]) hd dr (some 1) fuel (bodyOf Try.f65) 149 [4, 5] args [] = some (v, new) := by
  intro args v new h
  unfold R at h
  split at h
  · rename_i ls m rs k ss p
    simp only [Option.some.injEq, Prod.mk.injEq, Bool.and_eq_true, decide_eq_true_eq] at h
    obtain ⟨⟨⟨rfl, rfl, rfl, hp, ht⟩, hv, hs1, hs2⟩, rfl, rfl⟩ := h
    obtain ⟨I0, hn1⟩ := ask.inv0 hv
    have h8 := I0.n8
    obtain ⟨F, hF⟩ : ∃ F : Nat, F = ls.length + tot.sv ls + 5 := ⟨_, rfl⟩
    refine ⟨F, ?_⟩
    rw [start]
    have hl0 := loop0 ls rs ss ls.length rs.length ss.length F (by omega) ls.length 0 F (by omega) (by omega)
    have e1 : (0 : Nat) + 1 = 1 := rfl
    have h1 := round0 ls rs ss ls.length rs.length ss.length (List.replicate ls.length (-1)) ls.length F 0
    rw [List.length_replicate, e1] at h1
    have hsz : (List.replicate ls.length (0 : Int)).sum = 0 := by simp
    have hl1 := loop1 ls rs ss F (by omega) hp hs1 hs2 ht (tot.sv ls + 1) F (List.replicate ls.length (-1)) (List.replicate ls.length 0) 0 I0 (by rw [hsz]; omega) hsz.symm (by omega) (by omega)
    have k1 : (0 : Int) ≤ (ls.length : Int) := Int.natCast_nonneg _
    have k2 : (ls.length : Int) * 8 ≤ 140737488355328 := by omega
    have k3 : (ls.length : Int) ≤ 4611686018427387904 := by omega
    refine Eq.trans hl0 ?_
    rw [h1]
    have eq_ : ((ls.length : Int) == (ls.length : Int)) = true := beq_self_eq_true _
    simp -implicitDefEqProofs only [Int.lt_irrefl, k1, k2, k3, eq_, Nat.reduceBEq, Int.toNat_natCast, and_self, decide_true, decide_false, Bool.and_self, Bool.or_self, Bool.and_true, Bool.true_and, Bool.and_false, Bool.false_and, Bool.or_true, Bool.true_or, Bool.or_false, Bool.false_or, Bool.not_true, Bool.not_false, cond_true, cond_false]
    exact hl1
  · cases h
theorem ok : EntOk Try.prog ⟨65, R⟩ :=
  ent_ok (es := [⟨102, l05Takes.R⟩, ⟨103, l05Place.R⟩]) mixed (by simp only [List.mem_cons, List.not_mem_nil, or_false, forall_eq_or_imp, forall_eq]; exact ⟨l05Takes.ok, l05Place.ok⟩) Try.func65 (by kernel_rfl) (by kernel_rfl) (n := 149) (ts := [4, 5]) (hd := hd) (dr := dr) (cut := (some 1)) (by kernel_rfl) (by kernel_rfl) (by kernel_rfl) run
end l05Ask
end Go.Proofs.Ytchebdconomdoaa.Ab
