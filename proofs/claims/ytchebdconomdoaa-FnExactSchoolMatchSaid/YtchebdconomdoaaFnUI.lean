/-
  Those on the left ask (the program): what the rounds come to.
-/
import Derived.Test.YtchebdconomdoaaFnUH
import Derived.Test.YtchebdconomdoaaFnUG
namespace Go.Proofs.Ytchebdconomdoaa.Ab
open Go
set_option linter.unusedVariables false
set_option linter.unusedSimpArgs false
set_option maxRecDepth 100000

set_option maxRecDepth 100000
namespace iAsk
theorem loop3 (ls rs : List (List Int)) (ss mt ak : List Int) (c b : Int) (f n : Nat) (hl : mt.length = ls.length) (h1000 : ls.length ≤ 1000) (hb0 : 0 ≤ b) (hbk : b < (rs.length : Int)) (hrow : (gr rs b.toNat).length ≤ 4611686018427387904) : ∀ (d i n2 : Nat) (h w : Int), 0 ≤ h → h + (d : Int) ≤ 1000 → i + d = ls.length → d < n2 →
    L3 f n n2 (mkS 96 [(1, .ro (.ints .i64 ss) ss.length 1), (2, .ptr 0 0 0), (4, .nils), (5, .int .i64 0), (6, .ptr 2 0 0), (7, .ptr 4 0 0), (8, .int .i64 (c)), (10, .int .i64 b), (11, .int .i64 (h)), (12, .int .i64 (w)), (61, .own 1 0 ls.length 0 1), (62, .int .i64 ls.length), (63, .int .i64 (i : Nat))] [⟨.cells [.ro (.rows .i64 ls) ls.length 1, .ro (.rows .i64 rs) rs.length 1], 0⟩, ⟨.typ (.ints .i64 (mt)), 0⟩, ⟨.cells [.own 1 0 ls.length 0 1], 0⟩, ⟨.typ (.ints .i64 (ak)), 0⟩, ⟨.cells [.own 3 0 ls.length 0 1], 0⟩]) = L3 f n 1 (mkS 96 [(1, .ro (.ints .i64 ss) ss.length 1), (2, .ptr 0 0 0), (4, .nils), (5, .int .i64 0), (6, .ptr 2 0 0), (7, .ptr 4 0 0), (8, .int .i64 (c)), (10, .int .i64 b), (11, .int .i64 (ask.hc.go b (mt.drop i) h)), (12, .int .i64 (ask.le.go (gr rs b.toNat) b (mt.drop i) i w)), (61, .own 1 0 ls.length 0 1), (62, .int .i64 ls.length), (63, .int .i64 (ls.length : Nat))] [⟨.cells [.ro (.rows .i64 ls) ls.length 1, .ro (.rows .i64 rs) rs.length 1], 0⟩, ⟨.typ (.ints .i64 (mt)), 0⟩, ⟨.cells [.own 1 0 ls.length 0 1], 0⟩, ⟨.typ (.ints .i64 (ak)), 0⟩, ⟨.cells [.own 3 0 ls.length 0 1], 0⟩]) := by
  intro d
  induction d with
  | zero =>
    intro i n2 h w hh0 hh1 hi hn
    obtain ⟨n2, rfl⟩ : ∃ k, n2 = k + 1 := ⟨n2 - 1, by omega⟩
    obtain rfl : i = ls.length := by omega
    have e : mt.drop ls.length = [] := List.drop_of_length_le (by omega)
    have h1 := round3 ls rs ss ls.length rs.length ss.length mt ak ls.length ls.length c b h w ls.length f n n2
    have h2 := round3 ls rs ss ls.length rs.length ss.length mt ak ls.length ls.length c b h w ls.length f n 0
    rw [e]
    simp -implicitDefEqProofs only [ask.hc.go, ask.le.go]
    rw [h1, h2]
    simp -implicitDefEqProofs only [Int.lt_irrefl, and_self, decide_true, decide_false, Bool.and_self, Bool.or_self, Bool.and_true, Bool.true_and, Bool.and_false, Bool.false_and, Bool.or_true, Bool.true_or, Bool.or_false, Bool.false_or, Bool.not_true, Bool.not_false, cond_true, cond_false]
  | succ d ih =>
    intro i n2 h w hh0 hh1 hi hn
    obtain ⟨n2, rfl⟩ : ∃ k, n2 = k + 1 := ⟨n2 - 1, by omega⟩
    have h4 : (0 : Int) ≤ (i : Int) := Int.natCast_nonneg _
    have h5 : (i : Int) < (ls.length : Int) := by omega
    have x1 : i < mt.length := by omega
    have x2 : b.toNat < rs.length := by omega
    have w1 : IntKind.i64.wrap (h + 1) = h + 1 := IntWalk.i64_in _ (by omega)
    have hd : mt.drop i = gz mt i :: mt.drop (i + 1) := by rw [gz_eq x1]; exact List.drop_eq_getElem_cons x1
    have h1 := round3 ls rs ss ls.length rs.length ss.length mt ak ls.length ls.length c b h w i f n n2
    have e : ∀ x y : Int, (x != y) = !decide (x = y) := fun _ _ => rfl
    rw [h1, hd]
    simp -implicitDefEqProofs only [ask.hc.go, ask.le.go, h4, h5, x1, x2, hb0, hbk, hrow, w1, e, Int.toNat_natCast, wrap_nat i (by omega), and_self, true_and, and_self, decide_true, decide_false, Bool.and_self, Bool.or_self, Bool.and_true, Bool.true_and, Bool.and_false, Bool.false_and, Bool.or_true, Bool.true_or, Bool.or_false, Bool.false_or, Bool.not_true, Bool.not_false, cond_true, cond_false]
    by_cases c1 : gz mt i = b
    · by_cases c3 : w < 0
      · simp -implicitDefEqProofs only [c1, c3, and_self, decide_true, decide_false, Bool.and_self, Bool.or_self, Bool.and_true, Bool.true_and, Bool.and_false, Bool.false_and, Bool.or_true, Bool.true_or, Bool.or_false, Bool.false_or, Bool.not_true, Bool.not_false, cond_true, cond_false]; exact ih (i + 1) n2 (h + 1) (i : Int) (by omega) (by omega) (by omega) (by omega)
      · by_cases c2 : pl.sv w (gr rs b.toNat) < pl.sv (i : Int) (gr rs b.toNat)
        · simp -implicitDefEqProofs only [c1, c2, c3, and_self, decide_true, decide_false, Bool.and_self, Bool.or_self, Bool.and_true, Bool.true_and, Bool.and_false, Bool.false_and, Bool.or_true, Bool.true_or, Bool.or_false, Bool.false_or, Bool.not_true, Bool.not_false, cond_true, cond_false]; exact ih (i + 1) n2 (h + 1) (i : Int) (by omega) (by omega) (by omega) (by omega)
        · simp -implicitDefEqProofs only [c1, c2, c3, and_self, decide_true, decide_false, Bool.and_self, Bool.or_self, Bool.and_true, Bool.true_and, Bool.and_false, Bool.false_and, Bool.or_true, Bool.true_or, Bool.or_false, Bool.false_or, Bool.not_true, Bool.not_false, cond_true, cond_false]; exact ih (i + 1) n2 (h + 1) w (by omega) (by omega) (by omega) (by omega)
    · simp -implicitDefEqProofs only [c1, and_self, decide_true, decide_false, Bool.and_self, Bool.or_self, Bool.and_true, Bool.true_and, Bool.and_false, Bool.false_and, Bool.or_true, Bool.true_or, Bool.or_false, Bool.false_or, Bool.not_true, Bool.not_false, cond_true, cond_false]; exact ih (i + 1) n2 h w (by omega) (by omega) (by omega) (by omega)
theorem loop1 (ls rs : List (List Int)) (ss : List Int) (f : Nat) (hf : ls.length < f) (hp : ss.length = ls.length) (hs1 : short.sp 4611686018427387904 ls = true) (hs2 : short.sp 4611686018427387904 rs = true) (ht : tot.sv ls ≤ 1000000000) : ∀ (d n : Nat) (mt ak : List Int) (c : Int), ask.Inv ls rs mt ak → (tot.sv ls : Int) + 1 ≤ ak.sum + (d : Int) → c = ak.sum → 0 ≤ c → d < n →
    ∃ ak', L1 f n (mkS 96 [(1, .ro (.ints .i64 ss) ss.length 1), (2, .ptr 0 0 0), (4, .nils), (5, .int .i64 0), (6, .ptr 2 0 0), (7, .ptr 4 0 0), (8, .int .i64 (c))] [⟨.cells [.ro (.rows .i64 ls) ls.length 1, .ro (.rows .i64 rs) rs.length 1], 0⟩, ⟨.typ (.ints .i64 (mt)), 0⟩, ⟨.cells [.own 1 0 ls.length 0 1], 0⟩, ⟨.typ (.ints .i64 (ak)), 0⟩, ⟨.cells [.own 3 0 ls.length 0 1], 0⟩]) = some (.tup [.own 1 0 ls.length 0 1, .int .i64 (ask.go ls rs ss d mt ak c).2], [⟨.cells [.ro (.rows .i64 ls) ls.length 1, .ro (.rows .i64 rs) rs.length 1], 0⟩, ⟨.typ (.ints .i64 ((ask.go ls rs ss d mt ak c).1)), 0⟩, ⟨.cells [.own 1 0 ls.length 0 1], 0⟩, ⟨.typ (.ints .i64 (ak')), 0⟩, ⟨.cells [.own 3 0 ls.length 0 1], 0⟩]) := by
  intro d
  induction d with
  | zero =>
    intro n mt ak c I hd hc h0 hn
    have := ask.sum_le ak ls I.la (fun j hj => (I.ab j hj).2)
    omega
  | succ d ih =>
    intro n mt ak c I hd hc h0 hn
    obtain ⟨n, rfl⟩ : ∃ k, n = k + 1 := ⟨n - 1, by omega⟩
    have hsum := ask.sum_le ak ls I.la (fun j hj => (I.ab j hj).2)
    have h8 := I.n8
    have hla := I.la
    have hlm := I.lm
    have hlc : (cq.sv ls.length).length = ls.length := cq.sv_length _
    have g1 : (0 : Int) ≤ (ls.length : Int) := Int.natCast_nonneg _
    have g2 : (ls.length : Int) ≤ 1000 := by omega
    have g3 : ls.length ≤ 1000 := by omega
    rw [round1]
    simp -implicitDefEqProofs only [hla, hlm, hlc, g1, g2, g3, Int.toNat_natCast, and_self, true_and, and_self, decide_true, decide_false, Bool.and_self, Bool.or_self, Bool.and_true, Bool.true_and, Bool.and_false, Bool.false_and, Bool.or_true, Bool.true_or, Bool.or_false, Bool.false_or, Bool.not_true, Bool.not_false, cond_true, cond_false]
    rcases ask.fi_cases ls mt ak with hneg | ⟨j, hj, hfe, hmj, haj⟩
    · refine ⟨ak, ?_⟩
      simp -implicitDefEqProofs only [hneg, ask.go, and_self, decide_true, decide_false, Bool.and_self, Bool.or_self, Bool.and_true, Bool.true_and, Bool.and_false, Bool.false_and, Bool.or_true, Bool.true_or, Bool.or_false, Bool.false_or, Bool.not_true, Bool.not_false, cond_true, cond_false]
    · obtain ⟨hb, I', hsm, hset⟩ := ask.step (ss := ss) I hj hmj haj
      rw [l05Ask.go_succ d hfe]
      have eb : ask.bw.sv ls ak (j : Int) = gz (gr ls j) (gz ak j).toNat := by unfold ask.bw.sv; rw [Int.toNat_natCast]
      have enk : ask.nk.sv ak (j : Int) = ak.set j (gz ak j + 1) := by unfold ask.nk.sv; rw [Int.toNat_natCast]
      rw [hfe]
      obtain ⟨b, hbb⟩ : ∃ b, ask.bw.sv ls ak (j : Int) = b := ⟨_, rfl⟩
      have hbe : gz (gr ls j) (gz ak j).toNat = b := eb.symm.trans hbb
      rw [hbb] at hb I' hset ⊢
      rw [enk] at I' hsm ⊢
      have h4 : (0 : Int) ≤ (j : Int) := Int.natCast_nonneg _
      have h5 : (j : Int) < (ls.length : Int) := by omega
      have h6 : ¬ ((j : Int) < 0) := by omega
      have x1 : j < mt.length := by rw [I.lm]; exact hj
      have x2 : j < ak.length := by rw [I.la]; exact hj
      have a0 := (I.ab j hj).1
      have y1 : (gz ak j).toNat < (gr ls j).length := by omega
      have hkl : (rs.length : Int) = (ls.length : Int) := by have := I.nr; omega
      have y2 : b < (rs.length : Int) := by omega
      have y3 : b.toNat < rs.length := by omega
      have y4 : (gr rs b.toNat).length ≤ 4611686018427387904 := by rw [gr_eq y3]; exact short_get hs2 y3
      have lj : (gr ls j).length ≤ tot.sv ls := tot_get hj
      have w1 : IntKind.i64.wrap (gz ak j + 1) = gz ak j + 1 := IntWalk.i64_in _ (by omega)
      have w2 : IntKind.i64.wrap (c + 1) = c + 1 := IntWalk.i64_in _ (by omega)
      simp -implicitDefEqProofs only [Int.toNat_natCast, hbe, h4, h5, h6, hj, hla, hlm, a0, haj, y1, hb.1, y2, y3, y4, w1, w2, List.take_length, Nat.le_refl, true_and, and_self, and_self, decide_true, decide_false, Bool.and_self, Bool.or_self, Bool.and_true, Bool.true_and, Bool.and_false, Bool.false_and, Bool.or_true, Bool.true_or, Bool.or_false, Bool.false_or, Bool.not_true, Bool.not_false, cond_true, cond_false]
      rcases Bool.eq_false_or_eq_true ((gr rs b.toNat).any (has.sp (j : Int))) with hta | hta
      · have h3 := loop3 ls rs ss (mt.set j b) (ak.set j (gz ak j + 1)) (c + 1) b f n (by rw [List.length_set]; exact I.lm) (by omega) hb.1 y2 y4 ls.length 0 f 0 (-1) (by omega) (by omega) (by omega) hf
        have ehc : ask.hc.go b ((mt.set j b).drop 0) 0 = ask.hc.sv b (mt.set j b) := by rw [List.drop_zero]; rfl
        have ewo : ask.le.go (gr rs b.toNat) b ((mt.set j b).drop 0) 0 (-1) = ask.wo.sv (gr rs b.toNat) b (mt.set j b) (j : Int) := by
          rw [List.drop_zero]
          exact ask.le_eq (hset hta).1 (hset hta).2
        rw [ehc, ewo] at h3
        have hm2 : ask.m2.sv rs ss mt b (j : Int) = bif decide (gz ss b.toNat < ask.hc.sv b (mt.set j b)) then (mt.set j b).set (ask.wo.sv (gr rs b.toNat) b (mt.set j b) (j : Int)).toNat (-1) else mt.set j b := by
          unfold ask.m2.sv
          rw [Int.toNat_natCast, hta, cond_true]
        have hwi := ask.wo_in (row := gr rs b.toNat) (b := b) (mt := mt.set j b) (j := j) (by rw [List.length_set]; exact x1)
        have lms : (mt.set j b).length = ls.length := by rw [List.length_set]; exact I.lm
        rw [lms] at hwi
        have z1 : (ask.wo.sv (gr rs b.toNat) b (mt.set j b) (j : Int)).toNat < ls.length := by omega
        have z2 : b.toNat < ls.length := by omega
        obtain ⟨ak', ihh⟩ := ih n _ _ (c + 1) I' (by rw [hsm]; omega) (by rw [hsm, hc]) (by omega) (by omega)
        refine ⟨ak', ?_⟩
        simp -implicitDefEqProofs only [hta, and_self, decide_true, decide_false, Bool.and_self, Bool.or_self, Bool.and_true, Bool.true_and, Bool.and_false, Bool.false_and, Bool.or_true, Bool.true_or, Bool.or_false, Bool.false_or, Bool.not_true, Bool.not_false, cond_true, cond_false]
        refine Eq.trans h3 ?_
        rw [round3]
        rw [hm2] at ihh ⊢
        by_cases cc : gz ss b.toNat < ask.hc.sv b (mt.set j b)
        · simp -implicitDefEqProofs only [cc, hp, and_self, decide_true, decide_false, Bool.and_self, Bool.or_self, Bool.and_true, Bool.true_and, Bool.and_false, Bool.false_and, Bool.or_true, Bool.true_or, Bool.or_false, Bool.false_or, Bool.not_true, Bool.not_false, cond_true, cond_false] at ihh
          simp -implicitDefEqProofs only [Int.lt_irrefl, cc, hb.1, hb.2, hp, z1, z2, hwi.1, hwi.2, lms, and_self, decide_true, decide_false, Bool.and_self, Bool.or_self, Bool.and_true, Bool.true_and, Bool.and_false, Bool.false_and, Bool.or_true, Bool.true_or, Bool.or_false, Bool.false_or, Bool.not_true, Bool.not_false, cond_true, cond_false]
          exact ihh
        · simp -implicitDefEqProofs only [cc, hp, and_self, decide_true, decide_false, Bool.and_self, Bool.or_self, Bool.and_true, Bool.true_and, Bool.and_false, Bool.false_and, Bool.or_true, Bool.true_or, Bool.or_false, Bool.false_or, Bool.not_true, Bool.not_false, cond_true, cond_false] at ihh
          simp -implicitDefEqProofs only [Int.lt_irrefl, cc, hb.1, hb.2, hp, z1, z2, hwi.1, hwi.2, lms, and_self, decide_true, decide_false, Bool.and_self, Bool.or_self, Bool.and_true, Bool.true_and, Bool.and_false, Bool.false_and, Bool.or_true, Bool.true_or, Bool.or_false, Bool.false_or, Bool.not_true, Bool.not_false, cond_true, cond_false]
          exact ihh
      · have hm2 : ask.m2.sv rs ss mt b (j : Int) = mt := by
          unfold ask.m2.sv
          rw [Int.toNat_natCast, hta, cond_false]
        obtain ⟨ak', ihh⟩ := ih n _ _ (c + 1) I' (by rw [hsm]; omega) (by rw [hsm, hc]) (by omega) (by omega)
        refine ⟨ak', ?_⟩
        simp -implicitDefEqProofs only [hta, and_self, decide_true, decide_false, Bool.and_self, Bool.or_self, Bool.and_true, Bool.true_and, Bool.and_false, Bool.false_and, Bool.or_true, Bool.true_or, Bool.or_false, Bool.false_or, Bool.not_true, Bool.not_false, cond_true, cond_false]
        rw [hm2] at ihh ⊢
        exact ihh
def R : List AVal → Option (Bool × AVal × List Blk)
  | [.agg [.ro (.rows .i64 ls) m 1, .ro (.rows .i64 rs) k 1], .ro (.ints .i64 ss) p 1] => some (decide (m = ls.length ∧ k = rs.length ∧ p = ss.length ∧ p = m ∧ tot.sv ls ≤ 1000000000) && (vw.sp ls rs && (short.sp 4611686018427387904 ls && short.sp 4611686018427387904 rs)), .tup [.own 0 0 m 0 1, .int .i64 (ask.ct.sv ls rs ss)], [⟨.typ (.ints .i64 (ask.om.sv ls rs ss)), 0⟩])
  | _ => none
theorem run : ∀ args v new, R args = some (true, v, new) → ∃ fuel, regc [1] (runFn Try.prog (orc [⟨105, iCount.R⟩, ⟨57, iNone.R⟩, ⟨107, counting2.R⟩, ⟨106, askIdx.R⟩, ⟨91, slContains.R⟩, ⟨86, iDearer.R⟩]) hd Dr.std none fuel (bodyOf Try.f68) 96 [4, 5] args []) = some (v, new) := by
  intro args v new h
  unfold R at h
  split at h
  · rename_i ls m rs k ss p
    simp only [Option.some.injEq, Prod.mk.injEq, Bool.and_eq_true, decide_eq_true_eq] at h
    obtain ⟨⟨⟨rfl, rfl, rfl, hp, ht⟩, hv, hs1, hs2⟩, rfl, rfl⟩ := h
    obtain ⟨I0, hn1⟩ := ask.inv0 hv
    have h8 := I0.n8
    obtain ⟨F, hF⟩ : ∃ F : Nat, F = ls.length + tot.sv ls + 5 := ⟨_, rfl⟩
    refine ⟨F, ?_⟩
    rw [start]
    have hsz : (List.replicate ls.length (0 : Int)).sum = 0 := by simp
    obtain ⟨ak', hl1⟩ := loop1 ls rs ss F (by omega) hp hs1 hs2 ht (tot.sv ls + 1) F (List.replicate ls.length (-1)) (List.replicate ls.length 0) 0 I0 (by rw [hsz]; omega) hsz.symm (by omega) (by omega)
    have k1 : (0 : Int) ≤ (ls.length : Int) := Int.natCast_nonneg _
    have k2 : (ls.length : Int) * 8 ≤ 140737488355328 := by omega
    have k3 : (ls.length : Int) ≤ 4611686018427387904 := by omega
    have k4 : (1 : Int) ≤ (ls.length : Int) := by omega
    have k5 : (ls.length : Int) ≤ 8 := by omega
    have k6 : (0 : Nat) < 1 := by omega
    have eq_ : ((ls.length : Int) == (ls.length : Int)) = true := beq_self_eq_true _
    simp -implicitDefEqProofs only [k1, k2, k3, k4, k5, k6, eq_, Nat.reduceBEq, Nat.reduceAdd, Int.toNat_natCast, and_self, true_and, and_self, decide_true, decide_false, Bool.and_self, Bool.or_self, Bool.and_true, Bool.true_and, Bool.and_false, Bool.false_and, Bool.or_true, Bool.true_or, Bool.or_false, Bool.false_or, Bool.not_true, Bool.not_false, cond_true, cond_false]
    exact (congrArg (regc [1]) hl1).trans rfl
  · cases h
theorem ok : EntOk Try.prog ⟨68, R⟩ :=
  ent_okG (ks := [1]) (es := [⟨105, iCount.R⟩, ⟨57, iNone.R⟩, ⟨107, counting2.R⟩, ⟨106, askIdx.R⟩, ⟨91, slContains.R⟩, ⟨86, iDearer.R⟩]) mixed (by simp only [List.mem_cons, List.not_mem_nil, or_false, forall_eq_or_imp, forall_eq]; exact ⟨iCount.ok, iNone.ok, counting2.ok, askIdx.ok, slContains.ok, iDearer.ok⟩) Try.func68 (by kernel_rfl) (by kernel_rfl) (n := 96) (ts := [4, 5]) (hd := hd) (dr := Dr.std) (cut := none) (by kernel_rfl) (by kernel_rfl) (by kernel_rfl) run
end iAsk
end Go.Proofs.Ytchebdconomdoaa.Ab
