/-
  Functions: lists that are held, marked: what they hold then is known.
-/
import Derived.Test.YthecninmmojkgaaFnUA
import Derived.Test.YthecninmmojkgaaFnE
import Derived.Test.YthecninmmojkgaaFnP
import Derived.Test.YthecninmmojkgaaFnAU
import Derived.Test.YthecninmmojkgaaAbWk
namespace Go.Proofs.Ythecninmmojkgaa.Ab
open Go
set_option linter.unusedVariables false
set_option linter.unusedSimpArgs false
set_option maxRecDepth 100000
-- numbers

namespace gInt64S
def R (x : AVal) (k : Int) : Option (Bool × Int × Nat × Cont × Nat) := some (bi.sp x && decide (0 ≤ k ∧ k ≤ 1000000000), k + (bm.sv x : Int), bn.sv x, .ints .i64 (marks.sv k (bm.sv x)), bm.sv x)
theorem ok : GOk Try.prog ⟨13, R⟩ := by
  refine ⟨markInt64S.ok.1, fun x k r i0 c' m0 h Fb ρ H w c S E hv => ?_⟩
  simp only [R, Option.some.injEq, Prod.mk.injEq, Bool.and_eq_true, decide_eq_true_eq] at h
  obtain ⟨⟨h1, h2⟩, rfl, rfl, rfl, rfl⟩ := h
  unfold bi.sp at h1
  split at h1
  case h_2 => cases h1
  rename_i i xs m
  simp only [decide_eq_true_eq] at h1
  obtain ⟨rfl, h1⟩ := h1
  cases hv with
  | bun _ _ _ x B he hB =>
    obtain ⟨a, cap, rfl, hB, hm, hl⟩ := hB.slice rfl rfl
    obtain ⟨b, cs, t, rfl, hb, hbρ, hh, hcap, hcont⟩ := hB
    have S1 : @Sim noF [b] [⟨.typ (.ints .i64 xs), 0⟩] w := @Sim.mk noF _ _ _ rfl (by simp) (fun b hb => by cases hb) (fun l b' blk hl hb' => by
      cases l with
      | succ l => simp at hl
      | zero =>
        simp only [List.getElem?_cons_zero, Option.some.injEq] at hl hb'
        subst hl hb'
        refine ⟨cs, t, hh, by simp only [BC.len, Cont.len]; omega, fun i v hv => ?_⟩
        simp only [BC.get?, Cont.get?] at hv
        split at hv
        · rename_i n hn
          simp only [Option.some.injEq] at hv; subst hv
          exact ⟨_, hcont i n hn, @VR.int noF _ _ _ _ _⟩
        · cases hv)
    have A1 : @VRs noF [b] [⟨.typ (.ints .i64 xs), 0⟩] w [.own 0 0 xs.length 0 1, .int .i64 k] (#[.slice (some ⟨b, 0, none⟩) xs.length cap, .int .i64 k] : Array Value).toList :=
      @VRs.cons noF _ _ _ _ _ _ _ (@VR.own noF [b] _ w 0 0 xs.length 0 1 ⟨b, 0, none⟩ cap ⟨_, rfl, Nat.le_refl _, fun _ => ⟨b, cs, t, rfl, rfl, by simp [BC.len, Cont.len], hh, by omega⟩⟩ hm) (@VRs.cons noF _ _ _ _ _ _ _ (@VR.int noF _ _ _ _ _) (@VRs.nil noF _ _ _))
    have hc : ACalls Try.prog 13 _ _ _ _ := markInt64S.ok.2 [.own 0 0 xs.length 0 1, .int .i64 k] [⟨.typ (.ints .i64 xs), 0⟩] (.int .i64 (k + xs.length)) [⟨.typ (.ints .i64 (marks.sv k xs.length)), 0⟩] (by simp [markInt64S.R, h1, h2])
    refine (@hc noF [b] w _ S1 A1).mono fun e w' ⟨c', he', ρ', hv', S', M⟩ => ?_
    subst he'
    cases hv'
    obtain ⟨blk', p1, _, p2⟩ := M.keep 0 _ rfl
    simp only [List.getElem?_cons_zero, Option.some.injEq] at p1
    subst p1
    obtain ⟨p3, _, p4⟩ := p2 rfl
    obtain ⟨cs', p5, p6⟩ := p4 b cs t rfl hh
    obtain ⟨cs2, t2, q1, q2, q3⟩ := @Sim.blk noF _ _ _ S' 0 b _ rfl p3
    rw [p5] at q1
    simp only [Option.some.injEq, Obj.cells.injEq] at q1
    obtain ⟨rfl, rfl, _⟩ := q1
    refine ⟨rfl, ⟨M.os, M.tape, M.output, M.size, fun y hy hn => (M.frame y hy fun hm => hn ?_).1⟩, ?_⟩
    · simp only [List.mem_singleton] at hm
      subst hm
      exact List.mem_flatMap.2 ⟨i, by simp [bn.sv], by rw [he]; exact hb⟩
    · refine @VR.bun Fb ρ H w' i (.ints .i64 (marks.sv k xs.length)) xs.length _ B he (.inl ⟨rfl, ⟨b, 0, none⟩, cap, rfl, ⟨b, cs', t, rfl, hb, hbρ, p5, by omega, fun j n hj => ?_⟩, hm, by simp [Cont.len, marks_length]⟩)
      obtain ⟨x, hx, hvx⟩ := q3 j (.int .i64 n) (by simp [BC.get?, Cont.get?, hj])
      cases hvx
      exact hx
end gInt64S

/-- Marks, row by row. -/
def mkr.sv (k : Int) (xs : List (List Int)) : List (List Int) := (List.range xs.length).map fun j => marks.sv (k + (tot.sv (xs.take j) : Int)) (gr xs j).length
theorem mkr_len (k : Int) (xs : List (List Int)) : (mkr.sv k xs).length = xs.length := by simp [mkr.sv]
theorem mkr_at (k : Int) (xs : List (List Int)) {j : Nat} (h : j < xs.length) : (mkr.sv k xs)[j]? = some (marks.sv (k + (tot.sv (xs.take j) : Int)) (gr xs j).length) := by
  simp only [mkr.sv, List.getElem?_map, List.getElem?_range h, Option.map_some]

namespace gInt64SS
def R (x : AVal) (k : Int) : Option (Bool × Int × Nat × Cont × Nat) := match x with
  | .bun i (.rows .i64 xs) m => some (decide (m = xs.length ∧ m ≤ 1048576 ∧ 0 ≤ k ∧ k + (tot.sv xs : Int) ≤ 1000000000), k + (tot.sv xs : Int), i, .rows .i64 (mkr.sv k xs), m)
  | _ => none
def C : XC := ⟨[], [], [⟨13, gInt64S.R⟩]⟩
theorem Cok : XCok Try.prog C := ⟨by simp [C], by simp [C], by simp only [C, List.mem_cons, List.not_mem_nil, or_false, forall_eq]; exact gInt64S.ok⟩
def hd : Nat → List Nat := fun _ => [0, 1, 5]
noncomputable def L (f n : Nat) (x : SX) := loopX Try.prog (orc []) C hd Dr.std f (bodyOf Try.f20) 0 [true, false, true] (retX0 Try.prog [4]) n x
theorem start (vs : List AVal) (m q : Nat) (k : Int) (f : Nat) :
  runX Try.prog (orc []) C hd Dr.std f (bodyOf Try.f20) 0 (retX0 Try.prog [4]) (startX 19 [.ros vs m 1, .int .i64 k] [] q)
  = (L f f (mkX (19 : Nat) [((0 : Nat), AVal.ros vs m (1 : Nat)), ((1 : Nat), AVal.int IntKind.i64 k), ((5 : Nat), AVal.int IntKind.i64 (0 : Int))] [] q)) := by kernel_rfl
theorem round (vs : List AVal) (m i q : Nat) (k : Int) (f n : Nat) :
  L f (n + 1) (mkX 19 [(0, .ros vs m 1), (1, .int .i64 k), (5, .int .i64 i)] [] q)
  = (bif decide ((↑i : Int) < (↑m : Int)) then bif true && (decide ((0 : Int) ≤ (↑i : Int)) && decide ((↑i : Int) < (↑m : Int))) then bif (gaK vs (↑i : Int).toNat).1 then bif bi.sp (gaK vs (↑i : Int).toNat).2 && decide ((0 : Int) ≤ k ∧ k ≤ (1000000000 : Int)) then L f n (mkX (19 : Nat) [((0 : Nat), AVal.ros (AVal.mapB.mapBs (setG (bn.sv (gaK vs (↑i : Int).toNat).2) (Cont.ints IntKind.i64 (marks.sv k (bm.sv (gaK vs (↑i : Int).toNat).2))) (bm.sv (gaK vs (↑i : Int).toNat).2)) vs) m (1 : Nat)), ((1 : Nat), AVal.int IntKind.i64 (k + (↑(bm.sv (gaK vs (↑i : Int).toNat).2) : Int))), ((5 : Nat), AVal.int IntKind.i64 (IntKind.i64.wrap ((↑i : Int) + (1 : Int))))] [] q) else none else none else none else some ((AVal.int IntKind.i64 k, AVal.ros vs m (1 : Nat)), [], q)) := by kernel_rfl
theorem tot_drop {xs : List (List Int)} {i : Nat} (h : i < xs.length) : tot.sv (xs.drop i) = (gr xs i).length + tot.sv (xs.drop (i + 1)) := by
  rw [List.drop_eq_getElem_cons h, gr_eq h]
  unfold tot.sv
  rw [List.map_cons, List.sum_cons]
theorem tot_take {xs : List (List Int)} {i : Nat} (h : i < xs.length) : tot.sv (xs.take (i + 1)) = tot.sv (xs.take i) + (gr xs i).length := by
  rw [List.take_add_one, List.getElem?_eq_getElem h, gr_eq h]
  simp only [tot.sv, Option.toList_some, List.map_append, List.sum_append, List.map_cons, List.map_nil, List.sum_cons, List.sum_nil, Nat.add_zero]
theorem bi_bun (i : Nat) (r : List Int) (h : r.length ≤ 4611686018427387904) : bi.sp (.bun i (.ints .i64 r) r.length) = true := by simp [bi.sp, h]
theorem bm_bun (i : Nat) (c : Cont) (n : Nat) : bm.sv (.bun i c n) = n := rfl
theorem bn_bun (i : Nat) (c : Cont) (n : Nat) : bn.sv (.bun i c n) = i := rfl
theorem loop (xs : List (List Int)) (m q f : Nat) (k0 : Int) (hm : m = xs.length) (hk0 : 0 ≤ k0) : ∀ (d i n : Nat) (k : Int) (vs : List AVal), i + d = m → d < n →
    (∀ (j : Nat), i ≤ j → j < m → vs[j]? = some (.bun j (.ints .i64 (gr xs j)) (gr xs j).length)) → (∀ (j : Nat), j < i → vs[j]? = some (.bun j (.ints .i64 (marks.sv (k0 + (tot.sv (xs.take j) : Int)) (gr xs j).length)) (gr xs j).length)) →
    m ≤ 1048576 → k = k0 + (tot.sv (xs.take i) : Int) → k + (tot.sv (xs.drop i) : Int) ≤ 1000000000 →
    ∃ vs' : List AVal, L f n (mkX 19 [(0, .ros vs m 1), (1, .int .i64 k), (5, .int .i64 i)] [] q) = some ((.int .i64 (k + (tot.sv (xs.drop i) : Int)), .ros vs' m 1), [], q) ∧
      ∀ (j : Nat), j < m → vs'[j]? = some (.bun j (.ints .i64 (marks.sv (k0 + (tot.sv (xs.take j) : Int)) (gr xs j).length)) (gr xs j).length) := by
  intro d
  induction d with
  | zero =>
    intro i n k vs hi hn hj hj2 hb hk ht
    obtain ⟨n, rfl⟩ : ∃ k, n = k + 1 := ⟨n - 1, by omega⟩
    obtain rfl : i = m := by omega
    refine ⟨vs, ?_, hj2⟩
    rw [round, List.drop_of_length_le (by omega)]
    simp only [Int.lt_irrefl, decide_false, cond_false, tot.sv, List.map_nil, List.sum_nil, Int.natCast_zero, Int.add_zero]
  | succ d ih =>
    intro i n k vs hi hn hj hj2 hb hk ht
    obtain ⟨n, rfl⟩ : ∃ k, n = k + 1 := ⟨n - 1, by omega⟩
    have h4 : (0 : Int) ≤ (i : Int) := Int.natCast_nonneg _
    have h5 : (i : Int) < (m : Int) := by omega
    have h2 : i < xs.length := by omega
    have hd := tot_drop h2
    have ht1 := tot_take h2
    have hg : gaK vs i = (true, .bun i (.ints .i64 (gr xs i)) (gr xs i).length) := gaK_nth (by rw [nth_eq]; exact hj i (Nat.le_refl _) (by omega))
    have hbi := bi_bun i (gr xs i) (by omega)
    have hk1 : 0 ≤ k := by omega
    have hk2 : k ≤ 1000000000 := by omega
    have wi : IntKind.i64.wrap ((i : Int) + 1) = ((i + 1 : Nat) : Int) := wrap_nat i (by omega)
    have old : ∀ j, j ≠ i → ∀ c n, vs[j]? = some (.bun j c n) → (AVal.mapB.mapBs (setG i (.ints .i64 (marks.sv k (gr xs i).length)) (gr xs i).length) vs)[j]? = some (.bun j c n) := fun j hji c n h => by
      rw [mapBs_eq, List.getElem?_map, h]
      have : (j == i) = false := by rw [beq_eq_false_iff_ne]; exact hji
      simp [AVal.mapB, setG, eqN_eq, this]
    have new : (AVal.mapB.mapBs (setG i (.ints .i64 (marks.sv k (gr xs i).length)) (gr xs i).length) vs)[i]? = some (.bun i (.ints .i64 (marks.sv k (gr xs i).length)) (gr xs i).length) := by
      rw [mapBs_eq, List.getElem?_map, hj i (Nat.le_refl _) (by omega)]
      simp [AVal.mapB, setG, eqN_eq]
    obtain ⟨vs', g1, g2⟩ := ih (i + 1) n (k + ((gr xs i).length : Int)) (AVal.mapB.mapBs (setG i (.ints .i64 (marks.sv k (gr xs i).length)) (gr xs i).length) vs) (by omega) (by omega) (fun j h1 h3 => old j (by omega) _ _ (hj j (by omega) h3)) (fun j h1 => by
      by_cases e : j = i
      · subst e
        rw [new, hk]
      · exact old j e _ _ (hj2 j (by omega))) hb (by rw [hk, ht1]; omega) (by rw [hd] at ht; omega)
    refine ⟨vs', ?_, g2⟩
    have e : k + (tot.sv (xs.drop i) : Int) = k + ((gr xs i).length : Int) + (tot.sv (xs.drop (i + 1)) : Int) := by rw [hd]; omega
    rw [e, ← g1, round]
    simp -implicitDefEqProofs only [mulN_eq, Nat.mul_one, h4, h5, hg, hbi, bm_bun, bn_bun, hk1, hk2, wi, and_self, decide_true, Bool.and_self, Bool.and_true, Bool.true_and, cond_true, Int.toNat_natCast]
theorem ok : GOk Try.prog ⟨20, R⟩ := by
  refine ⟨⟨_, Try.func20, by kernel_rfl, by kernel_rfl⟩, fun x k r i0 c' m0 h0 Fb ρ H w c S E hv => ?_⟩
  have h : R x k = some (true, r, i0, c', m0) := h0
  unfold R at h
  split at h
  case h_2 => cases h
  rename_i i xs m
  simp only [Option.some.injEq, Prod.mk.injEq, decide_eq_true_eq] at h
  obtain ⟨⟨hmx, h2, h3, h4⟩, rfl, rfl, rfl, rfl⟩ := h
  cases hv with
  | bun _ _ _ x B he hB =>
    obtain ⟨a, cap, rfl, hB, hm, hl⟩ := hB.slice rfl rfl
    obtain ⟨b, cs, t, bs, rfl, hb, hbρ, hh, hcap, hnd, hbl, hrow⟩ := hB
    have hcs : m ≤ cs.size := by omega
    have at_ : ∀ j, j < m → ∃ bj capj csj ej, bs[j]? = some bj ∧ bj ∈ B ∧ cs[j]? = some (.slice (some ⟨bj, 0, none⟩) (gr xs j).length capj) ∧ (gr xs j).length ≤ capj ∧ w.heap[bj]? = some (Obj.cells csj ej (0, 0)) ∧ capj ≤ csj.size ∧
        ∀ (i : Nat) (n : Int), (gr xs j)[i]? = some n → csj[i]? = some (.int .i64 n) := by
      intro j hj
      have h1 : xs[j]? = some (gr xs j) := by rw [gr_eq (by omega)]; exact List.getElem?_eq_getElem (by omega)
      have h2 : bs[j]? = some bs[j] := List.getElem?_eq_getElem (by omega)
      obtain ⟨g1, g2, capj, csj, ej, g3, g4, g5, g6, g7⟩ := hrow j _ _ h1 h2
      exact ⟨bs[j], capj, csj, ej, h2, g1, g3, g4, g5, g6, g7⟩
    let es : List (Value × List Nat) := (List.range m).map fun j => (cs.getD j Go.undef, [bs.getD j 0])
    have hes : ∀ j v B', es[j]? = some (v, B') → j < m ∧ v = cs.getD j Go.undef ∧ B' = [bs.getD j 0] := by
      intro j v B' h
      simp only [es, List.getElem?_map, Option.map_eq_some_iff] at h
      obtain ⟨i', hi', h⟩ := h
      have hlt : j < m := by simpa using (List.getElem?_eq_some_iff.1 hi').1
      rw [List.getElem?_range hlt] at hi'
      simp only [Option.some.injEq] at hi'
      subst hi'
      simp only [Prod.mk.injEq] at h
      exact ⟨hlt, h.1.symm, h.2.symm⟩
    have hes2 : ∀ j, j < m → es[j]? = some (cs.getD j Go.undef, [bs.getD j 0]) := by
      intro j hj
      simp only [es, List.getElem?_map, List.getElem?_range hj, Option.map_some]
    have hbsm : bs.length = m := by omega
    let F1 : Forb := ⟨bs, es⟩
    let vs : List AVal := (List.range m).map fun j => AVal.bun j (.ints .i64 (gr xs j)) (gr xs j).length
    have hvs : ∀ j, j < m → vs[j]? = some (.bun j (.ints .i64 (gr xs j)) (gr xs j).length) := by
      intro j hj
      simp only [vs, List.getElem?_map, List.getElem?_range hj, Option.map_some]
    rw [List.nodup_cons] at hnd
    have hlt : ∀ y ∈ bs, y < w.heap.size ∧ y ∈ B := by
      intro y hy
      obtain ⟨j, hj⟩ := List.getElem?_of_mem hy
      have hjm : j < m := by have := (List.getElem?_eq_some_iff.1 hj).1; omega
      obtain ⟨bj, capj, csj, ej, g1, g2, g3, g4, g5, _⟩ := at_ j hjm
      rw [hj] at g1
      simp only [Option.some.injEq] at g1
      subst g1
      exact ⟨heap_lt g5, g2⟩
    have S1 : @Sim F1 [] [] w := @Sim.mk F1 _ _ _ rfl (by simp) (fun y hy => ⟨(hlt y hy).1, List.not_mem_nil⟩) (fun l b' blk hl hb' => by simp at hl)
    let cs1 : Array Value := (Array.range m).map fun j => cs.getD j Go.undef
    have hc1 : ∀ j x, cs1[j]? = some x → j < m ∧ x = cs.getD j Go.undef := by
      intro j x hx
      have hjm : j < m := by simpa [cs1] using (Array.getElem?_eq_some_iff.1 hx).1
      have e : cs1[j]? = some (cs.getD j Go.undef) := by simp [cs1, hjm]
      rw [e] at hx
      exact ⟨hjm, (Option.some.inj hx).symm⟩
    have V0 : @VR F1 [] [] w (.ros vs m 1) (.slice (some ⟨b, 0, none⟩) m cap) := by
      refine @VR.ros F1 [] [] w vs m 1 (some ⟨b, 0, none⟩) cap cs1 (by simp [vs, cs1]) (fun h => by cases h) (fun p hp j x hx => ?_) hm (by simp [vs]) (fun j v hv => ?_)
      · simp only [Option.some.injEq] at hp
        subst hp
        obtain ⟨hjm, rfl⟩ := hc1 j x hx
        refine ⟨⟨heap_lt hh, List.not_mem_nil, hnd.1⟩, ?_⟩
        have hjc : j < cs.size := by omega
        simp [World.cell?, add_lit, hh, hjc]
      · have hjm : j < m := by simpa [vs] using (List.getElem?_eq_some_iff.1 hv).1
        rw [hvs j hjm] at hv
        simp only [Option.some.injEq] at hv
        subst hv
        obtain ⟨bj, capj, csj, ej, g1, g2, g3, g4, g5, g6, g7⟩ := at_ j hjm
        have e1 : cs1.getD j Go.undef = .slice (some ⟨bj, 0, none⟩) (gr xs j).length capj := by
          have : cs1[j]? = some (cs.getD j Go.undef) := by simp [cs1, hjm]
          rw [Array.getD_eq_getD_getElem?, this, Option.getD_some, Array.getD_eq_getD_getElem?, g3, Option.getD_some]
        have e2 : cs.getD j Go.undef = .slice (some ⟨bj, 0, none⟩) (gr xs j).length capj := by rw [Array.getD_eq_getD_getElem?, g3, Option.getD_some]
        rw [e1]
        refine @VR.bun F1 _ _ _ j _ _ _ [bs.getD j 0] ?_ (.inl ⟨rfl, ⟨bj, 0, none⟩, capj, rfl, ⟨bj, csj, ej, rfl, ?_, List.not_mem_nil, g5, g6, g7⟩, g4, Nat.le_refl _⟩)
        · rw [← e2]; exact hes2 j hjm
        · rw [List.getD_eq_getElem?_getD, g1]; simp
    have A1 : @VRs F1 [] [] w [.ros vs m 1, .int .i64 k] (#[.slice (some ⟨b, 0, none⟩) m cap, .int .i64 k] : Array Value).toList :=
      @VRs.cons F1 _ _ _ _ _ _ _ V0 (@VRs.cons F1 _ _ _ _ _ _ _ (@VR.int F1 _ _ _ _ _) (@VRs.nil F1 _ _ _))
    have K1 : @Kept ⟨es⟩ bs w F1 [] m w := by
      refine @Kept.mk ⟨es⟩ bs w F1 [] m w ⟨fun i v B' hi y hy => ?_, fun i j v v' B1 B2 hij hi hj y h1 h2 => ?_⟩ ?_ (MvX.refl _ _) (fun y (hy : y ∈ ([] : List Nat)) => absurd hy List.not_mem_nil) (fun y hy => .inr hy) (List.prefix_refl es)
      · obtain ⟨g1, _, rfl⟩ := hes i v B' hi
        simp only [List.mem_singleton] at hy
        subst hy
        show bs.getD i 0 ∈ bs
        rw [List.getD_eq_getElem?_getD, List.getElem?_eq_getElem (by omega)]
        exact List.getElem_mem _
      · obtain ⟨g1, _, rfl⟩ := hes i v B1 hi
        obtain ⟨g2, _, rfl⟩ := hes j v' B2 hj
        simp only [List.mem_singleton] at h1 h2
        rw [h1] at h2
        rw [List.getD_eq_getElem?_getD, List.getD_eq_getElem?_getD, List.getElem?_eq_getElem (by omega), List.getElem?_eq_getElem (by omega), Option.getD_some, Option.getD_some] at h2
        exact hij ((List.getElem_inj hnd.2).1 h2)
      · show es.length = m
        simp [es]
    obtain ⟨F, hF⟩ : ∃ F : Nat, F = m + 1 := ⟨_, rfl⟩
    have t0 : k = k + (tot.sv (xs.take 0) : Int) := by simp [tot.sv]
    obtain ⟨vs', g1, gv⟩ := loop xs m m F k hmx h3 m 0 F k vs (by omega) (by omega) (fun j _ hj => hvs j hj) (fun j hj => by omega) h2 t0 (by simpa using h4)
    rw [List.drop_zero] at g1
    have hrun : runX Try.prog (orc []) C hd Dr.std F (bodyOf Try.f20) 0 (retX0 Try.prog [4]) (startX 19 [.ros vs m 1, .int .i64 k] [] m) = some ((.int .i64 (k + (tot.sv xs : Int)), .ros vs' m 1), [], m) := by
      rw [start]; exact g1
    refine (@fnX_sound0 ⟨es⟩ noGive (@giveOk1 ⟨es⟩) _ mixed (orc []) _ _ (orc_ok (by simp)) _ Cok _ _ _ _ _ 19 [4] Try.func20 (by kernel_rfl) (by kernel_rfl) (by kernel_rfl) (by kernel_rfl) _ _ _ _ _ _ _ hrun bs w _ F1 [] A1 S1 K1).mono fun e w' ⟨c', he', hv'⟩ => ?_
    obtain ⟨F2, ρ2, c0, v2, u2, S2, K2⟩ := hv'
    cases v2
    have mv := @Kept.mv ⟨es⟩ _ _ _ _ _ _ K2
    have pin : es <+: F2.bun := @Kept.pin ⟨es⟩ _ _ _ _ _ _ K2
    obtain ⟨r2, hr2⟩ := pin
    refine ⟨he', ⟨mv.os, mv.tape, mv.output, mv.size, fun y hy hn => mv.frame y hy fun hm => hn ?_⟩, ?_⟩
    · exact List.mem_flatMap.2 ⟨i, by simp, by rw [he]; exact (hlt y hm).2⟩
    · have hh' : w'.heap[b]? = some (Obj.cells cs t (0, 0)) := by rw [mv.frame b (heap_lt hh) hnd.1]; exact hh
      refine @VR.bun Fb ρ H w' i (.rows .i64 (mkr.sv k xs)) m _ B he (.inl ⟨rfl, ⟨b, 0, none⟩, cap, rfl, ⟨b, cs, t, bs, rfl, hb, hbρ, hh', hcap, List.nodup_cons.2 hnd, by rw [mkr_len]; exact hbl, fun j r bj hj hbj => ?_⟩, hm, by simp only [Cont.len, mkr_len]; omega⟩)
      have hjm : j < m := by have := (List.getElem?_eq_some_iff.1 hbj).1; omega
      rw [mkr_at k xs (by omega)] at hj
      simp only [Option.some.injEq] at hj
      subst hj
      obtain ⟨o1, o2, _⟩ := hrow j (gr xs j) bj (by rw [gr_eq (by omega)]; exact List.getElem?_eq_getElem (by omega)) hbj
      obtain ⟨bj', capj, csj, ej, g1, g2, g3, g4, g5, g6, g7⟩ := at_ j hjm
      rw [hbj] at g1
      simp only [Option.some.injEq] at g1
      subst g1
      refine ⟨o1, o2, ?_⟩
      have ej2 : F2.bun[j]? = some (cs.getD j Go.undef, [bs.getD j 0]) := by
        rw [← hr2, List.getElem?_append_left (by simp [es, hjm])]
        exact hes2 j hjm
      cases u2 with
      | ros _ _ _ a2 cap2 cs2 q1 q2 q3 q4 q5 q6 =>
        have vj := q6 j _ (gv j hjm)
        generalize cs2.getD j Go.undef = cj at vj
        cases vj with
        | bun _ _ _ _ Bj hej hBj =>
          rw [ej2] at hej
          simp only [Option.some.injEq, Prod.mk.injEq] at hej
          obtain ⟨e1, e2⟩ := hej
          rw [Array.getD_eq_getD_getElem?, g3, Option.getD_some] at e1
          rw [List.getD_eq_getElem?_getD, hbj, Option.getD_some] at e2
          subst e1 e2
          obtain ⟨aj, capj', hs, ⟨b3, cs3, e3, k1, k2, k3, k4, k5, k6⟩, k7, k8⟩ := hBj.slice rfl rfl
          simp only [Value.slice.injEq, Option.some.injEq] at hs
          obtain ⟨rfl, _, rfl⟩ := hs
          simp only [List.mem_singleton] at k2
          subst k2
          exact ⟨capj, cs3, e3, by rw [marks_length]; exact g3, by rw [marks_length]; exact g4, k4, k5, k6⟩
end gInt64SS


-- numbers
namespace heldSS
def R : List AVal → Option (Bool × AVal × List Blk)
  | [.ro (.rows .i64 xs) m 1, .int .i64 k] => some (decide (m = xs.length ∧ m ≤ 1048576 ∧ 0 ≤ k ∧ k + (tot.sv xs : Int) ≤ 1000000000 ∧ xs = mkr.sv k xs), .int .i64 (k + (tot.sv xs : Int)), [])
  | _ => none
def hd : Nat → Head := fun _ => ⟨[0, 1, 4, 5], none⟩
noncomputable def L (f n : Nat) (s : State) := loopAt Try.prog (orc [⟨14, heldInt64S.R⟩]) hd Dr.std 0 f (bodyOf Try.f21) 0 [true, false, true] (retK Try.prog [4] 0 none) n s
theorem start (xs : List (List Int)) (m : Nat) (k : Int) (f : Nat) :
  runFn Try.prog (orc [⟨14, heldInt64S.R⟩]) hd Dr.std none f (bodyOf Try.f21) 21 [4] [.ro (.rows .i64 xs) m 1, .int .i64 k] []
  = (L f f (mkS (21 : Nat) [((0 : Nat), AVal.ro (Cont.rows IntKind.i64 xs) m (1 : Nat)), ((1 : Nat), AVal.int IntKind.i64 k), ((4 : Nat), AVal.int IntKind.i64 (0 : Int)), ((5 : Nat), AVal.int IntKind.i64 (0 : Int))] [])) := by kernel_rfl
theorem round (xs : List (List Int)) (m i : Nat) (k : Int) (f n : Nat) :
  L f (n + 1) (mkS 21 [(0, .ro (.rows .i64 xs) m 1), (1, .int .i64 k), (4, .int .i64 0), (5, .int .i64 i)] [])
  = (bif decide ((↑i : Int) < (↑m : Int)) then bif true && (decide ((0 : Int) ≤ (↑i : Int)) && decide ((↑i : Int) < (↑m : Int))) then bif decide ((↑i : Int).toNat < xs.length) then bif decide ((gr xs (↑i : Int).toNat).length ≤ (gr xs (↑i : Int).toNat).length ∧ (gr xs (↑i : Int).toNat).length ≤ (4611686018427387904 : Nat) ∧ (0 : Int) ≤ k ∧ k ≤ (1000000000 : Int)) && (true && (true && true) || true && true) then bif decide ((bif decide (List.take (gr xs (↑i : Int).toNat).length (gr xs (↑i : Int).toNat) = marks.sv k (gr xs (↑i : Int).toNat).length) then k + (↑(gr xs (↑i : Int).toNat).length : Int) else (-1 : Int)) < (0 : Int)) then some (AVal.int IntKind.i64 (-1 : Int), []) else L f n (mkS (21 : Nat) [((0 : Nat), AVal.ro (Cont.rows IntKind.i64 xs) m (1 : Nat)), ((1 : Nat), AVal.int IntKind.i64 (bif decide (List.take (gr xs (↑i : Int).toNat).length (gr xs (↑i : Int).toNat) = marks.sv k (gr xs (↑i : Int).toNat).length) then k + (↑(gr xs (↑i : Int).toNat).length : Int) else (-1 : Int))), ((4 : Nat), AVal.int IntKind.i64 (0 : Int)), ((5 : Nat), AVal.int IntKind.i64 (IntKind.i64.wrap ((↑i : Int) + (1 : Int))))] []) else none else none else none else some (AVal.int IntKind.i64 k, [])) := by kernel_rfl
theorem loop (xs : List (List Int)) (f : Nat) (k0 : Int) (hx : xs.length ≤ 1048576) (hk0 : 0 ≤ k0) (he : xs = mkr.sv k0 xs) : ∀ (d i n : Nat) (k : Int), i + d = xs.length → d < n → k = k0 + (tot.sv (xs.take i) : Int) → k + (tot.sv (xs.drop i) : Int) ≤ 1000000000 →
    L f n (mkS 21 [(0, .ro (.rows .i64 xs) xs.length 1), (1, .int .i64 k), (4, .int .i64 0), (5, .int .i64 (i : Int))] []) = some (.int .i64 (k + (tot.sv (xs.drop i) : Int)), []) := by
  intro d
  induction d with
  | zero =>
    intro i n k hi hn hk ht
    obtain ⟨n, rfl⟩ : ∃ k, n = k + 1 := ⟨n - 1, by omega⟩
    obtain rfl : i = xs.length := by omega
    have e0 : k + ((tot.sv [] : Nat) : Int) = k := Int.add_zero k
    rw [round, List.drop_of_length_le (Nat.le_refl _), e0]
    simp -implicitDefEqProofs (disch := omega) only [take_one, set_one, decide_eq_true, decide_eq_false, IntWalk.i64_in, beqT, beqF, bneT, bneF, nat_succ, ← Int.natCast_mul, ← Int.natCast_add, Int.toNat_natCast, Int.zero_mul, Int.zero_add, Int.add_zero, Nat.zero_add, Nat.add_zero, Nat.zero_mul, List.length_singleton, List.length_append, List.length_nil, List.length_cons, List.take_length, List.drop_zero, List.replicate_zero, List.take_nil, List.nil_append, Nat.reduceBEq, Nat.reduceMul, Nat.reduceLeDiff, eq_self, and_self, true_and, and_true, decide_true, decide_false, Bool.and_self, Bool.or_self, Bool.and_true, Bool.true_and, Bool.and_false, Bool.false_and, Bool.or_true, Bool.true_or, Bool.or_false, Bool.false_or, Bool.not_true, Bool.not_false, cond_true, cond_false]
  | succ d ih =>
    intro i n k hi hn hk ht
    obtain ⟨n, rfl⟩ : ∃ k, n = k + 1 := ⟨n - 1, by omega⟩
    have hlt : i < xs.length := by omega
    have td := gInt64SS.tot_drop hlt
    have tk := gInt64SS.tot_take hlt
    have hr : gr xs i = marks.sv k (gr xs i).length := by
      have h1 := mkr_at k0 xs hlt
      rw [← he, List.getElem?_eq_getElem hlt, ← hk] at h1
      have h2 := Option.some.inj h1
      rw [← gr_eq hlt] at h2
      exact h2
    have tl : (gr xs i).take (gr xs i).length = gr xs i := List.take_length
    have hd : decide (gr xs i = marks.sv k (gr xs i).length) = true := by rw [decide_eq_true_eq]; exact hr
    have lb : (gr xs i).length ≤ 4611686018427387904 := by omega
    have k1 : 0 ≤ k := by omega
    have k2 : k ≤ 1000000000 := by omega
    have k3 : ¬ (k + ((gr xs i).length : Int) < 0) := by omega
    have g := ih (i + 1) n (k + ((gr xs i).length : Int)) (by omega) (by omega) (by rw [hk, tk]; omega) (by omega)
    have e : k + (tot.sv (xs.drop i) : Int) = k + ((gr xs i).length : Int) + (tot.sv (xs.drop (i + 1)) : Int) := by rw [td]; omega
    rw [e, round]
    simp -implicitDefEqProofs (disch := omega) only [tl, hd, lb, k1, k2, k3, beq_self_eq_true, Nat.le_refl, take_one, set_one, decide_eq_true, decide_eq_false, IntWalk.i64_in, beqT, beqF, bneT, bneF, nat_succ, ← Int.natCast_mul, ← Int.natCast_add, Int.toNat_natCast, Int.zero_mul, Int.zero_add, Int.add_zero, Nat.zero_add, Nat.add_zero, Nat.zero_mul, List.length_singleton, List.length_append, List.length_nil, List.length_cons, List.take_length, List.drop_zero, List.replicate_zero, List.take_nil, List.nil_append, Nat.reduceBEq, Nat.reduceMul, Nat.reduceLeDiff, eq_self, and_self, true_and, and_true, decide_true, decide_false, Bool.and_self, Bool.or_self, Bool.and_true, Bool.true_and, Bool.and_false, Bool.false_and, Bool.or_true, Bool.true_or, Bool.or_false, Bool.false_or, Bool.not_true, Bool.not_false, cond_true, cond_false]
    exact g
theorem run : ∀ args v new, R args = some (true, v, new) → ∃ fuel, runFn Try.prog (orc [⟨14, heldInt64S.R⟩]) hd Dr.std none fuel (bodyOf Try.f21) 21 [4] args [] = some (v, new) := by
  intro args v new h
  unfold R at h
  split at h
  · rename_i xs m k
    simp only [Option.some.injEq, Prod.mk.injEq, decide_eq_true_eq] at h
    obtain ⟨⟨rfl, h1, h2, h3, h4⟩, rfl, rfl⟩ := h
    obtain ⟨F, hF⟩ : ∃ F : Nat, F = xs.length + 1 := ⟨_, rfl⟩
    refine ⟨F, ?_⟩
    rw [start]
    have t0 : k = k + (tot.sv (xs.take 0) : Int) := by simp [tot.sv]
    have g := loop xs F k h1 h2 h4 xs.length 0 F k (by omega) (by omega) t0 (by simpa using h3)
    rw [List.drop_zero] at g
    exact g
  · cases h
theorem ok : EntOk Try.prog ⟨21, R⟩ :=
  ent_okA mixed (A := (orc [⟨14, heldInt64S.R⟩])) (orc_ok (by simp only [List.mem_cons, List.not_mem_nil, or_false, forall_eq_or_imp, forall_eq]; exact heldInt64S.ok)) Try.func21 (by kernel_rfl) (by kernel_rfl) (n := 21) (ts := [4]) (hd := hd) (dr := Dr.std) (cut := none) (by kernel_rfl) (by kernel_rfl) (by kernel_rfl) run
end heldSS

namespace eqSSn
def R : List AVal → Option (Bool × AVal × List Blk)
  | [.nils, .nils] => some (true, .bool true, [])
  | _ => none
def hd : Nat → Head := fun _ => ⟨[0, 1, 4, 5], none⟩
theorem nil :
  runFn Try.prog (orc []) hd Dr.std none 1 (bodyOf Try.f19) 27 [4] [.nils, .nils] []
  = (some (AVal.bool true, [])) := by kernel_rfl
theorem run : ∀ args v new, R args = some (true, v, new) → ∃ fuel, runFn Try.prog (orc []) hd Dr.std none fuel (bodyOf Try.f19) 27 [4] args [] = some (v, new) := by
  intro args v new h
  unfold R at h
  split at h
  · simp only [Option.some.injEq, Prod.mk.injEq] at h
    obtain ⟨_, rfl, rfl⟩ := h
    refine ⟨1, ?_⟩
    rw [nil]
  · cases h
theorem ok : EntOk Try.prog ⟨19, R⟩ :=
  ent_okA mixed (A := (orc [])) (orc_ok (by simp)) Try.func19 (by kernel_rfl) (by kernel_rfl) (n := 27) (ts := [4]) (hd := hd) (dr := Dr.std) (cut := none) (by kernel_rfl) (by kernel_rfl) (by kernel_rfl) run
end eqSSn
namespace markSSn
def R : List AVal → Option (Bool × AVal × List Blk)
  | [.nils, .int .i64 k] => some (true, .int .i64 k, [])
  | _ => none
def hd : Nat → Head := fun _ => ⟨[0, 1, 4, 5], none⟩
theorem nil (k : Int) :
  runFn Try.prog (orc []) hd Dr.std none 1 (bodyOf Try.f20) 19 [4] [.nils, .int .i64 k] []
  = (some (AVal.int IntKind.i64 k, [])) := by kernel_rfl
theorem run : ∀ args v new, R args = some (true, v, new) → ∃ fuel, runFn Try.prog (orc []) hd Dr.std none fuel (bodyOf Try.f20) 19 [4] args [] = some (v, new) := by
  intro args v new h
  unfold R at h
  split at h
  · rename_i k
    simp only [Option.some.injEq, Prod.mk.injEq] at h
    obtain ⟨_, rfl, rfl⟩ := h
    refine ⟨1, ?_⟩
    rw [nil]
  · cases h
theorem ok : EntOk Try.prog ⟨20, R⟩ :=
  ent_okA mixed (A := (orc [])) (orc_ok (by simp)) Try.func20 (by kernel_rfl) (by kernel_rfl) (n := 19) (ts := [4]) (hd := hd) (dr := Dr.std) (cut := none) (by kernel_rfl) (by kernel_rfl) (by kernel_rfl) run
end markSSn
namespace heldSSn
def R : List AVal → Option (Bool × AVal × List Blk)
  | [.nils, .int .i64 k] => some (true, .int .i64 k, [])
  | _ => none
def hd : Nat → Head := fun _ => ⟨[0, 1, 4, 5], none⟩
theorem nil (k : Int) :
  runFn Try.prog (orc []) hd Dr.std none 1 (bodyOf Try.f21) 21 [4] [.nils, .int .i64 k] []
  = (some (AVal.int IntKind.i64 k, [])) := by kernel_rfl
theorem run : ∀ args v new, R args = some (true, v, new) → ∃ fuel, runFn Try.prog (orc []) hd Dr.std none fuel (bodyOf Try.f21) 21 [4] args [] = some (v, new) := by
  intro args v new h
  unfold R at h
  split at h
  · rename_i k
    simp only [Option.some.injEq, Prod.mk.injEq] at h
    obtain ⟨_, rfl, rfl⟩ := h
    refine ⟨1, ?_⟩
    rw [nil]
  · cases h
theorem ok : EntOk Try.prog ⟨21, R⟩ :=
  ent_okA mixed (A := (orc [])) (orc_ok (by simp)) Try.func21 (by kernel_rfl) (by kernel_rfl) (n := 21) (ts := [4]) (hd := hd) (dr := Dr.std) (cut := none) (by kernel_rfl) (by kernel_rfl) (by kernel_rfl) run
end heldSSn
end Go.Proofs.Ythecninmmojkgaa.Ab
