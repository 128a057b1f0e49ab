/-
  Slices held as wholes: the copies of lists, and the marks in them.
-/
import Derived.Test.YthecninmmojkgaaAbBuX
import Derived.Test.YthecninmmojkgaaFnP
import Derived.Test.YthecninmmojkgaaFnE
import Derived.Test.YthecninmmojkgaaFnTt
namespace Go.Proofs.Ythecninmmojkgaa.Ab
open Go
set_option linter.unusedVariables false
set_option linter.unusedSimpArgs false
set_option maxRecDepth 100000

/-- A slice that is new is held. -/
theorem KOk.of_ent {P : Program} {f : FuncId} {R : List AVal → Option (Bool × AVal × List Blk)} {R' : List AVal → Option (Bool × AVal × Nat)} (h : EntOk P ⟨f, R⟩)
    (hR : ∀ args u n, R' args = some (true, u, n) → ∃ (xs : List Int) (m : Nat), R args = some (true, .own 0 0 m 0 1, [⟨.typ (.ints .i64 xs), 0⟩]) ∧ u = .bun 0 (.ints .i64 xs) m ∧ n = 1 ∧ m ≤ xs.length) : KOk P ⟨f, R'⟩ := by
  refine ⟨h.1, fun args u n hr w cargs hargs => ?_⟩
  obtain ⟨xs, m, h1, rfl, rfl, h3⟩ := hR args u n hr
  have S0 : @Sim noF [] [] w := @Sim.mk noF [] [] w rfl List.nodup_nil (fun b hb => by cases hb) (fun l b blk h => by simp at h)
  refine (@h.2 args _ _ h1 noF [] w cargs S0 hargs).mono fun e w' ⟨c, he, ρ', hv, S, M⟩ => ⟨c, he, ?_⟩
  cases hv with
  | own _ _ _ _ _ a cap ho hm =>
    obtain ⟨blk, g1, g2, g3⟩ := ho
    simp only [List.getElem?_cons_zero, Option.some.injEq] at g1
    subst g1
    obtain ⟨b, cs, t, r1, rfl, r3, r4, r5⟩ := g3 rfl
    obtain ⟨cs', t', q1, q2, q3⟩ := @Sim.blk noF _ _ _ S 0 b _ rfl r1
    rw [r4] at q1
    simp only [Option.some.injEq, Obj.cells.injEq] at q1
    obtain ⟨rfl, rfl, _⟩ := q1
    have hb : b ∈ ρ' := List.mem_of_getElem? r1
    have hge : w.heap.size ≤ b := by
      rcases Nat.lt_or_ge b w.heap.size with h | h
      · exact absurd hb (M.frame b h List.not_mem_nil).2
      · exact h
    refine ⟨⟨[b], [(.slice (some ⟨b, 0, none⟩) m cap, [b])]⟩, ⟨fun i v B hi x hx => ?_, fun i j v v' B B' hij hi hj => ?_⟩, rfl, fun x hx => ?_, ?_, ⟨M.os, M.tape, M.output, M.size, fun x h1 h2 => (M.frame x h1 h2).1⟩⟩
    · have hi' : [((Value.slice (some ⟨b, 0, none⟩) m cap), [b])][i]? = some (v, B) := hi
      cases i with
      | zero => simp only [List.getElem?_cons_zero, Option.some.injEq, Prod.mk.injEq] at hi'; obtain ⟨_, rfl⟩ := hi'; exact hx
      | succ i => simp at hi'
    · have hi' : [((Value.slice (some ⟨b, 0, none⟩) m cap), [b])][i]? = some (v, B) := hi
      have hj' : [((Value.slice (some ⟨b, 0, none⟩) m cap), [b])][j]? = some (v', B') := hj
      have l1 := (List.getElem?_eq_some_iff.1 hi').1
      have l2 := (List.getElem?_eq_some_iff.1 hj').1
      simp only [List.length_singleton] at l1 l2
      omega
    · have hx' : x ∈ [b] := hx
      simp only [List.mem_singleton] at hx'
      subst hx'
      exact ⟨hge, heap_lt r4⟩
    · refine @VR.bun ⟨[b], [(.slice (some ⟨b, 0, none⟩) m cap, [b])]⟩ [] [] w' 0 (.ints .i64 xs) m _ [b] rfl (.inl ⟨rfl, ⟨b, 0, none⟩, cap, rfl, ⟨b, cs, t, rfl, List.mem_singleton_self b, List.not_mem_nil, r4, by omega, fun j n hj => ?_⟩, hm, h3⟩)
      obtain ⟨x, hx, hvx⟩ := q3 j (.int .i64 n) (by simp [BC.get?, Cont.get?, hj])
      cases hvx
      exact hx

theorem env_nil : EnvOk noF := ⟨fun i v B hi => by
  have h' : ([] : List (Value × List Nat))[i]? = some (v, B) := hi
  simp at h', fun i j v v' B B' _ hi => by
  have h' : ([] : List (Value × List Nat))[i]? = some (v, B) := hi
  simp at h'⟩
theorem kept_nil (X : List Nat) (w : World) : Kept X w noF [] 0 w := ⟨env_nil, rfl, MvX.refl _ _, fun b hb => (by cases hb), fun b hb => (by cases hb), List.nil_prefix⟩
theorem sim_nil (w : World) : @Sim noF [] [] w := @Sim.mk noF [] [] w rfl List.nodup_nil (fun b hb => by cases hb) (fun l b blk h => by simp at h)
namespace kInt64S
def R : List AVal → Option (Bool × AVal × Nat)
  | [.ro (.ints .i64 xs) m 1] => some (decide (m ≤ xs.length ∧ m ≤ 1048576), .bun 0 (.ints .i64 (xs.take m)) m, 1)
  | _ => none
theorem ok : KOk Try.prog ⟨39, R⟩ := KOk.of_ent toInt64S.ok (by
  intro args u n h
  unfold R at h
  split at h
  · rename_i xs m
    simp only [Option.some.injEq, Prod.mk.injEq, decide_eq_true_eq] at h
    obtain ⟨⟨h1, h2⟩, rfl, rfl⟩ := h
    exact ⟨xs.take m, m, by simp [toInt64S.R, h1, h2], rfl, rfl, by rw [List.length_take]; omega⟩
  · cases h)
end kInt64S

/-- What is said of a row that is held. -/
def bi.sp (x : AVal) : Bool := match x with
  | .bun _ (.ints .i64 xs) m => decide (m = xs.length ∧ m ≤ 4611686018427387904)
  | _ => false
def bn.sv (x : AVal) : Nat := match x with
  | .bun i _ _ => i
  | _ => 0
def bm.sv (x : AVal) : Nat := match x with
  | .bun _ _ m => m
  | _ => 0
namespace mInt64S
def R (x : AVal) (k : Int) : Option (Bool × Int) := some (bi.sp x && decide (0 ≤ k ∧ k ≤ 1000000000), k + (bm.sv x : Int))
def ix (x : AVal) : List Nat := [bn.sv x]
theorem ok : MOk Try.prog ⟨13, ix, R⟩ := by
  refine ⟨markInt64S.ok.1, fun x k r h Fb ρ H w c S E hv => ?_⟩
  simp only [R, Option.some.injEq, Prod.mk.injEq, Bool.and_eq_true, decide_eq_true_eq] at h
  obtain ⟨⟨h1, h2⟩, rfl⟩ := h
  unfold bi.sp at h1
  split at h1
  case h_2 => cases h1
  rename_i i xs m
  simp only [decide_eq_true_eq] at h1
  obtain ⟨rfl, h1⟩ := h1
  cases hv with
  | bun _ _ _ x B he hB =>
    obtain ⟨a, cap, rfl, hB, hm, hl⟩ := hB.slice rfl rfl
    obtain ⟨b, cs, t, rfl, hb, hbρ, hh, hcap, hcont⟩ := hB
    have S1 : @Sim noF [b] [⟨.typ (.ints .i64 xs), 0⟩] w := @Sim.mk noF _ _ _ rfl (by simp) (fun b hb => by cases hb) (fun l b' blk hl hb' => by
      cases l with
      | succ l => simp at hl
      | zero =>
        simp only [List.getElem?_cons_zero, Option.some.injEq] at hl hb'
        subst hl hb'
        refine ⟨cs, t, hh, by simp only [BC.len, Cont.len]; omega, fun i v hv => ?_⟩
        simp only [BC.get?, Cont.get?] at hv
        split at hv
        · rename_i n hn
          simp only [Option.some.injEq] at hv; subst hv
          exact ⟨_, hcont i n hn, @VR.int noF _ _ _ _ _⟩
        · cases hv)
    have A1 : @VRs noF [b] [⟨.typ (.ints .i64 xs), 0⟩] w [.own 0 0 xs.length 0 1, .int .i64 k] (#[.slice (some ⟨b, 0, none⟩) xs.length cap, .int .i64 k] : Array Value).toList :=
      @VRs.cons noF _ _ _ _ _ _ _ (@VR.own noF [b] _ w 0 0 xs.length 0 1 ⟨b, 0, none⟩ cap ⟨_, rfl, Nat.le_refl _, fun _ => ⟨b, cs, t, rfl, rfl, by simp [BC.len, Cont.len], hh, by omega⟩⟩ hm) (@VRs.cons noF _ _ _ _ _ _ _ (@VR.int noF _ _ _ _ _) (@VRs.nil noF _ _ _))
    have hc : ACalls Try.prog 13 _ _ _ _ := markInt64S.ok.2 [.own 0 0 xs.length 0 1, .int .i64 k] [⟨.typ (.ints .i64 xs), 0⟩] (.int .i64 (k + xs.length)) [⟨.typ (.ints .i64 (marks.sv k xs.length)), 0⟩] (by simp [markInt64S.R, h1, h2])
    refine (@hc noF [b] w _ S1 A1).mono fun e w' ⟨c', he', ρ', hv', S', M⟩ => ?_
    subst he'
    cases hv'
    refine ⟨rfl, M.os, M.tape, M.output, M.size, fun y hy hn => (M.frame y hy fun hm => hn ?_).1⟩
    simp only [List.mem_singleton] at hm
    subst hm
    exact List.mem_flatMap.2 ⟨i, by simp [ix, bn.sv], by rw [he]; exact hb⟩
end mInt64S

/-! ### Lists of lists -/

/-- Rows that are held, and what leads to them, are held together. -/
theorem held_rows {w w' : World} {c : Value} {vs : List AVal} {m ver : Nat} {rows : List (List Int)} (hr : rows.length = m) (hj : ∀ (j : Nat) (r : List Int), rows[j]? = some r → vs[j]? = some (.bun j (.ints .i64 r) r.length))
    (h : RelV [] w (.own 0 0 m ver 1) [⟨.cells vs, ver⟩] m c w') : ∃ F1 : Forb, EnvOk F1 ∧ F1.bun.length = 1 ∧ (∀ b ∈ F1.l, w.heap.size ≤ b ∧ b < w'.heap.size) ∧ @VR F1 [] [] w' (.bun 0 (.rows .i64 rows) m) c ∧ MvX [] w w' := by
  obtain ⟨Fb, ρ, hv, S, k⟩ := h
  cases hv with
  | own _ _ _ _ _ a cap ho hm =>
    obtain ⟨blk, g1, g2, g3⟩ := ho
    simp only [List.getElem?_cons_zero, Option.some.injEq] at g1
    subst g1
    obtain ⟨b, cs, t, r1, rfl, r3, r4, r5⟩ := g3 rfl
    obtain ⟨cs', t', q1, q2, q3⟩ := @Sim.blk Fb _ _ _ S 0 b _ rfl r1
    rw [r4] at q1
    simp only [Option.some.injEq, Obj.cells.injEq] at q1
    obtain ⟨rfl, rfl, _⟩ := q1
    have hb : b ∈ ρ := List.mem_of_getElem? r1
    have hge : w.heap.size ≤ b := by
      rcases k.ow b hb with h | h
      · exact h
      · cases h
    have old := @Sim.forb Fb _ _ _ S
    have hex : ∀ j, ∃ bj : Nat, j < m → ∃ (r : List Int) (capj : Nat) (csj : Array Value) (ej : TypeId) (B : List Nat) (v : Value), rows[j]? = some r ∧ Fb.bun[j]? = some (v, B) ∧ bj ∈ B ∧ bj ∉ ρ ∧ cs[j]? = some (.slice (some ⟨bj, 0, none⟩) r.length capj) ∧ r.length ≤ capj ∧
        w'.heap[bj]? = some (Obj.cells csj ej (0, 0)) ∧ capj ≤ csj.size ∧ ∀ (i : Nat) (n : Int), r[i]? = some n → csj[i]? = some (.int .i64 n) := by
      intro j
      by_cases hlt : j < m
      · have hrj : rows[j]? = some rows[j] := List.getElem?_eq_getElem (by omega)
        obtain ⟨x, hx, hvx⟩ := q3 j _ (by simp only [BC.get?, nth_eq]; exact hj j _ hrj)
        cases hvx with
        | bun _ _ _ x B he hB =>
          obtain ⟨aj, capj, rfl, hB, hmj, hlj⟩ := hB.slice rfl rfl
          obtain ⟨bj, csj, ej, rfl, s1, s2, s3, s4, s5⟩ := hB
          exact ⟨bj, fun _ => ⟨_, capj, csj, ej, B, _, hrj, he, s1, s2, hx, hmj, s3, s4, s5⟩⟩
      · exact ⟨0, fun h => absurd h hlt⟩
    let g : Nat → Nat := fun j => Classical.choose (hex j)
    have hg : ∀ j, j < m → _ := fun j hj => Classical.choose_spec (hex j) hj
    have hbs : ∀ j bj, ((List.range m).map g)[j]? = some bj → j < m ∧ bj = g j := by
      intro j bj h
      simp only [List.getElem?_map, Option.map_eq_some_iff] at h
      obtain ⟨i, hi, rfl⟩ := h
      have hlt : j < m := by simpa using (List.getElem?_eq_some_iff.1 hi).1
      rw [List.getElem?_range hlt] at hi
      simp only [Option.some.injEq] at hi
      subst hi
      exact ⟨hlt, rfl⟩
    have gin : ∀ j, j < m → g j ∈ Fb.l := fun j hlt => by
      obtain ⟨r, capj, csj, ej, B, v, s1, s2, s3, _⟩ := hg j hlt
      exact k.env.sub j v B s2 _ s3
    have gne : ∀ i j, i < m → j < m → i ≠ j → g i ≠ g j := fun i j hi hj hij he => by
      obtain ⟨r, capj, csj, ej, B, v, s1, s2, s3, _⟩ := hg i hi
      obtain ⟨r', capj', csj', ej', B', v', s1', s2', s3', _⟩ := hg j hj
      exact k.env.dis i j v v' B B' hij s2 s2' (g i) s3 (by
        have : g i = g j := he
        rw [this]; exact s3')
    have one : ∀ (i : Nat) (v : Value) (B : List Nat), [((Value.slice (some ⟨b, 0, none⟩) m cap), b :: Fb.l)][i]? = some (v, B) → i = 0 ∧ B = b :: Fb.l := by
      intro i v B hi
      cases i with
      | zero => simp only [List.getElem?_cons_zero, Option.some.injEq, Prod.mk.injEq] at hi; exact ⟨rfl, hi.2.symm⟩
      | succ i => simp at hi
    refine ⟨⟨b :: Fb.l, [(.slice (some ⟨b, 0, none⟩) m cap, b :: Fb.l)]⟩, ⟨fun i v B hi x hx => ?_, fun i j v v' B B' hij hi hj => ?_⟩, rfl, fun x hx => ?_, ?_, k.mv⟩
    · obtain ⟨_, rfl⟩ := one i v B hi; exact hx
    · obtain ⟨e1, _⟩ := one i v B hi
      obtain ⟨e2, _⟩ := one j v' B' hj
      omega
    · have hx' : x ∈ b :: Fb.l := hx
      rcases List.mem_cons.1 hx' with rfl | hx'
      · exact ⟨hge, heap_lt r4⟩
      · refine ⟨?_, (old x hx').1⟩
        rcases k.fb x hx' with h | h
        · exact h
        · cases h
    · refine @VR.bun ⟨b :: Fb.l, [(.slice (some ⟨b, 0, none⟩) m cap, b :: Fb.l)]⟩ [] [] w' 0 (.rows .i64 rows) m _ (b :: Fb.l) rfl
        (.inl ⟨rfl, ⟨b, 0, none⟩, cap, rfl, ⟨b, cs, t, (List.range m).map g, rfl, List.mem_cons_self, List.not_mem_nil, r4, by omega, ?_, by simp [hr], fun j r bj hrj hbj => ?_⟩, hm, by simp only [Cont.len]; omega⟩)
      · rw [List.nodup_cons]
        refine ⟨fun hm => ?_, ?_⟩
        · obtain ⟨j, hj1, hj2⟩ := List.mem_map.1 hm
          have := gin j (by simpa using hj1)
          rw [hj2] at this
          exact (old b this).2 hb
        · refine List.pairwise_iff_getElem.2 fun i j hi hj hij => ?_
          simp only [List.length_map, List.length_range] at hi hj
          simp only [List.getElem_map, List.getElem_range]
          exact gne i j hi hj (by omega)
      · obtain ⟨hlt, rfl⟩ := hbs j bj hbj
        obtain ⟨r', capj, csj, ej, B, v, s1, s2, s3, s4, s5, s6, s7, s8, s9⟩ := hg j hlt
        rw [hrj] at s1
        simp only [Option.some.injEq] at s1
        subst s1
        exact ⟨List.mem_cons_of_mem _ (gin j hlt), List.not_mem_nil, capj, csj, ej, s5, s6, s7, s8, s9⟩

namespace kInt64SS
def R : List AVal → Option (Bool × AVal × Nat)
  | [.ro (.rows .i64 xs) m 1] => some (decide (m ≤ xs.length ∧ m ≤ 1048576) && short.sp 1048576 (xs.take m), .bun 0 (.rows .i64 (xs.take m)) m, 1)
  | _ => none
def C : XC := ⟨[⟨39, kInt64S.R⟩], [], []⟩
theorem Cok : XCok Try.prog C := ⟨by simp only [C, List.mem_cons, List.not_mem_nil, or_false, forall_eq]; exact kInt64S.ok, by simp [C], by simp [C]⟩
def hd : Nat → List Nat := fun _ => [0, 3, 4, 997]
noncomputable def L (f n : Nat) (x : SX) := loopX Try.prog (orc []) C hd Dr.std f (bodyOf Try.f17) 0 [true, true, false, true] (retX Try.prog [2]) n x
theorem start (xs : List (List Int)) (m f : Nat) :
  runFnX Try.prog (orc []) C hd Dr.std f (bodyOf Try.f17) 23 [2] [.ro (.rows .i64 xs) m 1] [] 0
  = (bif (1 : Nat) == (1 : Nat) && ((↑m : Int) == (↑m : Int) && (decide ((0 : Int) ≤ (↑m : Int)) && (decide ((↑m : Int) * (24 : Int) ≤ (140737488355328 : Int)) && decide ((↑m : Int) ≤ (4611686018427387904 : Int))))) then L f f (mkX (23 : Nat) [((0 : Nat), AVal.ro (Cont.rows IntKind.i64 xs) m (1 : Nat)), ((3 : Nat), AVal.own (0 : Nat) (0 : Nat) (↑m : Int).toNat (0 : Nat) (1 : Nat)), ((4 : Nat), AVal.int IntKind.i64 (0 : Int))] [{ c := BC.cells (tops.sv (List.replicate (↑m : Int).toNat [])), ver := (0 : Nat) }] (0 : Nat)) else none) := by kernel_rfl
theorem round (xs : List (List Int)) (vs : List AVal) (m i q : Nat) (f n : Nat) :
  L f (n + 1) (mkX 23 [(0, .ro (.rows .i64 xs) m 1), (3, .own 0 0 m 0 1), (4, .int .i64 i)] [⟨.cells vs, 0⟩] q)
  = (bif decide ((↑i : Int) < (↑m : Int)) then bif true && (decide ((0 : Int) ≤ (↑i : Int)) && decide ((↑i : Int) < (↑m : Int))) then bif decide ((↑i : Int).toNat < xs.length) then bif decide ((gr xs (↑i : Int).toNat).length ≤ (gr xs (↑i : Int).toNat).length ∧ (gr xs (↑i : Int).toNat).length ≤ (1048576 : Nat)) && true then bif true && (decide ((0 : Int) ≤ (↑i : Int)) && decide ((↑i : Int) < (↑m : Int))) then bif true && (true && (true && decide ((↑i : Int).toNat < hlen vs) && true)) then L f n (mkX (23 : Nat) [((0 : Nat), AVal.ro (Cont.rows IntKind.i64 xs) m (1 : Nat)), ((3 : Nat), AVal.own (0 : Nat) (0 : Nat) m (0 : Nat) (1 : Nat)), ((4 : Nat), AVal.int IntKind.i64 (IntKind.i64.wrap ((↑i : Int) + (1 : Int))))] [{ c := BC.cells (upd vs (↑i : Int).toNat (AVal.bun (q + (0 : Nat)) (Cont.ints IntKind.i64 (List.take (gr xs (↑i : Int).toNat).length (gr xs (↑i : Int).toNat))) (gr xs (↑i : Int).toNat).length)), ver := (0 : Nat) }] (q + (1 : Nat))) else none else none else none else none else none else some (AVal.own (0 : Nat) (0 : Nat) m (0 : Nat) (1 : Nat), [{ c := BC.cells vs, ver := (0 : Nat) }], q)) := by kernel_rfl
theorem loop (xs : List (List Int)) (m : Nat) (f : Nat) (hx : m ≤ xs.length) (hb : m ≤ 1048576) (hs : short.sp 1048576 (xs.take m) = true) : ∀ (d i n : Nat) (vs : List AVal), i + d = m → d < n → vs.length = m →
    (∀ (j : Nat), j < i → vs[j]? = some (.bun j (.ints .i64 (gr xs j)) (gr xs j).length)) → ∃ vs' : List AVal, L f n (mkX 23 [(0, .ro (.rows .i64 xs) m 1), (3, .own 0 0 m 0 1), (4, .int .i64 i)] [⟨.cells vs, 0⟩] i) = some (.own 0 0 m 0 1, [⟨.cells vs', 0⟩], m) ∧
      ∀ (j : Nat), j < m → vs'[j]? = some (.bun j (.ints .i64 (gr xs j)) (gr xs j).length) := by
  intro d
  induction d with
  | zero =>
    intro i n vs hi hn hl hj
    obtain ⟨n, rfl⟩ : ∃ k, n = k + 1 := ⟨n - 1, by omega⟩
    obtain rfl : i = m := by omega
    refine ⟨vs, ?_, hj⟩
    rw [round]
    simp only [Int.lt_irrefl, decide_false, cond_false]
  | succ d ih =>
    intro i n vs hi hn hl hj
    obtain ⟨n, rfl⟩ : ∃ k, n = k + 1 := ⟨n - 1, by omega⟩
    have h1 : i < m := by omega
    have h4 : (0 : Int) ≤ (i : Int) := Int.natCast_nonneg _
    have h5 : (i : Int) < (m : Int) := by omega
    have h2 : i < xs.length := by omega
    have hsi : (gr xs i).length ≤ 1048576 := by
      have := short_get hs (i := i) (by simp; omega)
      rw [gr_eq h2]
      simpa using this
    have hlv : i < hlen vs := by rw [hlen_eq]; omega
    have wi : IntKind.i64.wrap ((i : Int) + 1) = ((i + 1 : Nat) : Int) := wrap_nat i (by omega)
    have e1 : upd vs i (AVal.bun i (.ints .i64 (gr xs i)) (gr xs i).length) = vs.set i (AVal.bun i (.ints .i64 (gr xs i)) (gr xs i).length) := upd_eq _ _ _
    obtain ⟨vs', g1, g2⟩ := ih (i + 1) n (vs.set i (.bun i (.ints .i64 (gr xs i)) (gr xs i).length)) (by omega) (by omega) (by rw [List.length_set]; exact hl) (fun j hjl => by
      rw [List.getElem?_set]
      by_cases e : i = j
      · subst e; rw [if_pos rfl, if_pos (by omega)]
      · rw [if_neg e]; exact hj j (by omega))
    refine ⟨vs', ?_, g2⟩
    rw [← g1, round]
    simp -implicitDefEqProofs only [h4, h5, h2, hsi, hlv, wi, e1, Nat.add_zero, List.take_length, Nat.le_refl, and_self, decide_true, Bool.and_self, Bool.or_self, Bool.and_true, Bool.true_and, Bool.or_true, beq_self_eq_true, cond_true, Int.toNat_natCast]
theorem ok : KOk Try.prog ⟨17, R⟩ := by
  refine ⟨toInt64SS.ok.1, fun args u n h0 w cargs hargs => ?_⟩
  have h : R args = some (true, u, n) := h0
  unfold R at h
  split at h
  case h_2 => cases h
  rename_i xs m
  simp only [Option.some.injEq, Prod.mk.injEq, Bool.and_eq_true, decide_eq_true_eq] at h
  obtain ⟨⟨⟨h1, h2⟩, h3⟩, rfl, rfl⟩ := h
  obtain ⟨F, hF⟩ : ∃ F : Nat, F = m + 1 := ⟨_, rfl⟩
  obtain ⟨vs', g1, g2⟩ := loop xs m F h1 h2 h3 m 0 F (tops.sv (List.replicate m [])) (by omega) (by omega) (by simp [tops.sv]) (fun j hj => by omega)
  have c1 : (0 : Int) ≤ (m : Int) := Int.natCast_nonneg _
  have c2 : (m : Int) * 24 ≤ 140737488355328 := by omega
  have c3 : (m : Int) ≤ 4611686018427387904 := by omega
  have hrun : runFnX Try.prog (orc []) C hd Dr.std F (bodyOf Try.f17) 23 [2] [.ro (.rows .i64 xs) m 1] [] 0 = some (.own 0 0 m 0 1, [⟨.cells vs', 0⟩], m) := by
    rw [start, ← g1]
    simp -implicitDefEqProofs only [c1, c2, c3, beq_self_eq_true, decide_true, Bool.and_self, cond_true, Int.toNat_natCast, List.length_replicate, Int.ofNat_zero, Int.natCast_zero]
    try rfl
  have S0 : @Sim noF [] [] w := @Sim.mk noF [] [] w rfl List.nodup_nil (fun b hb => by cases hb) (fun l b blk h => by simp at h)
  refine (fnX_sound (X := []) mixed (A := orc []) (orc_ok (by simp)) Cok Try.func17 (by kernel_rfl) (n := 23) (ts := [2]) (by kernel_rfl) (by kernel_rfl) (by kernel_rfl) hrun hargs S0
    (kept_nil _ _)).mono fun e w' ⟨c, he, hv⟩ => ⟨c, he, ?_⟩
  refine held_rows (by rw [List.length_take]; omega) (fun j r hj => ?_) hv
  rw [List.getElem?_take] at hj
  split at hj
  · rename_i hlt
    have := g2 j hlt
    rw [gr_eq (by omega)] at this
    rw [List.getElem?_eq_getElem (by omega)] at hj
    simp only [Option.some.injEq] at hj
    subst hj
    exact this
  · cases hj
end kInt64SS

namespace mInt64SS
def R (x : AVal) (k : Int) : Option (Bool × Int) := match x with
  | .bun _ (.rows .i64 xs) m => some (decide (m = xs.length ∧ m ≤ 1048576 ∧ 0 ≤ k ∧ k + (tot.sv xs : Int) ≤ 1000000000), k + (tot.sv xs : Int))
  | _ => none
def ix (x : AVal) : List Nat := match x with
  | .bun i _ _ => [i]
  | _ => []
def C : XC := ⟨[], [⟨13, mInt64S.ix, mInt64S.R⟩], []⟩
theorem Cok : XCok Try.prog C := ⟨by simp [C], by simp only [C, List.mem_cons, List.not_mem_nil, or_false, forall_eq]; exact mInt64S.ok, by simp [C]⟩
def hd : Nat → List Nat := fun _ => [0, 1, 5]
noncomputable def L (f n : Nat) (x : SX) := loopX Try.prog (orc []) C hd Dr.std f (bodyOf Try.f20) 0 [true, false, true] (retX Try.prog [4]) n x
theorem start (vs : List AVal) (m q : Nat) (k : Int) (f : Nat) :
  runFnX Try.prog (orc []) C hd Dr.std f (bodyOf Try.f20) 19 [4] [.own 0 0 m 0 1, .int .i64 k] [⟨.cells vs, 0⟩] q
  = (L f f (mkX (19 : Nat) [((0 : Nat), AVal.own (0 : Nat) (0 : Nat) m (0 : Nat) (1 : Nat)), ((1 : Nat), AVal.int IntKind.i64 k), ((5 : Nat), AVal.int IntKind.i64 (0 : Int))] [{ c := BC.cells vs, ver := (0 : Nat) }] q)) := by kernel_rfl
theorem round (vs : List AVal) (m i q : Nat) (k : Int) (f n : Nat) :
  L f (n + 1) (mkX 19 [(0, .own 0 0 m 0 1), (1, .int .i64 k), (5, .int .i64 i)] [⟨.cells vs, 0⟩] q)
  = (bif decide ((↑i : Int) < (↑m : Int)) then bif true && (decide ((0 : Int) ≤ (↑i : Int)) && decide ((↑i : Int) < (↑m : Int))) then bif true && (gaK vs (↑i : Int).toNat).1 then bif bi.sp (gaK vs (↑i : Int).toNat).2 && decide ((0 : Int) ≤ k ∧ k ≤ (1000000000 : Int)) then L f n (mkX (19 : Nat) [((0 : Nat), AVal.own (0 : Nat) (0 : Nat) m (0 : Nat) (1 : Nat)), ((1 : Nat), AVal.int IntKind.i64 (k + (↑(bm.sv (gaK vs (↑i : Int).toNat).2) : Int))), ((5 : Nat), AVal.int IntKind.i64 (IntKind.i64.wrap ((↑i : Int) + (1 : Int))))] [{ c := BC.cells (AVal.mapB.mapBs (drp (mInt64S.ix (gaK vs (↑i : Int).toNat).2)) vs), ver := (0 : Nat) }] q) else none else none else none else some (AVal.int IntKind.i64 k, [{ c := BC.cells vs, ver := (0 : Nat) }], q)) := by kernel_rfl
theorem tot_drop {xs : List (List Int)} {i : Nat} (h : i < xs.length) : tot.sv (xs.drop i) = (gr xs i).length + tot.sv (xs.drop (i + 1)) := by
  rw [List.drop_eq_getElem_cons h, gr_eq h]
  unfold tot.sv
  rw [List.map_cons, List.sum_cons]
theorem bi_bun (i : Nat) (r : List Int) (h : r.length ≤ 4611686018427387904) : bi.sp (.bun i (.ints .i64 r) r.length) = true := by simp [bi.sp, h]
theorem bm_bun (i : Nat) (c : Cont) (n : Nat) : bm.sv (.bun i c n) = n := rfl
theorem ix_bun (i : Nat) (c : Cont) (n : Nat) : mInt64S.ix (.bun i c n) = [i] := rfl
theorem loop (xs : List (List Int)) (m q f : Nat) (hm : m = xs.length) : ∀ (d i n : Nat) (k : Int) (vs : List AVal), i + d = m → d < n → 
    (∀ (j : Nat), i ≤ j → j < m → vs[j]? = some (.bun j (.ints .i64 (gr xs j)) (gr xs j).length)) → m ≤ 1048576 → 0 ≤ k → k + (tot.sv (xs.drop i) : Int) ≤ 1000000000 →
    ∃ vs' : List AVal, L f n (mkX 19 [(0, .own 0 0 m 0 1), (1, .int .i64 k), (5, .int .i64 i)] [⟨.cells vs, 0⟩] q) = some (.int .i64 (k + (tot.sv (xs.drop i) : Int)), [⟨.cells vs', 0⟩], q) := by
  intro d
  induction d with
  | zero =>
    intro i n k vs hi hn hj hb hk ht
    obtain ⟨n, rfl⟩ : ∃ k, n = k + 1 := ⟨n - 1, by omega⟩
    obtain rfl : i = m := by omega
    refine ⟨vs, ?_⟩
    rw [round, List.drop_of_length_le (by omega)]
    simp only [Int.lt_irrefl, decide_false, cond_false, tot.sv, List.map_nil, List.sum_nil, Int.natCast_zero, Int.add_zero]
  | succ d ih =>
    intro i n k vs hi hn hj hb hk ht
    obtain ⟨n, rfl⟩ : ∃ k, n = k + 1 := ⟨n - 1, by omega⟩
    have h4 : (0 : Int) ≤ (i : Int) := Int.natCast_nonneg _
    have h5 : (i : Int) < (m : Int) := by omega
    have h2 : i < xs.length := by omega
    have hd := tot_drop h2
    have hg : gaK vs i = (true, .bun i (.ints .i64 (gr xs i)) (gr xs i).length) := gaK_nth (by rw [nth_eq]; exact hj i (Nat.le_refl _) (by omega))
    have hbi := bi_bun i (gr xs i) (by omega)
    have hk2 : k ≤ 1000000000 := by omega
    have wi : IntKind.i64.wrap ((i : Int) + 1) = ((i + 1 : Nat) : Int) := wrap_nat i (by omega)
    obtain ⟨vs', g1⟩ := ih (i + 1) n (k + ((gr xs i).length : Int)) (AVal.mapB.mapBs (drp [i]) vs) (by omega) (by omega) (fun j h1 h3 => by
      rw [mapBs_eq, List.getElem?_map, hj j (by omega) h3]
      have : (j == i) = false := by rw [beq_eq_false_iff_ne]; omega
      simp [AVal.mapB, drp, hasN, eqN_eq, this]) hb (by omega) (by rw [hd] at ht; omega)
    refine ⟨vs', ?_⟩
    have e : k + (tot.sv (xs.drop i) : Int) = k + ((gr xs i).length : Int) + (tot.sv (xs.drop (i + 1)) : Int) := by rw [hd]; omega
    rw [e, ← g1, round]
    simp -implicitDefEqProofs only [h4, h5, hg, hbi, bm_bun, ix_bun, hk, hk2, wi, and_self, decide_true, Bool.and_self, Bool.and_true, Bool.true_and, cond_true, Int.toNat_natCast]
theorem ok : MOk Try.prog ⟨20, ix, R⟩ := by
  refine ⟨⟨_, Try.func20, by kernel_rfl, by kernel_rfl⟩, fun x k r h0 Fb ρ H w c S E hv => ?_⟩
  have h : R x k = some (true, r) := h0
  unfold R at h
  split at h
  case h_2 => cases h
  rename_i i xs m
  simp only [Option.some.injEq, Prod.mk.injEq, decide_eq_true_eq] at h
  obtain ⟨⟨hmx, h2, h3, h4⟩, rfl⟩ := h
  cases hv with
  | bun _ _ _ x B he hB =>
    obtain ⟨a, cap, rfl, hB, hm, hl⟩ := hB.slice rfl rfl
    obtain ⟨b, cs, t, bs, rfl, hb, hbρ, hh, hcap, hnd, hbl, hrow⟩ := hB
    have hcs : m ≤ cs.size := by omega
    have at_ : ∀ j, j < m → ∃ bj capj csj ej, bs[j]? = some bj ∧ bj ∈ B ∧ cs[j]? = some (.slice (some ⟨bj, 0, none⟩) (gr xs j).length capj) ∧ (gr xs j).length ≤ capj ∧ w.heap[bj]? = some (Obj.cells csj ej (0, 0)) ∧ capj ≤ csj.size ∧
        ∀ (i : Nat) (n : Int), (gr xs j)[i]? = some n → csj[i]? = some (.int .i64 n) := by
      intro j hj
      have h1 : xs[j]? = some (gr xs j) := by rw [gr_eq (by omega)]; exact List.getElem?_eq_getElem (by omega)
      have h2 : bs[j]? = some bs[j] := List.getElem?_eq_getElem (by omega)
      obtain ⟨g1, g2, capj, csj, ej, g3, g4, g5, g6, g7⟩ := hrow j _ _ h1 h2
      exact ⟨bs[j], capj, csj, ej, h2, g1, g3, g4, g5, g6, g7⟩
    let es : List (Value × List Nat) := (List.range m).map fun j => (cs.getD j Go.undef, [bs.getD j 0])
    have hes : ∀ j v B', es[j]? = some (v, B') → j < m ∧ v = cs.getD j Go.undef ∧ B' = [bs.getD j 0] := by
      intro j v B' h
      simp only [es, List.getElem?_map, Option.map_eq_some_iff] at h
      obtain ⟨i', hi', h⟩ := h
      have hlt : j < m := by simpa using (List.getElem?_eq_some_iff.1 hi').1
      rw [List.getElem?_range hlt] at hi'
      simp only [Option.some.injEq] at hi'
      subst hi'
      simp only [Prod.mk.injEq] at h
      exact ⟨hlt, h.1.symm, h.2.symm⟩
    have hes2 : ∀ j, j < m → es[j]? = some (cs.getD j Go.undef, [bs.getD j 0]) := by
      intro j hj
      simp only [es, List.getElem?_map, List.getElem?_range hj, Option.map_some]
    have hbsm : bs.length = m := by omega
    let F1 : Forb := ⟨bs, es⟩
    let vs : List AVal := (List.range m).map fun j => AVal.bun j (.ints .i64 (gr xs j)) (gr xs j).length
    have hvs : ∀ j, j < m → vs[j]? = some (.bun j (.ints .i64 (gr xs j)) (gr xs j).length) := by
      intro j hj
      simp only [vs, List.getElem?_map, List.getElem?_range hj, Option.map_some]
    rw [List.nodup_cons] at hnd
    have hlt : ∀ y ∈ bs, y < w.heap.size ∧ y ∈ B := by
      intro y hy
      obtain ⟨j, hj⟩ := List.getElem?_of_mem hy
      have hjm : j < m := by have := (List.getElem?_eq_some_iff.1 hj).1; omega
      obtain ⟨bj, capj, csj, ej, g1, g2, g3, g4, g5, _⟩ := at_ j hjm
      rw [hj] at g1
      simp only [Option.some.injEq] at g1
      subst g1
      exact ⟨heap_lt g5, g2⟩
    have S1 : @Sim F1 [b] [⟨.cells vs, 0⟩] w := @Sim.mk F1 _ _ _ rfl (by simp) (fun y hy => ⟨(hlt y hy).1, fun hm => hnd.1 (by
        simp only [List.mem_singleton] at hm
        subst hm; exact hy)⟩) (fun l b' blk hl hb' => by
      cases l with
      | succ l => simp at hl
      | zero =>
        simp only [List.getElem?_cons_zero, Option.some.injEq] at hl hb'
        subst hl hb'
        refine ⟨cs, t, hh, by simp only [BC.len, hlen_eq, vs, List.length_map, List.length_range]; omega, fun j v hv => ?_⟩
        simp only [BC.get?, nth_eq] at hv
        have hjm : j < m := by simpa [vs] using (List.getElem?_eq_some_iff.1 hv).1
        rw [hvs j hjm] at hv
        simp only [Option.some.injEq] at hv
        subst hv
        obtain ⟨bj, capj, csj, ej, g1, g2, g3, g4, g5, g6, g7⟩ := at_ j hjm
        refine ⟨_, g3, @VR.bun F1 _ _ _ j _ _ _ [bs.getD j 0] ?_ (.inl ⟨rfl, ⟨bj, 0, none⟩, capj, rfl, ⟨bj, csj, ej, rfl, ?_, ?_, g5, g6, g7⟩, g4, Nat.le_refl _⟩)⟩
        · have := hes2 j hjm
          rw [Array.getD_eq_getD_getElem?, g3, Option.getD_some] at this
          exact this
        · rw [List.getD_eq_getElem?_getD, g1]; simp
        · intro hm
          simp only [List.mem_singleton] at hm
          subst hm
          exact hnd.1 (List.mem_of_getElem? g1))
    have A1 : @VRs F1 [b] [⟨.cells vs, 0⟩] w [.own 0 0 m 0 1, .int .i64 k] (#[.slice (some ⟨b, 0, none⟩) m cap, .int .i64 k] : Array Value).toList :=
      @VRs.cons F1 _ _ _ _ _ _ _ (@VR.own F1 [b] _ w 0 0 m 0 1 ⟨b, 0, none⟩ cap ⟨_, rfl, Nat.le_refl _, fun _ => ⟨b, cs, t, rfl, rfl, by simp [BC.len, hlen_eq, vs], hh, by omega⟩⟩ hm) (@VRs.cons F1 _ _ _ _ _ _ _ (@VR.int F1 _ _ _ _ _) (@VRs.nil F1 _ _ _))
    have K1 : Kept B w F1 [b] m w := by
      refine ⟨⟨fun i v B' hi y hy => ?_, fun i j v v' B1 B2 hij hi hj y h1 h2 => ?_⟩, ?_, MvX.refl _ _, fun y hy => .inr (by
        simp only [List.mem_singleton] at hy
        subst hy; exact hb), fun y hy => .inr (hlt y hy).2, List.nil_prefix⟩
      · obtain ⟨g1, _, rfl⟩ := hes i v B' hi
        simp only [List.mem_singleton] at hy
        subst hy
        show bs.getD i 0 ∈ bs
        rw [List.getD_eq_getElem?_getD, List.getElem?_eq_getElem (by omega)]
        exact List.getElem_mem _
      · obtain ⟨g1, _, rfl⟩ := hes i v B1 hi
        obtain ⟨g2, _, rfl⟩ := hes j v' B2 hj
        simp only [List.mem_singleton] at h1 h2
        rw [h1] at h2
        rw [List.getD_eq_getElem?_getD, List.getD_eq_getElem?_getD, List.getElem?_eq_getElem (by omega), List.getElem?_eq_getElem (by omega), Option.getD_some, Option.getD_some] at h2
        exact hij ((List.getElem_inj hnd.2).1 h2)
      · show es.length = m
        simp [es]
    obtain ⟨F, hF⟩ : ∃ F : Nat, F = m + 1 := ⟨_, rfl⟩
    obtain ⟨vs', g1⟩ := loop xs m m F hmx m 0 F k vs (by omega) (by omega) (fun j _ hj => hvs j hj) h2 h3 (by simpa using h4)
    rw [List.drop_zero] at g1
    have hrun : runFnX Try.prog (orc []) C hd Dr.std F (bodyOf Try.f20) 19 [4] [.own 0 0 m 0 1, .int .i64 k] [⟨.cells vs, 0⟩] m = some (.int .i64 (k + (tot.sv xs : Int)), [⟨.cells vs', 0⟩], m) := by
      rw [start]; exact g1
    refine (fnX_sound (X := B) mixed (A := orc []) (orc_ok (by simp)) Cok Try.func20 (by kernel_rfl) (n := 19) (ts := [4]) (by kernel_rfl) (by kernel_rfl) (by kernel_rfl) hrun A1 S1 K1).mono fun e w' ⟨c', he', hv'⟩ => ?_
    obtain ⟨F2, ρ2, v2, S2, K2⟩ := hv'
    cases v2
    refine ⟨he', K2.mv.os, K2.mv.tape, K2.mv.output, K2.mv.size, fun y hy hn => K2.mv.frame y hy fun hm => hn ?_⟩
    exact List.mem_flatMap.2 ⟨i, by simp [ix], by rw [he]; exact hm⟩
end mInt64SS

end Go.Proofs.Ythecninmmojkgaa.Ab
