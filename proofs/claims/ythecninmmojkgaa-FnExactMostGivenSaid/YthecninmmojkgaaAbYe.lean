/-
  The abstract machine, where slices are held that others may read too: contracts.
-/
import Derived.Test.YthecninmmojkgaaAbYr
namespace Go.Proofs.Ythecninmmojkgaa.Ab
open Go
set_option linter.unusedVariables false
set_option linter.unusedSimpArgs false

theorem entY_ok {P : Program} (hm : P.follows .mixedOrders = true) {A : OrcK} [hR : OrcRen A] [hL : OrcLoc A] (hA : OrcOk P A.plain) {C : YC} (hC : YCok P C) (hv : C.vw = []) {f : FuncId} {k : Nat} {fn : Func} {R : List AVal → Heap → Nat → Option (Bool × AVal × Heap × Nat)} {hd : Nat → HeadY} {dr : Nat → Dr} {en : Nat → List (List Nat)} {cut : HeadY} {n : Nat} {ts : List ResultVar}
    (hf : P.funcs[f]? = some fn) (hbn : fn.body.isNone = false) (hname : (fn.name == "runtime.NumGoroutine") = false) (hn : fn.ntmps = n) (hr : fn.results = ts.toArray) (hc : drawChkY dr en (bodyOf fn) = true)
    (hlow : ∀ args H m v H' m', R args H m = some (true, v, H', m') → AVal.inR.inRs k args = true ∧ blksIn k k H = true ∧ H.length = k ∧ H'.length = k)
    (h : ∀ args H m v H' m', R args H m = some (true, v, H', m') → ∃ fuel, runFnY P A C hd dr en cut fuel (bodyOf fn) n ts args H m = some (v, H', m')) : EntYOk P ⟨f, k, R⟩ := by
  refine ⟨⟨fn, hf, hbn, hname⟩, fun args H m v H' m' hR0 => ?_, fun args H m v H' m' hR0 lo Fb ρ w cargs hlo So S hargs => ?_⟩
  · obtain ⟨h1, h2, h3, h4⟩ := hlow args H m v H' m' hR0
    refine ⟨h1, fun l blk hl => blksIn_get h2 l blk ?_ hl, h3, h4⟩
    have := (List.getElem?_eq_some_iff.1 hl).1
    show l < k
    omega
  · obtain ⟨fuel, hrun⟩ := h args H m v H' m' hR0
    exact fnY_sound hm hA hC hf hbn hn hr hc hrun hlo (.inl hv) So S hargs

/-- Lists of a block that are held are a list of lists that is held. -/
theorem closeY {F1 : Forb} {ρ1 : List Nat} {H' : Heap} {w w' : World} {m' l p ver : Nat} {vs : List AVal} {rows : List (List Int)} {ix : Nat → Nat} {c : Value} (hr : rows.length = p) (hinj : ∀ i j, i < p → j < p → ix i = ix j → i = j)
    (hj : ∀ (j : Nat) (r : List Int), rows[j]? = some r → vs[j]? = some (.bun (ix j) (.ints .i64 r) r.length)) (hl : H'[l]? = some ⟨.cells vs, ver⟩)
    (So : Soft w.heap.size F1 ρ1 m' w') (S : @Sim F1 ρ1 H' w') (M : Mv [] [] w ρ1 H' w') (h : @VR F1 ρ1 H' w' (.own l 0 p ver 1) c) :
    ∃ B : List Nat, BunV B [] w' (.rows .i64 rows) p c ∧ ∀ b ∈ B, w.heap.size ≤ b ∧ b < w'.heap.size := by
  cases h with
  | own _ _ _ _ _ a cap ho hm =>
    obtain ⟨blk, g1, g2, g3⟩ := ho
    rw [hl] at g1
    simp only [Option.some.injEq] at g1
    subst g1
    obtain ⟨b, cs, t, r1, rfl, r3, r4, r5⟩ := g3 rfl
    obtain ⟨cs', t', q1, q2, q3⟩ := @Sim.blk F1 _ _ _ S l b _ hl r1
    rw [r4] at q1
    simp only [Option.some.injEq, Obj.cells.injEq] at q1
    obtain ⟨rfl, rfl, _⟩ := q1
    have hb : b ∈ ρ1 := List.mem_of_getElem? r1
    have hge : w.heap.size ≤ b := by
      by_cases h : w.heap.size ≤ b
      · exact h
      · exact absurd hb (M.frame b (by omega) List.not_mem_nil).2
    have hex : ∀ j, ∃ bj : Nat, j < p → ∃ (r : List Int) (capj : Nat) (csj : Array Value) (ej : TypeId) (B : List Nat) (v : Value), rows[j]? = some r ∧ F1.bun[ix j]? = some (v, B) ∧ bj ∈ B ∧ bj ∉ ρ1 ∧ cs[j]? = some (.slice (some ⟨bj, 0, none⟩) r.length capj) ∧ r.length ≤ capj ∧
        w'.heap[bj]? = some (Obj.cells csj ej (0, 0)) ∧ capj ≤ csj.size ∧ ∀ (i : Nat) (n : Int), r[i]? = some n → csj[i]? = some (.int .i64 n) := by
      intro j
      by_cases hlt : j < p
      · have hrj : rows[j]? = some rows[j] := List.getElem?_eq_getElem (by omega)
        obtain ⟨x, hx, hvx⟩ := q3 j _ (by simp only [BC.get?, nth_eq]; exact hj j _ hrj)
        cases hvx with
        | bun _ _ _ x B he hB =>
          obtain ⟨aj, capj, rfl, hB, hmj, hlj⟩ := hB.slice rfl rfl
          obtain ⟨bj, csj, ej, rfl, s1, s2, s3, s4, s5⟩ := hB
          exact ⟨bj, fun _ => ⟨_, capj, csj, ej, B, _, hrj, he, s1, s2, hx, hmj, s3, s4, s5⟩⟩
      · exact ⟨0, fun h => absurd h hlt⟩
    let g : Nat → Nat := fun j => Classical.choose (hex j)
    have hg : ∀ j, j < p → _ := fun j hj => Classical.choose_spec (hex j) hj
    have hbs : ∀ j bj, ((List.range p).map g)[j]? = some bj → j < p ∧ bj = g j := by
      intro j bj h
      simp only [List.getElem?_map, Option.map_eq_some_iff] at h
      obtain ⟨i, hi, rfl⟩ := h
      have hlt : j < p := by simpa using (List.getElem?_eq_some_iff.1 hi).1
      rw [List.getElem?_range hlt] at hi
      simp only [Option.some.injEq] at hi
      subst hi
      exact ⟨hlt, rfl⟩
    have gin : ∀ j, j < p → w.heap.size ≤ g j ∧ g j < w'.heap.size := fun j hlt => by
      obtain ⟨r, capj, csj, ej, B, v, s1, s2, s3, _⟩ := hg j hlt
      obtain ⟨h1, h2, _⟩ := So.bl _ v B s2 _ s3
      exact ⟨h1, h2⟩
    have gρ : ∀ j, j < p → g j ≠ b := fun j hlt he => by
      obtain ⟨r, capj, csj, ej, B, v, s1, s2, s3, s4, _⟩ := hg j hlt
      exact s4 (by rw [show Classical.choose (hex j) = b from he]; exact hb)
    have gne : ∀ i j, i < p → j < p → i ≠ j → g i ≠ g j := fun i j hi hj hij he => by
      obtain ⟨_, _, _, _, B, v, _, s2, s3, _⟩ := hg i hi
      obtain ⟨_, _, _, _, B', v', _, s2', s3', _⟩ := hg j hj
      exact So.dis (ix i) (ix j) v v' B B' (fun e => hij (hinj i j hi hj e)) s2 s2' _ s3 (by rw [show Classical.choose (hex i) = Classical.choose (hex j) from he]; exact s3')
    have hnd : ((List.range p).map g).Nodup := by
      refine List.pairwise_iff_getElem.2 fun i j hi hj hij => ?_
      have hi' : i < p := by simpa using hi
      have hj' : j < p := by simpa using hj
      simp only [List.getElem_map, List.getElem_range]
      exact gne i j hi' hj' (by omega)
    refine ⟨b :: (List.range p).map g, .inl ⟨rfl, ⟨b, 0, none⟩, cap, rfl, ⟨b, cs, t, (List.range p).map g, rfl, List.mem_cons_self, List.not_mem_nil, r4, by omega, List.nodup_cons.2 ⟨fun h => ?_, hnd⟩, by simp [hr], fun j r bj hrj hbj => ?_⟩, hm, by simp only [Cont.len]; omega⟩, fun y hy => ?_⟩
    · obtain ⟨j, hj⟩ := List.getElem?_of_mem h
      obtain ⟨hlt, e⟩ := hbs j _ hj
      exact gρ j hlt e.symm
    · obtain ⟨hlt, rfl⟩ := hbs j bj hbj
      obtain ⟨r', capj, csj, ej, B, v, s1, s2, s3, s4, s5, s6, s7, s8, s9⟩ := hg j hlt
      rw [hrj] at s1
      simp only [Option.some.injEq] at s1
      subst s1
      exact ⟨List.mem_cons_of_mem _ (List.mem_of_getElem? hbj), List.not_mem_nil, capj, csj, ej, s5, s6, s7, s8, s9⟩
    · rcases List.mem_cons.1 hy with rfl | hy
      · exact ⟨hge, heap_lt r4⟩
      · obtain ⟨j, hj⟩ := List.getElem?_of_mem hy
        obtain ⟨hlt, rfl⟩ := hbs j _ hj
        exact gin j hlt

/-- A function that makes a list of lists that is held: 'T' puts it into what comes back. -/
theorem kY_ok {P : Program} (hm : P.follows .mixedOrders = true) {A : OrcK} [hR : OrcRen A] [hL : OrcLoc A] (hA : OrcOk P A.plain) (C : List AVal → YC) (hC : ∀ args, YCok P (C args)) {f : FuncId} {fn : Func} {R : List AVal → Option (Bool × AVal × Nat)} {hd : Nat → HeadY} {dr : Nat → Dr} {en : Nat → List (List Nat)} {cut : HeadY} {n : Nat} {ts : List ResultVar}
    (hf : P.funcs[f]? = some fn) (hbn : fn.body.isNone = false) (hname : (fn.name == "runtime.NumGoroutine") = false) (hn : fn.ntmps = n) (hr : fn.results = ts.toArray) (hc : drawChkY dr en (bodyOf fn) = true)
    (T : List AVal → AVal → AVal) (hT : ∀ (args : List AVal) (F1 : Forb) (ρ1 : List Nat) (H1 : Heap) (w : World) (v : AVal) (c : Value), @VR F1 ρ1 H1 w (T args v) c → ∃ x, @VR F1 ρ1 H1 w v x ∧ ∀ (F2 : Forb) (u : AVal), @VR F2 [] [] w u x → @VR F2 [] [] w (T args u) c)
    (h : ∀ args u k, R args = some (true, u, k) → ∃ (rows : List (List Int)) (fuel : Nat) (H' : Heap) (m' l p ver : Nat) (vs : List AVal) (ix : Nat → Nat), u = T args (.bun 0 (.rows .i64 rows) p) ∧ k = 1 ∧ rows.length = p ∧ (∀ i j, i < p → j < p → ix i = ix j → i = j) ∧
      (∀ (j : Nat) (r : List Int), rows[j]? = some r → vs[j]? = some (.bun (ix j) (.ints .i64 r) r.length)) ∧ H'[l]? = some ⟨.cells vs, ver⟩ ∧ runFnY P A (C args) hd dr en cut fuel (bodyOf fn) n ts args [] 0 = some (T args (.own l 0 p ver 1), H', m')) : KOk P ⟨f, R⟩ := by
  refine ⟨⟨fn, hf, hbn, hname⟩, fun args u k hR0 w cargs hargs => ?_⟩
  obtain ⟨rows, fuel, H', m', l, p, ver, vs, ix, rfl, rfl, h1, h2, h3, h4, hrun⟩ := h args u k hR0
  have S0 : @Sim noF [] [] w := @Sim.mk noF [] [] w rfl List.nodup_nil (fun b hb => by cases hb) (fun l b blk h => by simp at h)
  have So : Soft w.heap.size noF [] 0 w := ⟨rfl, fun i x B hi => by
    have h' : ([] : List (Value × List Nat))[i]? = some (x, B) := hi
    simp at h', fun i j x x' B B' _ hi => by
    have h' : ([] : List (Value × List Nat))[i]? = some (x, B) := hi
    simp at h'⟩
  refine (fnY_sound hm hA (hC args) hf hbn hn hr hc hrun (Nat.le_refl _) (.inr rfl) So S0 hargs).mono fun e w' ⟨c, he, F1, ρ1, So1, G1, v1, S1, M1⟩ => ⟨c, he, ?_⟩
  obtain ⟨x, vx, hx⟩ := hT args F1 ρ1 H' w' _ c v1
  obtain ⟨B, hB, hb⟩ := closeY h1 h2 h3 h4 So1 S1 M1 vx
  refine ⟨⟨B, [(x, B)]⟩, ⟨fun i v B' hi y hy => ?_, fun i j v v' B1 B2 hij hi hj => ?_⟩, rfl, hb, hx _ _ (@VR.bun ⟨B, [(x, B)]⟩ [] [] w' 0 _ p x B rfl hB), ⟨M1.os, M1.tape, M1.output, M1.size, fun y hy _ => (M1.frame y hy List.not_mem_nil).1⟩⟩
  · have hi' : [(x, B)][i]? = some (v, B') := hi
    cases i with
    | zero => simp only [List.getElem?_cons_zero, Option.some.injEq, Prod.mk.injEq] at hi'; obtain ⟨_, rfl⟩ := hi'; exact hy
    | succ i => simp at hi'
  · have hi' : [(x, B)][i]? = some (v, B1) := hi
    have hj' : [(x, B)][j]? = some (v', B2) := hj
    have l1 := (List.getElem?_eq_some_iff.1 hi').1
    have l2 := (List.getElem?_eq_some_iff.1 hj').1
    simp only [List.length_singleton] at l1 l2
    omega
theorem ent_okY {P : Program} (hm : P.follows .mixedOrders = true) {A : OrcK} [hR : OrcRen A] [hL : OrcLoc A] (hA : OrcOk P A.plain) (C : List AVal → YC) (hC : ∀ args, YCok P (C args)) {f : FuncId} {fn : Func} {R : List AVal → Option (Bool × AVal × List Blk)} {hd : Nat → HeadY} {dr : Nat → Dr} {en : Nat → List (List Nat)} {cut : HeadY} {n : Nat} {ts : List ResultVar}
    (hf : P.funcs[f]? = some fn) (hbn : fn.body.isNone = false) (hname : (fn.name == "runtime.NumGoroutine") = false) (hn : fn.ntmps = n) (hr : fn.results = ts.toArray) (hc : drawChkY dr en (bodyOf fn) = true)
    (h : ∀ args v new, R args = some (true, v, new) → new = [] ∧ v.flat = true ∧ lendU [] args = args ∧ ∃ fuel H' m', runFnY P A (C args) hd dr en cut fuel (bodyOf fn) n ts args [] 0 = some (v, H', m')) : EntOk P ⟨f, R⟩ := by
  refine ⟨⟨fn, hf, hbn, hname⟩, fun args v new hR0 => ?_⟩
  obtain ⟨rfl, hfl, hU, fuel, H', m', hrun⟩ := h args v new hR0
  intro Fb ρ w cargs S hargs
  have hρ : ρ = [] := List.eq_nil_of_length_eq_zero (@Sim.len Fb _ _ _ S)
  subst hρ
  have ha : @VRs noF [] [] w args cargs.toList := by have := lendU_VRs (F2 := Fb) S hargs; rwa [hU] at this
  have S0 : @Sim noF [] [] w := @Sim.mk noF [] [] w rfl List.nodup_nil (fun b hb => by cases hb) (fun l b blk h => by simp at h)
  have So : Soft w.heap.size noF [] 0 w := ⟨rfl, fun i x B hi => by
    have h' : ([] : List (Value × List Nat))[i]? = some (x, B) := hi
    simp at h', fun i j x x' B B' _ hi => by
    have h' : ([] : List (Value × List Nat))[i]? = some (x, B) := hi
    simp at h'⟩
  refine (fnY_sound hm hA (hC args) hf hbn hn hr hc hrun (Nat.le_refl _) (.inr rfl) So S0 ha).mono fun e w' ⟨c, he, F1, ρ1, So1, G1, v1, S1, M1⟩ => ⟨c, he, [], VR.flat v1 hfl, ?_, ?_⟩
  · exact @Sim.mk Fb [] [] w' rfl List.nodup_nil (fun b hb => ⟨Nat.lt_of_lt_of_le (@Sim.forb Fb _ _ _ S b hb).1 M1.size, List.not_mem_nil⟩) (fun l b blk h => by simp at h)
  · exact ⟨M1.os, M1.tape, M1.output, M1.size, fun b hb _ => ⟨(M1.frame b hb List.not_mem_nil).1, List.not_mem_nil⟩, fun l blk hl => by simp at hl⟩

theorem tup3_inv {Fb : Forb} {ρ : List Nat} {H : Heap} {w : World} {u v x : AVal} {c : Value} (h : @VR Fb ρ H w (.tup [u, v, x]) c) : ∃ a b d, c = .tuple #[a, b, d] ∧ @VR Fb ρ H w u a ∧ @VR Fb ρ H w v b ∧ @VR Fb ρ H w x d := by
  cases h with
  | tup vs cs hl h =>
    obtain ⟨cs⟩ := cs
    match cs, hl with
    | [c0, c1, c2], _ =>
      have h0 := h 0 _ rfl
      have h1 := h 1 _ rfl
      have h2 := h 2 _ rfl
      simp only [Array.getD_eq_getD_getElem?, List.getElem?_toArray, List.getElem?_cons_zero, List.getElem?_cons_succ, Option.getD_some] at h0 h1 h2
      exact ⟨c0, c1, c2, rfl, h0, h1, h2⟩
theorem tup3_mk {Fb : Forb} {ρ : List Nat} {H : Heap} {w : World} {u v x : AVal} {a b d : Value} (h : @VR Fb ρ H w u a) (h' : @VR Fb ρ H w v b) (h'' : @VR Fb ρ H w x d) : @VR Fb ρ H w (.tup [u, v, x]) (.tuple #[a, b, d]) := by
  refine @VR.tup Fb ρ H w _ _ rfl fun i x hi => ?_
  match i, hi with
  | 0, hi => simp only [List.getElem?_cons_zero, Option.some.injEq] at hi; subst hi; exact h
  | 1, hi => simp only [List.getElem?_cons_succ, List.getElem?_cons_zero, Option.some.injEq] at hi; subst hi; exact h'
  | 2, hi => simp only [List.getElem?_cons_succ, List.getElem?_cons_zero, Option.some.injEq] at hi; subst hi; exact h''
  | i + 3, hi => simp at hi
end Go.Proofs.Ythecninmmojkgaa.Ab
