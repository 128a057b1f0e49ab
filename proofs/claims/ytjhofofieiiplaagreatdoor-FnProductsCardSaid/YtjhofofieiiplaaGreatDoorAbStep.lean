/-
  The abstract machine: each operation is sound.
-/
import Derived.Test.YtjhofofieiiplaaGreatDoorAbOps
import Derived.Laws.Tables
namespace Go.Proofs.YtjhofofieiiplaaGreatDoor.Ab
open Go
set_option linter.unusedVariables false
set_option linter.unusedSimpArgs false

/-- Operands that hold what a list of values says. -/
def VRs [Fb : Forb] (ρ : List Nat) (H : Heap) (w : World) (vs : List AVal) (cs : List Value) : Prop :=
  vs.length = cs.length ∧ ∀ (i : Nat) (v : AVal) (c : Value), vs[i]? = some v → cs[i]? = some c → VR ρ H w v c
theorem VRs.nil [Fb : Forb] (ρ : List Nat) (H : Heap) (w : World) : VRs ρ H w [] [] := ⟨rfl, by simp⟩
theorem VRs.cons [Fb : Forb] {ρ : List Nat} {H : Heap} {w : World} {v : AVal} {vs : List AVal} {c : Value} {cs : List Value} (h : VR ρ H w v c) (h' : VRs ρ H w vs cs) : VRs ρ H w (v :: vs) (c :: cs) := by
  refine ⟨by simp [h'.1], fun i u x hu hx => ?_⟩
  cases i with
  | zero => simp at hu hx; subst hu hx; exact h
  | succ i => exact h'.2 i u x (by simpa using hu) (by simpa using hx)
theorem VRs.inv_nil [Fb : Forb] {ρ : List Nat} {H : Heap} {w : World} {cs : List Value} (h : VRs ρ H w [] cs) : cs = [] := List.eq_nil_of_length_eq_zero h.1.symm
theorem VRs.inv_cons [Fb : Forb] {ρ : List Nat} {H : Heap} {w : World} {v : AVal} {vs : List AVal} {cs : List Value} (h : VRs ρ H w (v :: vs) cs) : ∃ c cs', cs = c :: cs' ∧ VR ρ H w v c ∧ VRs ρ H w vs cs' := by
  cases cs with
  | nil => simp [VRs] at h
  | cons c cs => exact ⟨c, cs, rfl, h.2 0 v c rfl rfl, by have := h.1; simpa using this, fun i u x hu hx => h.2 (i + 1) u x (by simpa using hu) (by simpa using hx)⟩
theorem VRs.app [Fb : Forb] {ρ : List Nat} {H : Heap} {w : World} {vs vs' : List AVal} {cs cs' : List Value} (h : VRs ρ H w vs cs) (h' : VRs ρ H w vs' cs') : VRs ρ H w (vs ++ vs') (cs ++ cs') := by
  induction vs generalizing cs with
  | nil => rw [h.inv_nil]; exact h'
  | cons v vs ih => obtain ⟨c, cs1, rfl, h1, h2⟩ := h.inv_cons; exact .cons h1 (ih h2)
theorem TR.evs [Fb : Forb] {ρ : List Nat} {H : Heap} {w : World} {s : State} {a : Act} (h : TR ρ H w s.t a.tmps) (xs : List Operand) : VRs ρ H w (xs.map s.ev) (xs.map a.eval) := by
  induction xs with
  | nil => exact .nil _ _ _
  | cons x xs ih => exact .cons (h.ev x) ih
theorem VRs.mv [Fb : Forb] {ρ ρ' : List Nat} {H H' : Heap} {w w' : World} (m : Mv ρ H w ρ' H' w') {vs : List AVal} {cs : List Value} (h : VRs ρ H w vs cs) : VRs ρ' H' w' vs cs :=
  ⟨h.1, fun i v c hv hc => (h.2 i v c hv hc).mv m⟩

theorem len_ok [Fb : Forb] {P : Program} {ρ : List Nat} {H : Heap} {w : World} {ts : Array TypeId} {t ty : TypeId} {r : List TypeId} (ht : ts.toList = t :: r) (hs : isSliceT P t = true) {x v : AVal} {c : Value} (h : alen x = some v) (hx : VR ρ H w x c) :
    PureOk P ρ H w v (Builtin.len_ ts ty #[c]) := by
  obtain ⟨e, hu⟩ := underlying_slice hs
  have h0 : ts[0]? = some t := by rw [← Array.getElem?_toList, ht]; rfl
  unfold alen at h
  split at h <;> simp only [Option.some.injEq, reduceCtorEq] at h <;> subst h <;> cases hx
  · exact .same (by simp [Builtin.len_, h0, run_underlying hu, goInt]) (.int _ _)
  · exact .same (by simp [Builtin.len_, h0, run_underlying hu, goInt]) (.int _ _)
  · exact .same (by simp [Builtin.len_, h0, run_underlying hu, goInt]) (.int _ _)
  · exact .same (by simp [Builtin.len_, h0, run_underlying hu, goInt]) (.int _ _)
  · exact .same (by simp [Builtin.len_, h0, run_underlying hu, goInt]) (.int _ _)

theorem fold_ok [Fb : Forb] {P : Program} {ρ : List Nat} {H : Heap} {w : World} {f : AVal → AVal → Option AVal} {g : Value → Value → Sem Value}
    (hf : ∀ a b v ca cb, f a b = some v → VR ρ H w a ca → VR ρ H w b cb → ∃ c, (g ca cb).run P w = .ok c w ∧ VR ρ H w v c) :
    ∀ (r : List AVal) (cr : List Value) (x v : AVal) (cx : Value), afold f x r = some v → VR ρ H w x cx → VRs ρ H w r cr → ∃ c, (cr.foldlM g cx).run P w = .ok c w ∧ VR ρ H w v c := by
  intro r
  induction r with
  | nil => intro cr x v cx h hx hr; rw [hr.inv_nil]; simp only [afold, Option.some.injEq] at h; subst h; exact ⟨cx, by simp, hx⟩
  | cons y r ih =>
    intro cr x v cx h hx hr
    obtain ⟨cy, cr', rfl, h1, h2⟩ := hr.inv_cons
    simp only [afold] at h
    split at h
    · rename_i z hz
      obtain ⟨c1, k1, k2⟩ := hf _ _ _ _ _ hz hx h1
      obtain ⟨c, g1, g2⟩ := ih cr' z v c1 h k2 h2
      exact ⟨c, by simp [List.foldlM, k1, g1], g2⟩
    · cases h
theorem max2_ok [Fb : Forb] {P : Program} {ρ : List Nat} {H : Heap} {w : World} (a b v : AVal) (ca cb : Value) (h : amax2 a b = some v) (ha : VR ρ H w a ca) (hb : VR ρ H w b cb) : ∃ c, (Builtin.max2 ca cb).run P w = .ok c w ∧ VR ρ H w v c := by
  unfold amax2 at h
  split at h
  · simp only [Option.some.injEq] at h
    subst h; cases ha; cases hb
    exact ⟨_, by simp [Builtin.max2], .int _ _⟩
  · split at h
    · rename_i hk
      subst hk
      rw [Bool.cond_eq_ite] at h
      split at h
      · rename_i ho
        simp only [Option.some.injEq] at h
        subst h; cases ha; cases hb
        rename_i k a b c h1 d h2
        have hs := order_same h1 h2
        have hs1 : a = c := by
          rcases h1 with h | ⟨h, _⟩
          · exact h
          · obtain ⟨s, f, e⟩ := nan_of h
            unfold ord.sp Ieee.Format.order at ho
            rw [e] at ho
            cases k.format.read b <;> cases ho
        have hs2 : b = d := by
          rcases h2 with h | ⟨h, _⟩
          · exact h
          · obtain ⟨s, f, e⟩ := nan_of h
            unfold ord.sp Ieee.Format.order at ho
            rw [e] at ho
            cases hq : k.format.read a <;> rw [hq] at ho <;> cases ho
        subst hs1; subst hs2
        refine ⟨.float k (fmax.sv k a b), ?_, .flt _ _ _ (.inl rfl)⟩
        unfold ord.sp at ho
        simp only [Builtin.max2, fmax.sv]
        cases hc : k.format.order a b with
        | none => rw [hc] at ho; cases ho
        | some o => cases o <;> simp
      · cases h
    · cases h
  · cases h
theorem min2_ok [Fb : Forb] {P : Program} {ρ : List Nat} {H : Heap} {w : World} (a b v : AVal) (ca cb : Value) (h : amin2 a b = some v) (ha : VR ρ H w a ca) (hb : VR ρ H w b cb) : ∃ c, (Builtin.min2 ca cb).run P w = .ok c w ∧ VR ρ H w v c := by
  unfold amin2 at h
  split at h
  · simp only [Option.some.injEq] at h
    subst h; cases ha; cases hb
    exact ⟨_, by simp [Builtin.min2], .int _ _⟩
  · split at h
    · rename_i hk
      subst hk
      rw [Bool.cond_eq_ite] at h
      split at h
      · rename_i ho
        simp only [Option.some.injEq] at h
        subst h; cases ha; cases hb
        rename_i k a b c h1 d h2
        have hs := order_same h1 h2
        have hs1 : a = c := by
          rcases h1 with h | ⟨h, _⟩
          · exact h
          · obtain ⟨s, f, e⟩ := nan_of h
            unfold ord.sp Ieee.Format.order at ho
            rw [e] at ho
            cases k.format.read b <;> cases ho
        have hs2 : b = d := by
          rcases h2 with h | ⟨h, _⟩
          · exact h
          · obtain ⟨s, f, e⟩ := nan_of h
            unfold ord.sp Ieee.Format.order at ho
            rw [e] at ho
            cases hq : k.format.read a <;> rw [hq] at ho <;> cases ho
        subst hs1; subst hs2
        refine ⟨.float k (fmin.sv k a b), ?_, .flt _ _ _ (.inl rfl)⟩
        unfold ord.sp at ho
        simp only [Builtin.min2, fmin.sv]
        cases hc : k.format.order a b with
        | none => rw [hc] at ho; cases ho
        | some o => cases o <;> simp
      · cases h
    · cases h
  · cases h

theorem builtin_ok [Fb : Forb] {P : Program} {ρ : List Nat} {H : Heap} {w : World} {b : Builtin} {ts : Array TypeId} {ty : TypeId} {args : List AVal} {cargs : Array Value} {v : AVal}
    (h : abuiltin P b ts.toList args = some v) (hv : VRs ρ H w args cargs.toList) : ∃ c, (∀ consts, (builtin b ts ty consts cargs).run P w = .ok (.value c) w) ∧ VR ρ H w v c := by
  obtain ⟨cl⟩ := cargs
  simp only [] at hv
  unfold abuiltin at h
  split at h
  · rename_i t r x ht
    simp only [Bool.cond_eq_ite] at h
    split at h
    · rename_i hs
      obtain ⟨c, cs, rfl, h1, h2⟩ := hv.inv_cons
      rw [h2.inv_nil]
      obtain ⟨c', w', k1, k2, k3⟩ := len_ok (P := P) (ty := ty) ht hs h h1
      have : w' = w := by
        unfold alen at h
        obtain ⟨e, hu⟩ := underlying_slice hs
        have h0 : ts[0]? = some t := by rw [← Array.getElem?_toList, ht]; rfl
        split at h <;> simp only [Option.some.injEq, reduceCtorEq] at h <;> cases h1 <;> simp [Builtin.len_, h0, run_underlying hu, goInt] at k1 <;> exact k1.2.symm
      subst this
      exact ⟨c', fun _ => by simp [builtin, k1], k3⟩
    · split at h
      · rename_i hs
        have hu : P.underlying t = some .string := by unfold isStrT at hs; split at hs <;> first | assumption | cases hs
        split at h
        · rename_i s
          simp only [Option.some.injEq] at h; subst h
          obtain ⟨c, cs, rfl, h1, h2⟩ := hv.inv_cons
          rw [h2.inv_nil]
          cases h1
          have h0 : ts[0]? = some t := by rw [← Array.getElem?_toList, ht]; rfl
          exact ⟨.int .i64 (satn.sv s), fun _ => by simp [builtin, Builtin.len_, h0, run_underlying hu, goInt, satn.sv], .int _ _⟩
        · cases h
      · cases h
  · obtain ⟨c, cs, rfl, h1, h2⟩ := hv.inv_cons
    obtain ⟨c', k1, k2⟩ := fold_ok (P := P) max2_ok _ cs _ _ c h h1 h2
    exact ⟨c', fun _ => by simp [builtin, Builtin.max_, k1], k2⟩
  · obtain ⟨c, cs, rfl, h1, h2⟩ := hv.inv_cons
    obtain ⟨c', k1, k2⟩ := fold_ok (P := P) min2_ok _ cs _ _ c h h1 h2
    exact ⟨c', fun _ => by simp [builtin, Builtin.min_, k1], k2⟩
  · obtain ⟨c, cs, rfl, h1, h2⟩ := hv.inv_cons
    rw [h2.inv_nil]
    simp only [Option.some.injEq] at h; subst h
    cases h1
    rename_i a b ha hb
    exact ⟨.float _ a, fun _ => rfl, .flt _ _ _ ha⟩
  · obtain ⟨c, cs, rfl, h1, h2⟩ := hv.inv_cons
    rw [h2.inv_nil]
    simp only [Option.some.injEq] at h; subst h
    cases h1
    rename_i a b ha hb
    exact ⟨.float _ b, fun _ => rfl, .flt _ _ _ hb⟩
  · obtain ⟨c, cs, rfl, h1, h2⟩ := hv.inv_cons
    obtain ⟨c', cs', rfl, h1', h2'⟩ := h2.inv_cons
    rw [h2'.inv_nil]
    split at h
    · rename_i hk; subst hk
      simp only [Option.some.injEq] at h; subst h
      cases h1; cases h1'
      rename_i a ha b hb
      rename_i k _ _
      refine ⟨.complex k a b, fun _ => ?_, .cpx _ _ _ _ _ ha hb⟩
      have he : Builtin.complex_ ts ty #[.float k a, .float k b] = pure (.complex k a b) := (if_pos rfl : (if k = k then (pure (.complex k a b) : Sem Value) else stuck "complex: parts of different kinds") = _)
      simp [builtin, he]
    · cases h
  · cases h

/-! Structs of parts. -/
theorem places_ok {P : Program} : ∀ {fs : List Field} {pl : List (Nat × Nat)}, aplaces P fs = some pl → fs.mapM (fun f => (P.info? f.type).map fun i => (f.offset, i.size)) = some pl
  | [], pl, h => by simp only [aplaces, Option.some.injEq] at h; subst h; rfl
  | f :: r, pl, h => by
    simp only [aplaces] at h
    split at h
    · rename_i n hn
      split at h
      · rename_i l hl
        simp only [Option.some.injEq] at h; subst h
        obtain ⟨i, hi, rfl⟩ := sz_info hn
        simp [List.mapM_cons, hi, places_ok hl]
      · cases h
    · cases h
theorem one_cells [Fb : Forb] {ρ : List Nat} {H : Heap} {w : World} {v u : AVal} {c : Value} (h : v.cells? = some [u]) (hv : VR ρ H w v c) : ∃ x, c.cells = #[x] ∧ VR ρ H w u x := by
  cases hv <;> simp only [AVal.cells?, Option.some.injEq, reduceCtorEq, List.cons.injEq, and_true] at h
  case agg vs cs hl hh =>
    subst h
    have h1 : cs.size = 1 := by simpa using hl.symm
    have := hh 0 u rfl
    obtain ⟨l⟩ := cs
    match l, h1 with
    | [x], _ => exact ⟨x, rfl, by simpa using this⟩
  case bun i c len B he hB =>
    subst h
    refine ⟨_, ?_, .bun i c len _ B he hB⟩
    rcases hB with ⟨_, a, cap, rfl, _⟩ | ⟨_, _, b, arr, clk, rfl, _⟩ | ⟨_, _, _, _, _, _, _, _, rfl, _⟩ <;> rfl
  all_goals (subst h; exact ⟨_, rfl, by constructor <;> assumption⟩)
theorem all_cells [Fb : Forb] {ρ : List Nat} {H : Heap} {w : World} {v : AVal} {us : List AVal} {c : Value} (h : v.cells? = some us) (hv : VR ρ H w v c) : us.length = c.cells.size ∧ ∀ (i : Nat) (u : AVal), us[i]? = some u → ∃ x, c.cells[i]? = some x ∧ VR ρ H w u x := by
  by_cases hone : ∃ u, us = [u]
  · obtain ⟨u, rfl⟩ := hone
    obtain ⟨x, hx, hvx⟩ := one_cells h hv
    rw [hx]
    refine ⟨rfl, fun i u' hi => ?_⟩
    match i, hi with
    | 0, hi => simp only [List.getElem?_cons_zero, Option.some.injEq] at hi; subst hi; exact ⟨x, rfl, hvx⟩
    | i + 1, hi => simp at hi
  · cases hv <;> simp only [AVal.cells?, Option.some.injEq, reduceCtorEq] at h
    case agg vs cs hl hh =>
      subst h
      refine ⟨hl, fun i u hu => ?_⟩
      have hlt : i < cs.size := by rw [← hl]; exact (List.getElem?_eq_some_iff.1 hu).1
      have := hh i u hu
      exact ⟨cs[i], by simp [Value.cells, hlt], by simpa [Array.getD_eq_getD_getElem?, hlt] using this⟩
    all_goals exact absurd ⟨_, h.symm⟩ hone
theorem updL_ok [Fb : Forb] {ρ : List Nat} {H : Heap} {w : World} : ∀ (us : List AVal) (ys : List Value) (off k : Nat) (vs : List AVal) (cs : Array Value), us.length = ys.length → (∀ (i : Nat) (u : AVal), us[i]? = some u → ∃ x, ys[i]? = some x ∧ VR ρ H w u x) →
    vs.length = cs.size → off + k + us.length ≤ vs.length → (∀ (i : Nat) (v : AVal), vs[i]? = some v → VR ρ H w v (cs.getD i Go.undef)) →
    (updL vs (off + k) us).length = ((ys.zipIdx k).foldl (fun cs (c, j) => cs.setIfInBounds (off + j) c) cs).size ∧ ∀ (i : Nat) (v : AVal), (updL vs (off + k) us)[i]? = some v → VR ρ H w v (((ys.zipIdx k).foldl (fun cs (c, j) => cs.setIfInBounds (off + j) c) cs).getD i Go.undef)
  | [], [], off, k, vs, cs, _, _, hl, _, hv => ⟨hl, hv⟩
  | [], _ :: _, _, _, _, _, h, _, _, _, _ => by simp at h
  | _ :: _, [], _, _, _, _, h, _, _, _, _ => by simp at h
  | u :: us, y :: ys, off, k, vs, cs, he, hu, hl, hb, hv => by
    simp only [List.length_cons] at he hb
    rw [updL, List.zipIdx_cons, List.foldl_cons, show off + k + 1 = off + (k + 1) by omega]
    obtain ⟨x, hx, hvx⟩ := hu 0 u rfl
    simp only [List.getElem?_cons_zero, Option.some.injEq] at hx
    subst hx
    refine updL_ok us ys off (k + 1) (upd vs (off + k) u) (cs.setIfInBounds (off + k) y) (by omega) (fun i u' hi => ?_) (by rw [upd_eq]; simpa using hl) (by rw [upd_eq, List.length_set]; omega) (fun j v hj => ?_)
    · have := hu (i + 1) u' (by simpa using hi)
      simpa using this
    · rw [upd_eq, List.getElem?_set] at hj
      by_cases e : off + k = j
      · subst e
        have h1 : off + k < vs.length := by omega
        simp only [h1, if_true, Option.some.injEq] at hj; subst hj
        have : off + k < cs.size := by omega
        simpa [Array.getD_eq_getD_getElem?, Array.getElem?_setIfInBounds, this] using hvx
      · simp only [e, if_false] at hj
        have := hv j v hj
        simpa [Array.getD_eq_getD_getElem?, Array.getElem?_setIfInBounds, e] using this
theorem fillS_ok [Fb : Forb] {ρ : List Nat} {H : Heap} {w : World} {pl : List (Nat × Nat)} {ev : Operand → AVal} {cev : Operand → Value} (hev : ∀ x, VR ρ H w (ev x) (cev x)) :
    ∀ (parts : List (Nat × Operand)) (vs vs' : List AVal) (cs : Array Value), afill pl ev vs parts = some vs' → vs.length = cs.size → (∀ (i : Nat) (v : AVal), vs[i]? = some v → VR ρ H w v (cs.getD i Go.undef)) →
      ∃ cs' : Array Value, Instr.fill (pl.toArray[·]?) cs (parts.map fun p => (p.1, cev p.2)) = some cs' ∧ vs'.length = cs'.size ∧ ∀ (i : Nat) (v : AVal), vs'[i]? = some v → VR ρ H w v (cs'.getD i Go.undef)
  | [], vs, vs', cs, h, hl, hv => by
    simp only [afill, Option.some.injEq] at h; subst h
    exact ⟨cs, rfl, hl, hv⟩
  | (i, x) :: r, vs, vs', cs, h, hl, hv => by
    simp only [afill] at h
    split at h
    · rename_i off n hn
      split at h
      · rename_i us hu
        rw [eqN_eq] at h
        simp only [Bool.cond_eq_ite, Bool.and_eq_true, beq_iff_eq, hlen_eq, longer_le] at h
        split at h
        · rename_i h1
          obtain ⟨h1, h2⟩ := h1
          obtain ⟨g1, g2⟩ := all_cells hu (hev x)
          rw [nth_eq] at hn
          obtain ⟨f1, f2⟩ := updL_ok us (cev x).cells.toList off 0 vs cs (by simpa using g1) (fun i u hi => by simpa using g2 i u hi) hl (by omega) hv
          rw [Nat.add_zero] at f1 f2
          obtain ⟨cs', k1, k2, k3⟩ := fillS_ok hev r (updL vs off us) vs' _ h f1 f2
          refine ⟨cs', ?_, k2, k3⟩
          have e1 : pl.toArray[i]? = some (off, n) := by simpa using hn
          have e2 : ¬ (off + n > cs.size) := by omega
          have e3 : (cev x).cells.size = n := by omega
          simp only [List.map_cons, Instr.fill, e1, e3, ne_eq, not_true_eq_false, decide_false, e2, Bool.or_self, Bool.false_eq_true, if_false]
          rw [← Array.foldl_toList, Array.toList_zipIdx]
          exact k1
        · cases h
      · cases h
    · cases h
theorem fill_more {f g : Nat → Option (Nat × Nat)} (h : ∀ i p, f i = some p → g i = some p) : ∀ (l : List (Nat × Value)) (cs : Array Value) {r : Array Value}, Instr.fill f cs l = some r → Instr.fill g cs l = some r
  | [], cs, r, e => by simpa [Instr.fill] using e
  | (i, v) :: l, cs, r, e => by
    cases hf : f i with
    | none => simp [Instr.fill, hf] at e
    | some p =>
      have hg := h i p hf
      simp only [Instr.fill, hf] at e
      simp only [Instr.fill, hg]
      split at e
      · cases e
      · rename_i c
        rw [if_neg c]
        exact fill_more h l _ e
theorem buildS_ok [Fb : Forb] {P : Program} {ρ : List Nat} {H : Heap} {w : World} {t : TypeId} {parts : Array (Nat × Operand)} {ev : Operand → AVal} {cev : Operand → Value} {v : AVal} (hev : ∀ x, VR ρ H w (ev x) (cev x))
    (h : abuildS P ev t parts.toList = some v) : ∃ c, (Instr.build t (parts.map fun (i, x) => (i, cev x))).run P w = .ok c w ∧ VR ρ H w v c := by
  unfold abuildS at h
  split at h
  · rename_i fs hu
    split at h
    · rename_i it hi
      split at h
      · rename_i z hz
        split at h
        · rename_i pl hpl
          split at h
          · rename_i vs hvs
            simp only [Option.some.injEq] at h; subst h
            rw [mapL_eq] at hvs
            obtain ⟨cs', k1, k2, k3⟩ := fillS_ok hev parts.toList _ vs z.cells hvs (by simp) (fun i u hu' => by
              simp only [List.getElem?_map, Option.map_eq_some_iff, Array.getElem?_toList] at hu'
              obtain ⟨y, hy, rfl⟩ := hu'
              rw [Array.getD_eq_getD_getElem?, hy]
              exact ofCell_VR _ _ _ _)
            refine ⟨.agg cs', run_build w t _ cs' ?_, .agg _ _ k2 k3⟩
            unfold Program.built
            simp only [hi, hu, hz, places_ok hpl]
            rw [Array.toList_map]
            exact k1
          · cases h
        · cases h
      · cases h
    · cases h
  · rename_i n e hu
    split at h
    · rename_i it i1 hi he
      obtain ⟨ie, hie, h1⟩ := sz_info he
      split at h
      · rename_i z hz
        split at h
        · rename_i vs hvs
          simp only [Option.some.injEq] at h; subst h
          rw [mapL_eq] at hvs
          obtain ⟨cs', k1, k2, k3⟩ := fillS_ok hev parts.toList _ vs z.cells hvs (by simp) (fun i u hu' => by
            simp only [List.getElem?_map, Option.map_eq_some_iff, Array.getElem?_toList] at hu'
            obtain ⟨y, hy, rfl⟩ := hu'
            rw [Array.getD_eq_getD_getElem?, hy]
            exact ofCell_VR _ _ _ _)
          refine ⟨.agg cs', run_build w t _ cs' ?_, .agg _ _ k2 k3⟩
          unfold Program.built
          simp only [hi, hu, hz, hie, h1]
          rw [Array.toList_map]
          exact fill_more (fun i p hp => by
            have := aones_ok n 0 i (by simpa using hp)
            rw [this]; simp) _ _ k1
        · cases h
      · cases h
    · cases h
  · cases h

theorem at_ok [Fb : Forb] {P : Program} {ρ : List Nat} {H : Heap} {w : World} {t : TypeId} {x i v : AVal} {cx ci : Value} (h : aat P t x i = some v) (hx : VR ρ H w x cx) (hi : VR ρ H w i ci) : PureOk P ρ H w v (Instr.index t cx ci) := by
  unfold aat at h
  split at h
  · rename_i s k n hu
    simp only [Bool.cond_eq_ite, Bool.and_eq_true, decide_eq_true_eq, satn.sv] at h
    split at h
    · rename_i hn
      simp only [Option.some.injEq] at h; subst h
      cases hi
      cases hx
      have hn2 := of_decide_eq_true hn.2
      have hlt : n.toNat < s.size := by omega
      have hs : s[n.toNat]? = some s[n.toNat] := getElem?_pos s n.toNat hlt
      refine .same (c := .int .u8 (s[n.toNat].toNat : Int)) ?_ ?_
      · simp [Instr.index, asIntOf, run_underlying hu, hn.1, hs]
      · have : sat.sv s n.toNat = (s[n.toNat].toNat : Int) := by simp only [sat.sv, hs]
        rw [this]
        exact .int _ _
    · cases h
  · cases h
theorem run_equal_nili {P : Program} {t : TypeId} {ms : Array (String × TypeId)} (h : P.underlying t = some (.interface ms)) (w : World) : (Op.equal t .nilIface .nilIface).run P w = .ok true w := by
  unfold Op.equal Op.maxDepth Op.equalIn
  simp [run_underlying h]
theorem run_guard_nili {P : Program} {op : BinOp} {t : TypeId} {x : Operand} (w : World) : (eqGuard op t x (.const .nilIface) .nilIface .nilIface).run P w = .ok () w := by
  unfold eqGuard
  cases op <;> cases x <;> simp
theorem pure_step [Fb : Forb] {P : Program} {s : State} {o : Oper} {v : AVal} (h : apure P s.ev o.op = some v) {ρ : List Nat} {w : World} {a : Act} (T : TR ρ s.h w s.t a.tmps) (S : Sim ρ s.h w) :
    Outs P (G ρ s.h w v s.h) ((execOp a.eval o).run P w) := by
  obtain ⟨dst, op, ty, pos, after, guard⟩ := o
  simp only [] at h ⊢
  unfold apure at h
  split at h
  · rename_i x; simp only [Option.some.injEq] at h; subst h; exact outs_value S (T.ev x) (by simp [execOp])
  · rename_i x; simp only [Option.some.injEq] at h; subst h; exact outs_value S (T.ev x) (by simp [execOp])
  · rename_i op t x y yt
    cases hn : nilC y with
    | true =>
      simp only [hn, cond_true] at h
      have hy : y = .const .nilIface := by unfold nilC at hn; split at hn <;> first | rfl | cases hn
      subst hy
      have hx := T.ev x
      unfold anil at h
      rw [Bool.cond_eq_ite] at h
      split at h
      case isFalse => cases h
      rename_i ht
      have hu : ∃ ms, P.underlying t = some (.interface ms) := by unfold isIfcT at ht; split at ht <;> first | exact ⟨_, by assumption⟩ | cases ht
      obtain ⟨ms, hu⟩ := hu
      split at h
      · rename_i he
        simp only [Option.some.injEq] at h; subst h
        rw [he] at hx
        generalize hc : a.eval x = c at hx
        cases hx
        refine PureOk.outs (m := do eqGuard .eql t x (.const .nilIface) (a.eval x) (a.eval (.const .nilIface)); binOp .eql t (a.eval x) (a.eval (.const .nilIface))) ⟨.bool true, w, ?_, .inl rfl, .bool true⟩ S (by simp [execOp])
        rw [hc, show a.eval (.const .nilIface) = .nilIface from rfl]
        simp [run_guard_nili, binOp, run_equal_nili hu]
      · rename_i he
        simp only [Option.some.injEq] at h; subst h
        rw [he] at hx
        generalize hc : a.eval x = c at hx
        cases hx
        refine PureOk.outs (m := do eqGuard .neq t x (.const .nilIface) (a.eval x) (a.eval (.const .nilIface)); binOp .neq t (a.eval x) (a.eval (.const .nilIface))) ⟨.bool false, w, ?_, .inl rfl, .bool false⟩ S (by simp [execOp])
        rw [hc, show a.eval (.const .nilIface) = .nilIface from rfl]
        simp [run_guard_nili, binOp, run_equal_nili hu]
      · cases h
    | false =>
    simp only [hn, cond_false] at h
    obtain ⟨h1, h2⟩ := bin_ok h (T.ev x) (T.ev y)
    obtain ⟨c, w', e1, e2, e3⟩ := h1
    refine PureOk.outs (m := do eqGuard op t x y (a.eval x) (a.eval y); binOp op t (a.eval x) (a.eval y)) ⟨c, w', ?_, e2, e3⟩ S (by simp [execOp])
    simp [eqGuard_ok op t x y _ _ h2, e1]
  · exact (un_ok h (T.ev _)).outs S (by simp [execOp])
  · exact (conv_ok h (T.ev _)).outs S (by simp [execOp])
  · rename_i t i
    split at h
    · rename_i vs hvs
      rw [nth_eq] at h
      have hv := T.ev t
      rw [hvs] at hv
      generalize hc : a.eval t = c at hv
      cases hv
      rename_i cs hl hh
      have hlt : i < cs.size := by rw [← hl]; exact (List.getElem?_eq_some_iff.1 h).1
      have := hh i v h
      simp only [Array.getD_eq_getD_getElem?, Array.getElem?_eq_getElem hlt, Option.getD_some] at this
      exact outs_value S this (by simp [execOp, hc, Instr.extract, Array.getElem?_eq_getElem hlt])
    · cases h
  · exact (field_ok h (T.ev _)).outs S (by simp [execOp])
  · exact (index_ok h (T.ev _) (T.ev _)).outs S (by simp [execOp])
  · rename_i t x lo hi
    refine (slice_ok (clo := lo.map a.eval) (chi := hi.map a.eval) h (T.ev x) ?_ ?_ ?_ ?_).outs S (by simp [execOp])
    · intro y hy; cases lo <;> simp at hy ⊢; subst hy; exact T.ev _
    · intro hy; cases lo <;> simp at hy ⊢
    · intro y hy; cases hi <;> simp at hy ⊢; subst hy; exact T.ev _
    · intro hy; cases hi <;> simp at hy ⊢
  · rename_i t x lo hi mx
    refine (slice0_ok (clo := lo.map a.eval) (chi := hi.map a.eval) h (T.ev x) ?_ ?_ (T.ev mx)).outs S (by simp [execOp])
    · intro hy; cases lo <;> simp at hy ⊢
    · intro y hy; cases hi <;> simp at hy ⊢; subst hy; exact T.ev _
  · rename_i x
    have hx := T.ev x
    split at h
    · rename_i l o v' he
      simp only [Option.some.injEq] at h; subst h
      rw [he] at hx
      generalize hc : a.eval x = c at hx
      cases hx
      rename_i p hp
      exact outs_value S (.ptr _ _ _ _ hp) (by simp [execOp, hc])
    · rename_i c o he
      simp only [Option.some.injEq] at h; subst h
      rw [he] at hx
      generalize hc : a.eval x = c at hx
      cases hx
      rename_i p hp
      exact outs_value S (.rop _ _ _ hp) (by simp [execOp, hc])
    · rename_i vs o he
      simp only [Option.some.injEq] at h; subst h
      rw [he] at hx
      generalize hc : a.eval x = c at hx
      have hp : ∃ q, c = .pointer (some q) := by cases hx; exact ⟨_, rfl⟩
      obtain ⟨q, rfl⟩ := hp
      exact outs_value S hx (by simp [execOp, hc])
    · cases h
  · rename_i t parts
    obtain ⟨c, k1, k2⟩ := buildS_ok (P := P) (cev := a.eval) (fun x => T.ev x) h
    exact outs_value S k2 (by simp [execOp, k1])
  · rename_i f first caps
    split at h
    · rename_i hf
      simp only [Option.some.injEq] at h; subst h
      have hfe : first = #[] := by cases first; simp at hf; simp [hf]
      subst hfe
      rw [mapL_eq]
      refine outs_value S (c := .func (.func f) #[] (caps.map a.eval)) (.fn f _ _ (by simp) fun i u hu => ?_) (by simp [execOp, Instr.makeFunc])
      simp only [List.getElem?_map, Option.map_eq_some_iff, Array.getElem?_toList] at hu
      obtain ⟨y, hy, rfl⟩ := hu
      simp only [Array.getD_eq_getD_getElem?, Array.getElem?_map, hy, Option.map_some, Option.getD_some]
      exact T.ev y
    · cases h
  · rename_i b args ts
    rw [mapL_eq] at h
    have hv : VRs ρ s.h w (args.toList.map s.ev) (args.map a.eval).toList := by rw [Array.toList_map]; exact T.evs _
    obtain ⟨c, h1, h2⟩ := builtin_ok (P := P) (ty := ty) h hv
    exact outs_value S h2 (by simp [execOp, resolve, invoke, h1])
  · exact (at_ok h (T.ev _) (T.ev _)).outs S (by simp [execOp])
  · cases h

end Go.Proofs.YtjhofofieiiplaaGreatDoor.Ab
