/-
  The abstract machine: steps on memory (a new block, a store, a row that grows) against the model's worlds.
-/
import Derived.Test.YtjhofofieiiplaaGreatDoorAbRel
namespace Go.Proofs.YtjhofofieiiplaaGreatDoor.Ab
open Go
set_option linter.unusedVariables false
set_option linter.unusedSimpArgs false

theorem alloc_old (w : World) (o : Obj) (k : Nat) (h : k < w.heap.size) : (w.alloc o).heap[k]? = w.heap[k]? := by
  show (w.heap.push o)[k]? = _
  rw [Array.getElem?_push, if_neg (by omega)]
theorem alloc_new (w : World) (o : Obj) : (w.alloc o).heap[w.heap.size]? = some o := by
  show (w.heap.push o)[w.heap.size]? = _
  simp
/-- The value of one cell. -/
def oneC : Value → Bool
  | .agg _ | .tuple _ => false
  | _ => true

theorem Sim.lt [Fb : Forb] {ρ : List Nat} {H : Heap} {w : World} (s : Sim ρ H w) {l b : Nat} (h : ρ[l]? = some b) : ∃ (blk : Blk) (cs : Array Value) (e : TypeId), H[l]? = some blk ∧ w.heap[b]? = some (Obj.cells cs e (0, 0)) ∧ BR ρ H w blk.c cs := by
  have hl : l < H.length := by rw [← s.len]; exact (List.getElem?_eq_some_iff.1 h).1
  obtain ⟨cs, e, h1, h2⟩ := s.blk l b H[l] (List.getElem?_eq_getElem hl) h
  exact ⟨_, cs, e, List.getElem?_eq_getElem hl, h1, h2⟩
theorem heap_lt {w : World} {b : Nat} {o : Obj} (h : w.heap[b]? = some o) : b < w.heap.size := (Array.getElem?_eq_some_iff.1 h).1
theorem Sim.fresh [Fb : Forb] {ρ : List Nat} {H : Heap} {w : World} (s : Sim ρ H w) : w.heap.size ∉ ρ := by
  intro hm
  obtain ⟨l, hl⟩ := List.mem_iff_getElem?.1 hm
  obtain ⟨_, cs, e, _, h1, _⟩ := s.lt hl
  exact Nat.lt_irrefl _ (heap_lt h1)

/-- A world that differs in no block. -/
theorem Mv.same {w w' : World} (ρ : List Nat) (H : Heap) (ho : w'.os = w.os) (ht : w'.tape = w.tape) (hp : w'.output = w.output) (hh : w'.heap = w.heap) : Mv ρ H w ρ H w' :=
  ⟨ho, ht, hp, by rw [hh]; exact Nat.le_refl _, fun b _ h => ⟨by rw [hh], h⟩, fun l blk h => ⟨blk, h, Nat.le_refl _, fun _ => ⟨rfl, rfl, fun b cs e _ hb => ⟨cs, by rw [hh]; exact hb, rfl⟩⟩⟩⟩
theorem Sim.mvSame [Fb : Forb] {ρ : List Nat} {H : Heap} {w w' : World} (s : Sim ρ H w) (hh : w'.heap = w.heap) (m : Mv ρ H w ρ H w') : Sim ρ H w' :=
  ⟨s.len, s.nodup, s.forbMv m, fun l b blk hl hb => let ⟨cs, e, h1, h2⟩ := s.blk l b blk hl hb; ⟨cs, e, by rw [hh]; exact h1, h2.mv m⟩⟩
theorem Mv.drew (ρ : List Nat) (H : Heap) (w : World) : Mv ρ H w ρ H w.drew := Mv.same ρ H rfl rfl rfl rfl
theorem Sim.drew [Fb : Forb] {ρ : List Nat} {H : Heap} {w : World} (s : Sim ρ H w) : Sim ρ H w.drew := s.mvSame rfl (Mv.drew ρ H w)

/-- A new block. -/
theorem Mv.push [Fb : Forb] {ρ : List Nat} {H : Heap} {w : World} (s : Sim ρ H w) (blk : Blk) (o : Obj) : Mv ρ H w (ρ ++ [w.heap.size]) (H ++ [blk]) (w.alloc o) := by
  refine ⟨rfl, rfl, rfl, by simp, fun b hb hn => ⟨alloc_old w o b hb, ?_⟩, fun l bl hl => ?_⟩
  · intro hm
    rcases List.mem_append.1 hm with h | h
    · exact hn h
    · simp at h; omega
  · have hlt := (List.getElem?_eq_some_iff.1 hl).1
    refine ⟨bl, by rw [List.getElem?_append_left hlt]; exact hl, Nat.le_refl _, fun _ => ⟨?_, rfl, fun b cs e hb hh => ⟨cs, ?_, rfl⟩⟩⟩
    · rw [List.getElem?_append_left (by rw [s.len]; exact hlt)]
    · rw [alloc_old w o b (heap_lt hh)]; exact hh
theorem Sim.push [Fb : Forb] {ρ : List Nat} {H : Heap} {w : World} (s : Sim ρ H w) (blk : Blk) (cs : Array Value) (e : TypeId) (h : BR ρ H w blk.c cs) :
    Sim (ρ ++ [w.heap.size]) (H ++ [blk]) (w.alloc (Obj.cells cs e (0, 0))) := by
  have m := Mv.push s blk (Obj.cells cs e (0, 0))
  refine ⟨by simp [s.len], ?_, s.forbMv m, fun l b bl hl hb => ?_⟩
  · rw [List.nodup_append]
    refine ⟨s.nodup, by simp, fun a ha c hc hac => ?_⟩
    simp at hc
    subst hc hac
    exact s.fresh ha
  · by_cases hlt : l < H.length
    · rw [List.getElem?_append_left hlt] at hl
      rw [List.getElem?_append_left (by rw [s.len]; exact hlt)] at hb
      obtain ⟨cs', e', h1, h2⟩ := s.blk l b bl hl hb
      exact ⟨cs', e', by rw [alloc_old w _ b (heap_lt h1)]; exact h1, h2.mv m⟩
    · rw [List.getElem?_append_right (by omega)] at hl
      rw [List.getElem?_append_right (by rw [s.len]; omega)] at hb
      have h0 : l - H.length = 0 := by
        have := (List.getElem?_eq_some_iff.1 hl).1
        simp at this; omega
      rw [h0] at hl
      rw [s.len, h0] at hb
      simp at hl hb
      subst hl hb
      exact ⟨cs, e, alloc_new w _, h.mv m⟩

/-! ### A store -/

theorem Cont.set_spec {c c' : Cont} {off : Nat} {v : AVal} (h : c.set? off v = some c') : c'.len = c.len ∧ v.isCell = true ∧ off < c.len ∧ ∃ u : AVal, (∀ (F : Forb) (ρ : List Nat) (H : Heap) (w : World) (x : Value), @VR F ρ H w v x → @VR F ρ H w u x) ∧ ∀ i, c'.get? i = if i = off then some u else c.get? i := by
  cases c <;> cases v <;> simp only [Cont.set?, reduceCtorEq] at h
  case ints.int k xs k' n =>
    split at h
    · rename_i hk; subst hk
      simp only [Bool.cond_eq_ite, decide_eq_true_eq] at h
      split at h
      · rename_i hlt
        simp only [Option.some.injEq] at h; subst h
        refine ⟨by simp [Cont.len], rfl, by simpa [Cont.len] using hlt, _, fun _ _ _ _ _ h => h, fun i => ?_⟩
        simp only [Cont.get?, List.getElem?_set]
        by_cases e : i = off
        · subst e; simp [hlt]
        · rw [if_neg (fun h => e h.symm), if_neg e]
      · cases h
    · cases h
  case flts.flt k xs k' n =>
    split at h
    · rename_i hk; subst hk
      simp only [Bool.cond_eq_ite, decide_eq_true_eq] at h
      split at h
      · rename_i hlt
        simp only [Option.some.injEq] at h; subst h
        refine ⟨by simp [Cont.len], rfl, by simpa [Cont.len] using hlt, _, fun _ _ _ _ _ h => h, fun i => ?_⟩
        simp only [Cont.get?, List.getElem?_set]
        by_cases e : i = off
        · subst e; simp [hlt]
        · rw [if_neg (fun h => e h.symm), if_neg e]
      · cases h
    · cases h
  case cpxs.cpx k xs k' n n' =>
    split at h
    · rename_i hk; subst hk
      simp only [Bool.cond_eq_ite, decide_eq_true_eq] at h
      split at h
      · rename_i hlt
        simp only [Option.some.injEq] at h; subst h
        refine ⟨by simp [Cont.len], rfl, by simpa [Cont.len] using hlt, _, fun _ _ _ _ _ h => h, fun i => ?_⟩
        simp only [Cont.get?, List.getElem?_set]
        by_cases e : i = off
        · subst e; simp [hlt]
        · rw [if_neg (fun h => e h.symm), if_neg e]
      · cases h
    · cases h
  case bools.bool xs b =>
    simp only [Bool.cond_eq_ite, decide_eq_true_eq] at h
    split at h
    · rename_i hlt
      simp only [Option.some.injEq] at h; subst h
      refine ⟨by simp [Cont.len], rfl, by simpa [Cont.len] using hlt, _, fun _ _ _ _ _ h => h, fun i => ?_⟩
      simp only [Cont.get?, List.getElem?_set]
      by_cases e : i = off
      · subst e; simp [hlt]
      · rw [if_neg (fun h => e h.symm), if_neg e]
    · cases h
  case strs.str xs b =>
    simp only [Bool.cond_eq_ite, decide_eq_true_eq] at h
    split at h
    · rename_i hlt
      simp only [Option.some.injEq] at h; subst h
      refine ⟨by simp [Cont.len], rfl, by simpa [Cont.len] using hlt, _, fun _ _ _ _ _ h => h, fun i => ?_⟩
      simp only [Cont.get?, List.getElem?_set]
      by_cases e : i = off
      · subst e; simp [hlt]
      · rw [if_neg (fun h => e h.symm), if_neg e]
    · cases h
  case rows.ro k xs c n z =>
    cases c <;> simp only [reduceCtorEq] at h
    case ints k' r =>
      split at h
      · rename_i hk; subst hk
        simp only [Bool.cond_eq_ite, Bool.and_eq_true, beq_iff_eq, decide_eq_true_eq] at h
        split at h
        · rename_i hh
          obtain ⟨hlt, rfl⟩ := hh
          simp only [Option.some.injEq] at h; subst h
          refine ⟨by simp [Cont.len], rfl, by simpa [Cont.len] using hlt, .ro (.ints k (r.take n)) (r.take n).length 1, fun F ρ H w x hx => ?_, fun i => ?_⟩
          · cases hx with
            | ro _ _ _ a cap h0 h hm hl =>
              have e : (r.take n).length = n := by
                simp only [Cont.len, Nat.mul_one] at hl
                rw [List.length_take]; omega
              rw [e]
              refine @VR.ro F ρ H w _ _ _ a cap h0 (fun p hp i m hi => h p hp i m ?_) hm (by simp [Cont.len, e])
              rw [List.getElem?_take] at hi
              split at hi
              · exact hi
              · cases hi
          simp only [Cont.get?, List.getElem?_set]
          by_cases e : i = off
          · subst e; simp [hlt]
          · rw [if_neg (fun h => e h.symm), if_neg e]
        · cases h
      · cases h
theorem BC.set_spec {c c' : BC} {off : Nat} {v : AVal} (h : c.set? off v = some c') : c'.len = c.len ∧ v.isCell = true ∧ off < c.len ∧ ∃ u : AVal, (∀ (F : Forb) (ρ : List Nat) (H : Heap) (w : World) (x : Value), @VR F ρ H w v x → @VR F ρ H w u x) ∧ ∀ i, c'.get? i = if i = off then some u else c.get? i := by
  cases c with
  | typ c =>
    simp only [BC.set?] at h
    split at h
    · rename_i c1 h1
      simp only [Option.some.injEq] at h
      subst h
      obtain ⟨h1, h2, h3, u, h4, h5⟩ := Cont.set_spec h1
      exact ⟨h1, h2, h3, u, h4, h5⟩
    · cases h
  | cells vs =>
    simp only [BC.set?, upd_eq, hlen_eq, Bool.cond_eq_ite, Bool.and_eq_true, decide_eq_true_eq] at h
    split at h
    · rename_i hc
      simp only [Option.some.injEq] at h
      subst h
      refine ⟨by simp [BC.len, hlen_eq], hc.1, by simpa [BC.len, hlen_eq] using hc.2, v, fun _ _ _ _ _ h => h, fun i => ?_⟩
      simp only [BC.get?, nth_eq, List.getElem?_set]
      by_cases e : i = off
      · subst e; simp [hc.2]
      · rw [if_neg (fun h => e h.symm), if_neg e]
    · cases h

theorem VR.oneCell [Fb : Forb] {ρ : List Nat} {H : Heap} {w : World} {v : AVal} {c : Value} (h : VR ρ H w v c) (hc : v.isCell = true) : oneC c = true ∧ c.cells = #[c] := by
  cases h <;> first | (simp [AVal.isCell] at hc; done) | exact ⟨rfl, rfl⟩ | (rename_i hB; rcases hB with ⟨_, a, cap, rfl, _⟩ | ⟨_, _, b, arr, clk, rfl, _⟩ | ⟨_, _, _, _, _, _, _, _, rfl, _⟩ <;> exact ⟨rfl, rfl⟩)

theorem setCell_heap {w : World} {b off : Nat} {cs : Array Value} {e : TypeId} (x : Value) (h : w.heap[b]? = some (Obj.cells cs e (0, 0))) :
    (w.setCell ⟨b, off, none⟩ x).heap[b]? = some (Obj.cells (cs.setIfInBounds off x) e (0, 0)) := by
  simp [World.setCell, Array.getElem?_modify, h]
theorem setCell_other {w : World} {b off k : Nat} (x : Value) (h : k ≠ b) : (w.setCell ⟨b, off, none⟩ x).heap[k]? = w.heap[k]? := by
  simp only [World.setCell, Array.getElem?_modify]
  rw [if_neg (by omega)]

theorem Sim.set1 [Fb : Forb] {ρ : List Nat} {H : Heap} {w : World} (s : Sim ρ H w) {l b off : Nat} {blk : Blk} {c' : BC} {v : AVal} {x : Value} (hl : H[l]? = some blk) (hb : ρ[l]? = some b)
    (hs : blk.c.set? off v = some c') (hv : VR ρ H w v x) :
    (∃ y, w.cell? ⟨b, off, none⟩ = some y) ∧ w.frozen? ⟨b, off, none⟩ = false ∧
    Mv ρ H w ρ (H.set l ⟨c', blk.ver⟩) (w.setCell ⟨b, off, none⟩ x) ∧ Sim ρ (H.set l ⟨c', blk.ver⟩) (w.setCell ⟨b, off, none⟩ x) := by
  obtain ⟨cs, e, h1, h2, h3⟩ := s.blk l b blk hl hb
  obtain ⟨g1, g2, g3, u, gu, g4⟩ := BC.set_spec hs
  have hlt := (List.getElem?_eq_some_iff.1 hl).1
  have hoff : off < cs.size := Nat.lt_of_lt_of_le g3 h2
  have m : Mv ρ H w ρ (H.set l ⟨c', blk.ver⟩) (w.setCell ⟨b, off, none⟩ x) := by
    refine ⟨rfl, rfl, rfl, by simp [World.setCell], fun k hk hn => ⟨setCell_other x (fun e => hn (e ▸ List.mem_of_getElem? hb)), hn⟩, fun l' bl hl' => ?_⟩
    by_cases e : l' = l
    · subst e
      obtain rfl : bl = blk := Option.some.inj (hl'.symm.trans hl)
      refine ⟨⟨c', bl.ver⟩, by simp [hlt], Nat.le_refl _, fun _ => ⟨rfl, g1, fun b' cs' e' hb' hh => ?_⟩⟩
      obtain rfl : b' = b := Option.some.inj (hb'.symm.trans hb)
      have := hh.symm.trans h1
      simp only [Option.some.injEq, Obj.cells.injEq] at this
      obtain ⟨rfl, rfl, _⟩ := this
      exact ⟨_, setCell_heap x hh, by simp⟩
    · refine ⟨bl, by rw [List.getElem?_set_ne (fun h => e h.symm)]; exact hl', Nat.le_refl _, fun _ => ⟨rfl, rfl, fun b' cs' e' hb' hh => ⟨cs', ?_, rfl⟩⟩⟩
      rw [setCell_other x]
      · exact hh
      · intro hbb
        subst hbb
        exact e ((List.getElem?_inj (by rw [s.len]; exact (List.getElem?_eq_some_iff.1 hl').1) s.nodup).1 (hb'.trans hb.symm))
  refine ⟨⟨cs[off], by simp [World.cell?, h1, hoff]⟩, by simp [World.frozen?, h1], m, by rw [List.length_set]; exact s.len, s.nodup, s.forbMv m, fun l' b' bl hl' hb' => ?_⟩
  by_cases e' : l' = l
  · subst e'
    obtain rfl : b' = b := Option.some.inj (hb'.symm.trans hb)
    rw [List.getElem?_set_self hlt] at hl'
    simp only [Option.some.injEq] at hl'
    subst hl'
    refine ⟨_, _, setCell_heap x h1, by simp only [Array.size_setIfInBounds]; rw [g1]; exact h2, fun i u hi => ?_⟩
    simp only [g4] at hi
    by_cases hio : i = off
    · subst hio
      rw [if_pos rfl] at hi
      simp only [Option.some.injEq] at hi
      subst hi
      exact ⟨x, by simp [hoff], (gu _ _ _ _ _ hv).mv m⟩
    · rw [if_neg hio] at hi
      obtain ⟨y, y1, y2⟩ := h3 i u hi
      exact ⟨y, by rw [Array.getElem?_setIfInBounds_ne (fun h => hio h.symm)]; exact y1, y2.mv m⟩
  · rw [List.getElem?_set_ne (fun h => e' h.symm)] at hl'
    obtain ⟨cs', t', k1, k2⟩ := s.blk l' b' bl hl' hb'
    refine ⟨cs', t', ?_, k2.mv m⟩
    rw [setCell_other x]
    · exact k1
    · intro hbb
      subst hbb
      exact e' ((List.getElem?_inj (by rw [s.len]; exact (List.getElem?_eq_some_iff.1 hl').1) s.nodup).1 (hb'.trans hb.symm))

theorem run_store1 {P : Program} {w : World} {a : Addr} {x y : Value} (h1 : w.cell? a = some y) (h2 : w.frozen? a = false) (h3 : oneC x = true) : (store a x).run P w = .ok () (w.setCell a x) := by
  cases x <;> simp [oneC] at h3 <;> simp [store, Sem.run, h1, h2]

/-- Several cells, one behind the other. -/
theorem Sim.sets [Fb : Forb] {P : Program} {l b : Nat} {ver : Nat} : ∀ (vs : List AVal) (xs : List Value) (i off : Nat) (ρ : List Nat) (H : Heap) (w : World) (c c' : BC), Sim ρ H w → H[l]? = some ⟨c, ver⟩ → ρ[l]? = some b →
    abset c (off + i) vs = some c' → vs.length = xs.length → (∀ (j : Nat) (v : AVal) (x : Value), vs[j]? = some v → xs[j]? = some x → VR ρ H w v x) →
    ∃ w', (storeCells ⟨b, off, none⟩ xs i).run P w = .ok () w' ∧ Mv ρ H w ρ (H.set l ⟨c', ver⟩) w' ∧ Sim ρ (H.set l ⟨c', ver⟩) w' := by
  intro vs
  induction vs with
  | nil =>
    intro xs i off ρ H w c c' s hl hb ha hx _
    cases xs with
    | cons _ _ => simp at hx
    | nil =>
      simp only [abset, Option.some.injEq] at ha
      subst ha
      have : H.set l ⟨c, ver⟩ = H := by
        apply List.ext_getElem?
        intro j
        rw [List.getElem?_set]
        split
        · rename_i e; subst e; split <;> simp_all
        · rfl
      rw [this]
      exact ⟨w, by simp [storeCells], Mv.refl _ _ _, s⟩
  | cons v vs ih =>
    intro xs i off ρ H w c c' s hl hb ha hx hv
    cases xs with
    | nil => simp at hx
    | cons x xs =>
      simp only [abset] at ha
      split at ha
      · rename_i c1 h1
        have hvx := hv 0 v x rfl rfl
        obtain ⟨⟨y, y1⟩, y2, m, s1⟩ := s.set1 hl hb h1 hvx
        have hlt := (List.getElem?_eq_some_iff.1 hl).1
        obtain ⟨w', r, m', s'⟩ := ih xs (i + 1) off ρ (H.set l ⟨c1, ver⟩) (w.setCell ⟨b, off + i, none⟩ x) c1 c' s1 (by simp [hlt]) hb (by simpa [Nat.add_assoc] using ha) (by simpa using hx)
          (fun j u z hu hz => (hv (j + 1) u z (by simpa using hu) (by simpa using hz)).mv m)
        refine ⟨w', ?_, ?_, ?_⟩
        · simp only [storeCells, Sem.run_bind]
          rw [add_lit, run_store1 y1 y2 (hvx.oneCell (BC.set_spec h1).2.1).1]
          simpa using r
        · have := m.trans m'; rwa [List.set_set] at this
        · rwa [List.set_set] at s'
      · cases ha

end Go.Proofs.YtjhofofieiiplaaGreatDoor.Ab
