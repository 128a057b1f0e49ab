/-
  The abstract machine: calls under a renaming of blocks.
-/
import Derived.Test.YtjhofofieiiplaaGreatDoorAbRen
import Derived.Test.YtjhofofieiiplaaGreatDoorAbLend
import Derived.Test.YtjhofofieiiplaaGreatDoorAbPer
import Derived.Test.YtjhofofieiiplaaGreatDoorAbAny
namespace Go.Proofs.YtjhofofieiiplaaGreatDoor.Ab
open Go
set_option linter.unusedVariables false
set_option linter.unusedSimpArgs false
variable {G : Heap}

theorem RenOk.nth {f : Nat → Nat} {H H2 : Heap} (r : RenOk f G H H2) (l : Nat) : Ab.nth H2 (f l) = (Ab.nth H l).map (Blk.ren f) := by
  rw [nth_eq, nth_eq]
  cases hl : H[l]? with
  | some blk => rw [r.held l blk hl]; rfl
  | none =>
    have hn : H.length ≤ l := List.getElem?_eq_none_iff.1 hl
    have e : l = H.length + (l - H.length) := by omega
    rw [e, r.new]
    simp

mutual
theorem lent_ren {f : Nat → Nat} {H H2 : Heap} (r : RenOk f G H H2) : ∀ v : AVal, (v.ren f).lent 0 H2 = v.lent 0 H
  | .own l off len ver z => by
    simp only [AVal.ren, AVal.lent, r.nth l, ltN_eq, Nat.not_lt_zero, decide_false, cond_false]
    cases Ab.nth H l with
    | none => rfl
    | some blk => obtain ⟨c, ver'⟩ := blk; cases c <;> rfl
  | .ptr l off ver => by
    simp only [AVal.ren, AVal.lent, r.nth l, ltN_eq, Nat.not_lt_zero, decide_false, cond_false]
    cases Ab.nth H l with
    | none => rfl
    | some blk => obtain ⟨c, ver'⟩ := blk; cases c <;> rfl
  | .rom vs off => by simp only [AVal.ren, AVal.lent, lents_ren r vs]
  | .ros vs len z => by simp only [AVal.ren, AVal.lent, lents_ren r vs]
  | .agg vs => by simp only [AVal.ren, AVal.lent, lents_ren r vs]
  | .tup vs => by simp only [AVal.ren, AVal.lent, lents_ren r vs]
  | .fn g vs => by simp only [AVal.ren, AVal.lent, lents_ren r vs]
  | .top => rfl
  | .undef => rfl
  | .bool _ => rfl
  | .int _ _ => rfl
  | .flt _ _ => rfl
  | .cpx _ _ _ => rfl
  | .str _ => rfl
  | .nils => rfl
  | .emp => rfl
  | .ro _ _ _ => rfl
  | .rop _ _ => rfl
  | .nilf => rfl
  | .nili => rfl
  | .fex .. => rfl
  | .bun _ _ _ => rfl
theorem lents_ren {f : Nat → Nat} {H H2 : Heap} (r : RenOk f G H H2) : ∀ vs : List AVal, AVal.lent.lents 0 H2 (AVal.ren.rens f vs) = AVal.lent.lents 0 H vs
  | [] => rfl
  | v :: vs => by simp only [AVal.ren.rens, AVal.lent.lents, lent_ren r v, lents_ren r vs]
end

theorem lentD_ren {f : Nat → Nat} {H H2 : Heap} (r : RenOk f G H H2) : ∀ (d : Dep) (v : AVal), (v.ren f).lentD 0 H2 d = v.lentD 0 H d
  | .z, v => lent_ren r v
  | .s d, v => by
    have list : ∀ vs : List AVal, mapL (AVal.lentD 0 H2 d) (AVal.ren.rens f vs) = mapL (AVal.lentD 0 H d) vs := by
      intro vs
      rw [rens_eq, mapL_eq, mapL_eq, List.map_map]
      exact List.map_congr_left fun v _ => lentD_ren r d v
    cases v with
    | own l off len ver z =>
      simp only [AVal.ren, AVal.lentD, r.nth l, ltN_eq, Nat.not_lt_zero, decide_false, cond_false]
      cases Ab.nth H l with
      | none => rfl
      | some blk =>
        obtain ⟨c, ver'⟩ := blk
        cases c with
        | typ c => rfl
        | cells vs => cases off <;> simp only [Option.map, Blk.ren, BC.ren, list]
    | ptr l off ver =>
      simp only [AVal.ren, AVal.lentD, r.nth l, ltN_eq, Nat.not_lt_zero, decide_false, cond_false]
      cases Ab.nth H l with
      | none => rfl
      | some blk =>
        obtain ⟨c, ver'⟩ := blk
        cases c with
        | typ c => rfl
        | cells vs => simp only [Option.map, Blk.ren, BC.ren, list]
    | agg vs => simp only [AVal.ren, AVal.lentD, list]
    | tup vs => simp only [AVal.ren, AVal.lentD, list]
    | fn g vs => simp only [AVal.ren, AVal.lentD, list]
    | rom vs off => exact lent_ren r (.rom vs off)
    | ros vs len z => exact lent_ren r (.ros vs len z)
    | _ => rfl

theorem lend0_ren {f : Nat → Nat} {H H2 : Heap} (r : RenOk f G H H2) (args : List AVal) : lend0 H2 (args.map (AVal.ren f)) = lend0 H args := by
  simp only [lend0, mapL_eq, List.map_map]
  exact List.map_congr_left fun v _ => lentD_ren r dep3 v

mutual
theorem free_ren (f : Nat → Nat) : ∀ v : AVal, (v.ren f).free = v.free
  | .own .. => rfl
  | .ptr .. => rfl
  | .rom vs off => by simp only [AVal.ren, AVal.free, frees_ren f vs]
  | .ros vs len z => by simp only [AVal.ren, AVal.free, frees_ren f vs]
  | .agg vs => by simp only [AVal.ren, AVal.free, frees_ren f vs]
  | .tup vs => by simp only [AVal.ren, AVal.free, frees_ren f vs]
  | .fn g vs => by simp only [AVal.ren, AVal.free, frees_ren f vs]
  | .top => rfl
  | .undef => rfl
  | .bool _ => rfl
  | .int _ _ => rfl
  | .flt _ _ => rfl
  | .cpx _ _ _ => rfl
  | .str _ => rfl
  | .nils => rfl
  | .emp => rfl
  | .ro _ _ _ => rfl
  | .rop _ _ => rfl
  | .nilf => rfl
  | .nili => rfl
  | .fex .. => rfl
  | .bun _ _ _ => rfl
theorem frees_ren (f : Nat → Nat) : ∀ vs : List AVal, AVal.free.frees (AVal.ren.rens f vs) = AVal.free.frees vs
  | [] => rfl
  | v :: vs => by simp only [AVal.ren.rens, AVal.free.frees, free_ren f v, frees_ren f vs]
end

mutual
theorem shift_ren {f : Nat → Nat} {n n2 : Nat} (hf : ∀ i, f (n + i) = n2 + i) : ∀ v : AVal, (v.shift n).ren f = v.shift n2
  | .own l off len ver z => by simp only [AVal.ren, AVal.shift, hf]
  | .ptr l off ver => by simp only [AVal.ren, AVal.shift, hf]
  | .rom vs off => by simp only [AVal.ren, AVal.shift, shifts_ren hf vs]
  | .ros vs len z => by simp only [AVal.ren, AVal.shift, shifts_ren hf vs]
  | .agg vs => by simp only [AVal.ren, AVal.shift, shifts_ren hf vs]
  | .tup vs => by simp only [AVal.ren, AVal.shift, shifts_ren hf vs]
  | .fn g vs => by simp only [AVal.ren, AVal.shift, shifts_ren hf vs]
  | .top => rfl
  | .undef => rfl
  | .bool _ => rfl
  | .int _ _ => rfl
  | .flt _ _ => rfl
  | .cpx _ _ _ => rfl
  | .str _ => rfl
  | .nils => rfl
  | .emp => rfl
  | .ro _ _ _ => rfl
  | .rop _ _ => rfl
  | .nilf => rfl
  | .nili => rfl
  | .fex .. => rfl
  | .bun _ _ _ => rfl
theorem shifts_ren {f : Nat → Nat} {n n2 : Nat} (hf : ∀ i, f (n + i) = n2 + i) : ∀ vs : List AVal, AVal.ren.rens f (AVal.shift.shifts n vs) = AVal.shift.shifts n2 vs
  | [] => rfl
  | v :: vs => by simp only [AVal.ren.rens, AVal.shift.shifts, shift_ren hf v, shifts_ren hf vs]
end
theorem blkShift_ren {f : Nat → Nat} {n n2 : Nat} (hf : ∀ i, f (n + i) = n2 + i) (b : Blk) : (b.shift n).ren f = b.shift n2 := by
  obtain ⟨c, ver⟩ := b
  cases c with
  | typ c => rfl
  | cells vs => simp only [Blk.shift, Blk.ren, BC.shift, BC.ren, shifts_ren hf vs]

theorem shiftB_ren {f : Nat → Nat} {n n2 : Nat} (hf : ∀ i, f (n + i) = n2 + i) (l : List Blk) : (shiftB n l).map (Blk.ren f) = shiftB n2 l := by
  simp only [shiftB, mapL_eq, List.map_map]
  exact List.map_congr_left fun b _ => blkShift_ren hf b
theorem RenOk.app {f : Nat → Nat} : ∀ {l : List Blk} {H H2 : Heap}, RenOk f G H H2 → RenOk f G (Ab.app H l) (Ab.app H2 (l.map (Blk.ren f)))
  | [], H, H2, r => by simpa [app_eq] using r
  | b :: l, H, H2, r => by
    have := (r.snoc b).app (l := l)
    simpa [app_eq, snoc_eq] using this
theorem RenOk.ext {f : Nat → Nat} {H H2 : Heap} (r : RenOk f G H H2) : ∀ l : List Blk, RenOk f G ((Eff.ext l).heap H) ((Eff.ext (l.map (Blk.ren f))).heap H2)
  | [] => r
  | b :: l => r.app (l := b :: l)

/-- Calls that add to the heap alone do not mind a renaming. -/
class OrcRen (A : OrcK) : Prop where
  ren : ∀ {f : Nat → Nat} {G H H2 : Heap}, RenOk f G H H2 → ∀ {g : FuncId} {args : List AVal} {b : Bool} {v : AVal} {n : List Blk},
  A g args H = some (b, v, .ext n) → A g (args.map (AVal.ren f)) H2 = some (b, v.ren f, .ext (n.map (Blk.ren f)))
theorem OrcRen.exts {A : OrcK} (hA : OrcRen A) : OrcRen A.exts := by
  refine ⟨?_⟩
  intro f G H H2 r g args b v n h
  unfold OrcK.exts at h ⊢
  split at h
  · rename_i b1 v1 n1 hv
    simp only [Option.some.injEq, Prod.mk.injEq, Eff.ext.injEq] at h
    obtain ⟨rfl, rfl, rfl⟩ := h
    rw [hA.ren r hv]
  · cases h
theorem exts_ext {A : OrcK} {g : FuncId} {args : List AVal} {H : Heap} {b : Bool} {v : AVal} {e : Eff} (h : A.exts g args H = some (b, v, e)) : ∃ n, e = .ext n := by
  unfold OrcK.exts at h
  split at h
  · simp only [Option.some.injEq, Prod.mk.injEq] at h
    exact ⟨_, h.2.2.symm⟩
  · cases h

theorem evs_ren {f : Nat → Nat} {s s2 : State} (hs : s2.t = s.t.map (AVal.ren f)) (x : Operand) : s2.ev x = (s.ev x).ren f := by
  cases s; cases s2; simp only at hs; subst hs
  exact ev_ren f _ _ _ x
theorem acallK_ren {f : Nat → Nat} {A : OrcK} (hA : OrcRen A) {s s2 : State} (hs : s2.t = s.t.map (AVal.ren f)) (r : RenOk f G s.h s2.h) {o : Op} {v : AVal} {H' : Heap} {b : Bool}
    (h : acallK A.exts s o = some (b, v, H')) : ∃ H2', acallK A.exts s2 o = some (b, v.ren f, H2') ∧ RenOk f G H' H2' := by
  have ev := evs_ren hs
  unfold acallK at h
  split at h
  · rename_i fo args ats
    split at h
    · rename_i g' caps hg
      split at h
      · rename_i b1 v1 e he
        obtain ⟨n, rfl⟩ := exts_ext he
        simp only [Option.some.injEq, Prod.mk.injEq] at h
        obtain ⟨rfl, rfl, rfl⟩ := h
        have h2 := hA.exts.ren r he
        refine ⟨_, ?_, r.ext n⟩
        have ha : Ab.app (mapL (fun x => (s.ev x).ren f) args.toList) (caps.map (AVal.ren f)) = (Ab.app (mapL s.ev args.toList) caps).map (AVal.ren f) := by
          simp only [app_eq, mapL_eq, List.map_append, List.map_map]
          rfl
        simp only [acallK, ev, hg, AVal.ren, rens_eq, funext ev]
        rw [ha, h2]
      · cases h
    · cases h
  · cases h

theorem mem_pure {P : Program} {s : State} {o : Op} {q : Bool × AVal × Heap} (ev : Operand → AVal) (h : amemK P s o = some q) : apureK P ev o = none := by
  unfold amemK at h
  split at h
  case h_6 a b x =>
    split at h
    · rename_i b1 u hu
      simp only [apureK]
      unfold aconvMK at hu
      split at hu
      · rename_i e h1 h2; simp only [aconvK, h1, h2]
      · rename_i e h1 h2; simp only [aconvK, h1, h2]
      · cases hu
    · cases h
  case h_7 t x lo =>
    split at h
    · rename_i b1 u hu
      simp only [apureK]
      unfold asliceMK at hu
      split at hu
      · rename_i n e h1; simp only [asliceK, h1]
      · cases hu
    · cases h
  all_goals first | rfl | (cases h; done) | (unfold apureK; rfl)
theorem call_pure {P : Program} {A : OrcK} {s : State} {o : Op} {q : Bool × AVal × Heap} (ev : Operand → AVal) (h : acallK A s o = some q) : apureK P ev o = none := by
  unfold acallK at h
  split at h
  · rfl
  · cases h
theorem call_mem {P : Program} {A : OrcK} {s : State} {o : Op} {q : Bool × AVal × Heap} (s2 : State) (h : acallK A s o = some q) : amemK P s2 o = none := by
  unfold acallK at h
  split at h
  · rfl
  · cases h
/-- A step of a renamed state is the step, renamed. -/
theorem astepK_ren {f : Nat → Nat} {P : Program} {A : OrcK} (hA : OrcRen A) {s s2 : State} (hs : s2.t = s.t.map (AVal.ren f)) (r : RenOk f G s.h s2.h) {o : Op} {v : AVal} {H' : Heap} {b : Bool}
    (h : astepK P A.exts s o = some (b, v, H')) : ∃ H2', astepK P A.exts s2 o = some (b, v.ren f, H2') ∧ RenOk f G H' H2' := by
  have ev : s2.ev = fun x => (s.ev x).ren f := funext (evs_ren hs)
  unfold astepK at h
  split at h
  · rename_i b1 v1 hv
    simp only [Option.some.injEq, Prod.mk.injEq] at h
    obtain ⟨rfl, rfl, rfl⟩ := h
    refine ⟨s2.h, ?_, r⟩
    have := apureK_ren f hv
    simp only [astepK, ev, this]
  · rename_i hv
    split at h
    · rename_i q hq
      obtain ⟨q1, q2, q3⟩ := q
      simp only [Option.some.injEq, Prod.mk.injEq] at h
      obtain ⟨rfl, rfl, rfl⟩ := h
      obtain ⟨H2', h2, r2⟩ := amemK_ren hs r hq
      exact ⟨H2', by simp only [astepK, mem_pure s2.ev hq, h2], r2⟩
    · rename_i hq
      obtain ⟨H2', h2, r2⟩ := acallK_ren hA hs r h
      exact ⟨H2', by simp only [astepK, call_pure s2.ev h, call_mem s2 h, h2], r2⟩

/-- The one state is the other, its blocks renamed. -/
structure RenS (f : Nat → Nat) (G : Heap) (s s2 : State) : Prop where
  t : s2.t = s.t.map (AVal.ren f)
  h : RenOk f G s.h s2.h
theorem RenS.put {f : Nat → Nat} {s s2 : State} (r : RenS f G s s2) {H' H2' : Heap} (r2 : RenOk f G H' H2') (d : Option Tmp) (v : AVal) : RenS f G (State.put ⟨s.t, H'⟩ d v) (State.put ⟨s2.t, H2'⟩ d (v.ren f)) := by
  cases d with
  | none => exact ⟨r.t, r2⟩
  | some d => exact ⟨by simp only [State.put, upd_eq, r.t, List.map_set], r2⟩

theorem opY_ren {f : Nat → Nat} {P : Program} {A : OrcK} (hA : OrcRen A) {s s2 : State} (r : RenS f G s s2) {o : Op} {v : AVal} {H' : Heap}
    (h : opY P A.exts o s = some (v, H')) : ∃ H2', opY P A.exts o s2 = some (v.ren f, H2') ∧ RenOk f G H' H2' := by
  have ev := evs_ren r.t
  unfold opY at h
  split at h
  · split at h
    · rename_i c a b t hc
      simp only [Option.some.injEq, Prod.mk.injEq] at h
      obtain ⟨rfl, rfl⟩ := h
      refine ⟨s2.h, ?_, r.h⟩
      simp only [opY, ev, hc, AVal.ren]
      cases t <;> rfl
    · cases h
  · rename_i hn
    obtain ⟨v1, h1, e1, e2⟩ := thenK_some h
    simp only [Option.some.injEq, Prod.mk.injEq] at e2
    obtain ⟨rfl, rfl⟩ := e2
    obtain ⟨H2', h2, r2⟩ := astepK_ren hA r.t r.h e1
    refine ⟨H2', ?_, r2⟩
    unfold opY
    split
    · exact (hn _ _ _ rfl).elim
    · rw [h2]; rfl

theorem guardY_ren {f : Nat → Nat} {s s2 : State} (r : RenS f G s s2) {ops : Array Oper} {g : Option (Nat × Bool)} {yes no yes2 no2 : Option (AVal × Heap)} {v : AVal} {H' : Heap}
    (hy : ∀ v H', yes = some (v, H') → ∃ H2', yes2 = some (v.ren f, H2') ∧ RenOk f G H' H2') (hn : ∀ v H', no = some (v, H') → ∃ H2', no2 = some (v.ren f, H2') ∧ RenOk f G H' H2')
    (h : guardY ops g s yes no = some (v, H')) : ∃ H2', guardY ops g s2 yes2 no2 = some (v.ren f, H2') ∧ RenOk f G H' H2' := by
  unfold guardY at h
  split at h
  · exact hy _ _ h
  · rename_i j want
    split at h
    · rename_i d hd
      split at h
      · rename_i b hb
        have e : nth s2.t d = some (.bool b) := by rw [nth_eq, r.t, List.getElem?_map, ← nth_eq, hb]; rfl
        simp only [guardY, hd, e]
        cases b <;> cases want <;> first | exact hy _ _ h | exact hn _ _ h
      · rename_i hb
        have e : nth s2.t d = some .undef := by rw [nth_eq, r.t, List.getElem?_map, ← nth_eq, hb]; rfl
        simp only [guardY, hd, e]
        exact hn _ _ h
      · cases h
    · cases h

theorem opOf_ren {f : Nat → Nat} {P : Program} {A : OrcK} (hA : OrcRen A) {s s2 : State} (r : RenS f G s s2) {ops : Array Oper} {o : Oper} {v : AVal} {H' : Heap}
    (h : opOf P A.exts ops o s = some (v, H')) : ∃ H2', opOf P A.exts ops o s2 = some (v.ren f, H2') ∧ RenOk f G H' H2' := by
  refine guardY_ren r (fun v H' hy => opY_ren hA r hy) (fun v H' hn => ?_) h
  simp only [Option.some.injEq, Prod.mk.injEq] at hn
  obtain ⟨rfl, rfl⟩ := hn
  exact ⟨s2.h, rfl, r.h⟩

theorem stp_ren {f : Nat → Nat} {P : Program} {A : OrcK} (hA : OrcRen A) {s s' s2 : State} (r : RenS f G s s2) {ops : Array Oper} {o : Oper} (h : Stp P A.exts ops o s s') : ∃ s2', Stp P A.exts ops o s2 s2' ∧ RenS f G s' s2' := by
  obtain ⟨v, H', h1, rfl⟩ := stp_iff.1 h
  obtain ⟨H2', h2, r2⟩ := opOf_ren hA r h1
  exact ⟨_, stp_iff.2 ⟨_, _, h2, rfl⟩, r.put r2 _ _⟩

/-- What all orders come to from a state, they come to from the renamed one, renamed. -/
theorem AnyA.ren {f : Nat → Nat} {P : Program} {A : OrcK} (hA : OrcRen A) {ops : Array Oper} {F : State → Prop} : ∀ {n : Nat} {listed : Array Bool} {s s2 : State},
    AnyA P A.exts ops F n listed s → RenS f G s s2 → AnyA P A.exts ops (fun s2 => ∃ s, F s ∧ RenS f G s s2) n listed s2
  | 0, listed, s, s2, h, r => ⟨h.1, s, h.2, r⟩
  | n + 1, listed, s, s2, h, r => by
    refine ⟨fun h0 => ⟨s, h.1 h0, r⟩, fun i hi => ?_⟩
    obtain ⟨o, s', ho, h1, h2⟩ := h.2 i hi
    obtain ⟨s2', h3, r2⟩ := stp_ren hA r h1
    exact ⟨o, s2', ho, h3, AnyA.ren hA h2 r2⟩

mutual
theorem ren_low {f : Nat → Nat} {n : Nat} (hf : ∀ l, l < n → f l = l) : ∀ v : AVal, v.inR n = true → v.ren f = v
  | .own l off len ver z, h => by simp only [AVal.inR, ltN_eq, decide_eq_true_eq] at h; simp only [AVal.ren, hf l h]
  | .ptr l off ver, h => by simp only [AVal.inR, ltN_eq, decide_eq_true_eq] at h; simp only [AVal.ren, hf l h]
  | .rom vs off, h => by simp only [AVal.inR] at h; simp only [AVal.ren, rens_low hf vs h]
  | .ros vs len z, h => by simp only [AVal.inR] at h; simp only [AVal.ren, rens_low hf vs h]
  | .agg vs, h => by simp only [AVal.inR] at h; simp only [AVal.ren, rens_low hf vs h]
  | .tup vs, h => by simp only [AVal.inR] at h; simp only [AVal.ren, rens_low hf vs h]
  | .fn g vs, h => by simp only [AVal.inR] at h; simp only [AVal.ren, rens_low hf vs h]
  | .top, _ => rfl
  | .undef, _ => rfl
  | .bool _, _ => rfl
  | .int _ _, _ => rfl
  | .flt _ _, _ => rfl
  | .cpx _ _ _, _ => rfl
  | .str _, _ => rfl
  | .nils, _ => rfl
  | .emp, _ => rfl
  | .ro _ _ _, _ => rfl
  | .rop _ _, _ => rfl
  | .nilf, _ => rfl
  | .nili, _ => rfl
  | .fex .., _ => rfl
  | .bun _ _ _, _ => rfl
theorem rens_low {f : Nat → Nat} {n : Nat} (hf : ∀ l, l < n → f l = l) : ∀ vs : List AVal, AVal.inR.inRs n vs = true → AVal.ren.rens f vs = vs
  | [], _ => rfl
  | v :: vs, h => by
    simp only [AVal.inR.inRs, Bool.and_eq_true] at h
    simp only [AVal.ren.rens, ren_low hf v h.1, rens_low hf vs h.2]
end
/-- All that a state holds leads into its heap (so it is in every state that stands for a true one). -/
structure InS (s : State) : Prop where
  t : AVal.inR.inRs s.h.length s.t = true
  h : ∀ (l : Nat) (blk : Blk), s.h[l]? = some blk → blk.c.inR s.h.length = true
/-- Room for one more block. -/
def bump (n i : Nat) : Nat := if i < n then i else i + 1
theorem bump_low {n l : Nat} (h : l < n) : bump n l = l := by simp [bump, h]
theorem InS.bump {s : State} (hs : InS s) (blk : Blk) : RenS (bump s.h.length) (Ab.snoc s.h blk) s ⟨s.t, Ab.snoc s.h blk⟩ := by
  refine ⟨?_, ?_, ?_, ?_, fun l b _ h => h⟩
  · rw [← rens_eq, rens_low (fun l h => bump_low h) s.t hs.t]
  · intro a b h
    unfold Ab.bump at h
    split at h <;> split at h <;> omega
  · intro i b hb
    have hi : i < s.h.length := (List.getElem?_eq_some_iff.1 hb).1
    have hc : b.c.ren (Ab.bump s.h.length) = b.c := by
      have := hs.h i b hb
      cases hbc : b.c with
      | typ c => rfl
      | cells vs =>
        rw [hbc] at this
        have := rens_low (f := Ab.bump s.h.length) (fun l h => bump_low h) vs this
        simp only [BC.ren, rens_eq] at this ⊢
        rw [this]
    rw [bump_low hi, snoc_eq, List.getElem?_append_left hi, hb, hc]
  · intro i
    simp only [Ab.bump, snoc_eq, List.length_append, List.length_cons, List.length_nil]
    rw [if_neg (by omega)]
    omega

mutual
theorem ren_congr {f g : Nat → Nat} {n : Nat} (hf : ∀ l, l < n → f l = g l) : ∀ v : AVal, v.inR n = true → v.ren f = v.ren g
  | .own l off len ver z, h => by simp only [AVal.inR, decide_eq_true_eq] at h; simp only [AVal.ren, hf l h]
  | .ptr l off ver, h => by simp only [AVal.inR, decide_eq_true_eq] at h; simp only [AVal.ren, hf l h]
  | .rom vs off, h => by simp only [AVal.inR] at h; simp only [AVal.ren, rens_congr hf vs h]
  | .ros vs len z, h => by simp only [AVal.inR] at h; simp only [AVal.ren, rens_congr hf vs h]
  | .agg vs, h => by simp only [AVal.inR] at h; simp only [AVal.ren, rens_congr hf vs h]
  | .tup vs, h => by simp only [AVal.inR] at h; simp only [AVal.ren, rens_congr hf vs h]
  | .fn g' vs, h => by simp only [AVal.inR] at h; simp only [AVal.ren, rens_congr hf vs h]
  | .top, _ => rfl
  | .undef, _ => rfl
  | .bool _, _ => rfl
  | .int _ _, _ => rfl
  | .flt _ _, _ => rfl
  | .cpx _ _ _, _ => rfl
  | .str _, _ => rfl
  | .nils, _ => rfl
  | .emp, _ => rfl
  | .ro _ _ _, _ => rfl
  | .rop _ _, _ => rfl
  | .nilf, _ => rfl
  | .nili, _ => rfl
  | .fex .., _ => rfl
  | .bun _ _ _, _ => rfl
theorem rens_congr {f g : Nat → Nat} {n : Nat} (hf : ∀ l, l < n → f l = g l) : ∀ vs : List AVal, AVal.inR.inRs n vs = true → AVal.ren.rens f vs = AVal.ren.rens g vs
  | [], _ => rfl
  | v :: vs, h => by
    simp only [AVal.inR.inRs, Bool.and_eq_true] at h
    simp only [AVal.ren.rens, ren_congr hf v h.1, rens_congr hf vs h.2]
end
theorem BC.ren_congr {f g : Nat → Nat} {n : Nat} (hf : ∀ l, l < n → f l = g l) (c : BC) (h : c.inR n = true) : c.ren f = c.ren g := by
  cases c with
  | typ c => rfl
  | cells vs =>
    have := rens_congr hf vs h
    simp only [rens_eq] at this
    simp only [BC.ren, rens_eq, this]
/-- The block that was made last goes to the place 'n', those from there on move up. -/
def rot (n m l : Nat) : Nat := if l < n then l else if l < m then l + 1 else if l = m then n else l
theorem rot_bump {n m l : Nat} (h : l < m) : bump n l = rot n m l := by
  unfold bump rot; split <;> simp [h]
theorem RenS.rot {n m : Nat} {s' s1 : State} (hn : n ≤ m) (hm : s'.h.length = m) (ins : InS s') (r : RenS (bump n) G s' s1) {blk : Blk} (hg : G[n]? = some blk) (hb : blk.c.ren (rot n m) = blk.c) :
    RenS (Ab.rot n m) [] ⟨s'.t, Ab.snoc s'.h blk⟩ s1 := by
  subst hm
  refine ⟨?_, ?_, ?_, ?_, fun l b _ h => by simp at h⟩
  · have := rens_congr (fun l h => rot_bump (n := n) h) s'.t ins.t
    simp only [rens_eq] at this
    rw [r.t, this]
  · intro a b h
    unfold Ab.rot at h
    repeat' split at h
    all_goals omega
  · intro i b hi
    simp only [snoc_eq, List.getElem?_append] at hi
    split at hi
    · rename_i hlt
      rw [← rot_bump hlt, r.h.held i b hi, BC.ren_congr (fun l h => rot_bump (n := n) h) b.c (ins.h i b hi)]
    · rename_i hge
      have h0 : i - s'.h.length = 0 := by
        have := (List.getElem?_eq_some_iff.1 hi).1
        simp at this; omega
      rw [h0] at hi
      simp only [List.getElem?_cons_zero, Option.some.injEq] at hi
      subst hi
      have e : i = s'.h.length := by omega
      have e2 : Ab.rot n s'.h.length i = n := by
        unfold Ab.rot; rw [if_neg (by omega), if_neg (by omega), if_pos e]
      rw [e2, r.h.keep n blk (fun i => by unfold bump; split <;> omega) hg, hb]
  · intro i
    have h1 := r.h.new 0
    unfold bump at h1
    rw [if_neg (by omega)] at h1
    simp only [snoc_eq, List.length_append, List.length_cons, List.length_nil, Ab.rot]
    rw [if_neg (by omega), if_neg (by omega), if_neg (by omega)]
    omega

/-- A maker of one block may come before what is apart from it: the state comes out renamed. -/
theorem stp_swap {P : Program} {A : OrcK} (hA : OrcRen A) {ops : Array Oper} {oi oj : Oper} {s s' s'' : State} (hap : oi.apart ops oj = true) (ins : InS s) (ins' : InS s') (hle : s.h.length ≤ s'.h.length)
    (h1 : Stp P A.exts ops oj s s') (h2 : Stp P A.exts ops oi s' s'') {v : Nat → AVal} {blk : Blk}
    (mk : ∀ H, opOf P A.exts ops oi ⟨s'.t, H⟩ = some (v H.length, Ab.snoc H blk))
    (hv : (v s'.h.length).ren (Ab.rot s.h.length s'.h.length) = v s.h.length) (hb : blk.c.ren (Ab.rot s.h.length s'.h.length) = blk.c) :
    ∃ s1 s2, Stp P A.exts ops oi s s1 ∧ Stp P A.exts ops oj s1 s2 ∧ RenS (Ab.rot s.h.length s'.h.length) [] s'' s2 ∧ s1 = State.put ⟨s.t, Ab.snoc s.h blk⟩ oi.dst (v s.h.length) := by
  obtain ⟨a1, a2, a3⟩ := Oper.apart_spec hap
  obtain ⟨u, hj, e1, e0⟩ := stp_iff.1 h1
  obtain ⟨v2, hi, e2, rfl⟩ := stp_iff.1 h2
  have e3 := mk s'.h
  rw [show (⟨s'.t, s'.h⟩ : State) = s' from rfl, e2] at e3
  simp only [Option.some.injEq, Prod.mk.injEq] at e3
  obtain ⟨rfl, rfl⟩ := e3
  have ei : opOf P A.exts ops oi s = some (v s.h.length, Ab.snoc s.h blk) := by
    have := mk s.h
    rw [e0, put_re, opOf_congr (s' := s) (fun t ht => nth_put fun hd => a3 t hd ht) (put_h _ _ _)] at this
    exact this
  obtain ⟨H2, ej, rj⟩ := opOf_ren hA (ins.bump blk) e1
  have ej2 : opOf P A.exts ops oj (State.put ⟨s.t, Ab.snoc s.h blk⟩ oi.dst (v s.h.length)) = some (u.ren (Ab.bump s.h.length), H2) := by
    rw [opOf_congr (s' := ⟨s.t, Ab.snoc s.h blk⟩) (fun t ht => nth_put (s := s) fun hd => a1 t hd ht) (put_h _ _ _)]
    exact ej
  refine ⟨_, _, stp_iff.2 ⟨_, _, ei, rfl⟩, stp_iff.2 ⟨_, _, ej2, rfl⟩, ?_⟩
  have r0 := (ins.bump blk).put rj oj.dst u
  rw [← e0] at r0
  have hg : (Ab.snoc s.h blk)[s.h.length]? = some blk := by simp [snoc_eq]
  have r1 := RenS.rot hle rfl ins' r0 hg hb
  have r2 := r1.put r1.h oi.dst (v s'.h.length)
  rw [hv] at r2
  have : State.put ⟨(State.put ⟨s.t, Ab.snoc s.h blk⟩ oi.dst (v s.h.length)).t, H2⟩ oj.dst (u.ren (Ab.bump s.h.length)) = State.put ⟨(State.put ⟨s.t, H2⟩ oj.dst (u.ren (Ab.bump s.h.length))).t, H2⟩ oi.dst (v s.h.length) := by
    rw [put_re, put_re]
    exact (put_put fun x hx => a2 x hx).symm
  rw [this]
  have h3 : (State.put ⟨s.t, H2⟩ oj.dst (u.ren (Ab.bump s.h.length))).h = H2 := put_h _ _ _
  rw [h3] at r2
  exact ⟨r2, rfl⟩

theorem inRs_all {n : Nat} : ∀ {vs : List AVal}, (∀ (i : Nat) (v : AVal), vs[i]? = some v → v.inR n = true) → AVal.inR.inRs n vs = true
  | [], _ => rfl
  | x :: r, hh => by
    simp only [AVal.inR.inRs, Bool.and_eq_true]
    exact ⟨hh 0 x rfl, inRs_all fun i v hi => hh (i + 1) v (by simpa using hi)⟩
/-- A state that stands for a true one leads into its heap. -/
theorem St.inS [Fb : Forb] {ρ0 : List Nat} {H0 : Heap} {w0 w : World} {s : State} {a : Act} (h : St ρ0 H0 w0 s a w) : InS s := by
  obtain ⟨⟨ρ, T, S, M⟩, hd⟩ := h
  refine ⟨inRs_all fun i v hi => (T.2 i v hi).inR, fun l blk hb => ?_⟩
  have hl : l < ρ.length := by rw [S.len]; exact (List.getElem?_eq_some_iff.1 hb).1
  obtain ⟨cs, e, _, hbr⟩ := S.blk l ρ[l] blk hb (List.getElem?_eq_getElem hl)
  cases hc : blk.c with
  | typ c => rfl
  | cells vs =>
    refine inRs_all fun i v hi => ?_
    obtain ⟨x, _, hx⟩ := hbr.2 i v (by rw [hc]; simpa [BC.get?, nth_eq] using hi)
    exact hx.inR

theorem alloc_mk {P : Program} {A : OrcK} {ops : Array Oper} {o : Oper} {e : TypeId} (hg : o.guard = none) (ho : o.op = .alloc e) {s : State} {v : AVal} {H' : Heap} (h : opOf P A ops o s = some (v, H')) :
    ∃ blk : Blk, (∀ t H, opOf P A ops o ⟨t, H⟩ = some (.ptr H.length 0 0, Ab.snoc H blk)) ∧ ∀ f, blk.c.ren f = blk.c := by
  have key : ∀ s : State, opOf P A ops o s = thenK (match aalloc P s.h e with | some r => some (true, r) | none => none) fun v h' => some (v, h') := by
    intro s
    simp only [opOf, hg, guardY, ho]
    unfold opY
    simp only [astepK, show apureK P s.ev (.alloc e) = none from rfl, show acallK A s (.alloc e) = none from rfl, amemK]
    cases aalloc P s.h e <;> rfl
  rw [key] at h
  cases hi : P.info? e with
  | none => simp [aalloc, hi, thenK] at h
  | some i =>
    cases hz : i.zero with
    | none => simp [aalloc, hi, hz, thenK] at h
    | some z =>
      refine ⟨⟨azcells z.cells.toList, 0⟩, fun t H => ?_, fun f => azcells_ren f _⟩
      rw [key]
      simp only [aalloc, hi, hz, hlen_eq, thenK, cond_true]

theorem amakeK_mk {P : Program} {H H' : Heap} {t : TypeId} {x y v : AVal} {b : Bool} (h : amakeK P H t x y = some (b, v, H')) :
    ∃ n c, ∀ H, amakeK P H t x y = some (b, .own H.length 0 n 0 1, Ab.snoc H ⟨.typ c, 0⟩) := by
  unfold amakeK at h
  split at h
  · rename_i e k n k' m hu
    split at h
    · rename_i i hi
      split at h
      · rename_i z hz
        split at h
        · rename_i c hc
          simp only [Option.some.injEq, Prod.mk.injEq] at h
          obtain ⟨rfl, rfl, rfl⟩ := h
          exact ⟨n.toNat, c, fun H => by simp only [amakeK, hu, hi, hz, hc, hlen_eq]⟩
        · cases h
      · cases h
    · cases h
  · cases h

theorem make_mk {P : Program} {A : OrcK} {ops : Array Oper} {o : Oper} {e : TypeId} {l c : Operand} (hg : o.guard = none) (ho : o.op = .makeSlice e l c) {s : State} {v : AVal} {H' : Heap} (h : opOf P A ops o s = some (v, H')) :
    ∃ (n : Nat) (blk : Blk), (∀ H, opOf P A ops o ⟨s.t, H⟩ = some (.own H.length 0 n 0 1, Ab.snoc H blk)) ∧ ∀ f, blk.c.ren f = blk.c := by
  have key : ∀ s : State, opOf P A ops o s = thenK (amakeK P s.h e (s.ev l) (s.ev c)) fun v h' => some (v, h') := by
    intro s
    simp only [opOf, hg, guardY, ho]
    unfold opY
    simp only [astepK, show apureK P s.ev (.makeSlice e l c) = none from rfl, show acallK A s (.makeSlice e l c) = none from rfl, amemK]
    cases amakeK P s.h e (s.ev l) (s.ev c) <;> rfl
  rw [key] at h
  obtain ⟨v1, h1, e1, e2⟩ := thenK_some h
  obtain ⟨n, z, hz⟩ := amakeK_mk e1
  have ev : ∀ H x, State.ev ⟨s.t, H⟩ x = s.ev x := fun H x => by cases x <;> rfl
  refine ⟨n, ⟨.typ z, 0⟩, fun H => ?_, fun f => rfl⟩
  rw [key]
  simp only [ev, hz, thenK, cond_true]

theorem fill_typ {ev : Operand → AVal} : ∀ {l : List (Nat × Operand)} {c : Cont} {c' : BC}, abuild.fill ev (.typ c) l = some c' → ∃ d, c' = .typ d
  | [], c, c', h => ⟨c, (Option.some.inj h).symm⟩
  | (i, x) :: r, c, c', h => by
    simp only [abuild.fill, BC.set?] at h
    split at h
    · rename_i c1 hc1
      split at hc1
      · simp only [Option.some.injEq] at hc1; subst hc1; exact fill_typ h
      · cases hc1
    · cases h
theorem abuildA_few {P : Program} {ev : Operand → AVal} {H : Heap} {t : TypeId} {n : Nat} {l : List (Nat × Operand)} (h : hlen l ≤ 1) : abuildA P ev H t n l = abuild P ev H t n l := by
  unfold abuildA
  split
  · rename_i r hr; exact hr.symm
  · rename_i hr
    rw [hr]
    unfold abuildC
    split
    · rename_i e hu
      split
      · rename_i i hi
        split
        · rename_i z hz
          have : (decide (2 ≤ i.size) && (decide (n * i.size ≤ 1000000) && (eqN (hlen l) n && decide (2 ≤ n)))) = false := by
            cases hb : decide (2 ≤ i.size) && (decide (n * i.size ≤ 1000000) && (eqN (hlen l) n && decide (2 ≤ n))) with
            | false => rfl
            | true =>
              simp only [Bool.and_eq_true, decide_eq_true_eq, eqN_eq, beq_iff_eq] at hb
              omega
          rw [this, cond_false]
        · rfl
      · rfl
    · rfl
theorem abuild_mk {P : Program} {ev : Operand → AVal} {H H' : Heap} {t : TypeId} {n : Nat} {l : List (Nat × Operand)} {v : AVal} (h : abuild P ev H t n l = some (v, H')) :
    ∃ c, ∀ H, abuild P ev H t n l = some (.own H.length 0 n 0 1, Ab.snoc H ⟨.typ c, 0⟩) := by
  unfold abuild at h
  split at h
  · rename_i e hu
    split at h
    · rename_i i hi
      split at h
      · rename_i z hz
        simp only [Bool.cond_eq_ite] at h
        split at h
        · rename_i hc
          split at h
          · rename_i c hc2
            split at h
            · rename_i c' hf
              obtain ⟨d, rfl⟩ := fill_typ hf
              refine ⟨d, fun H => ?_⟩
              unfold abuild
              simp only [hu, hi, hz, hc, hc2, hf, hlen_eq, cond_true]
            · cases h
          · cases h
        · cases h
      · cases h
    · cases h
  · cases h

/-- A maker of one block that looks at slots alone. -/
def isMk (o : Oper) : Bool := match o.guard with
  | some _ => false
  | none => match o.op with
    | .alloc _ => true
    | .makeSlice _ _ _ => true
    | .buildSlice _ _ _ => true
    | _ => false
structure MkOk (P : Program) (A : OrcK) (ops : Array Oper) (o : Oper) (N : Nat) (t : List AVal) (v : Nat → AVal) (blk : Blk) : Prop where
  go : ∀ H, opOf P A ops o ⟨t, H⟩ = some (v H.length, Ab.snoc H blk)
  hv : ∀ (f : Nat → Nat) (n m : Nat), f m = n → (v m).ren f = v n
  hb : ∀ f : Nat → Nat, (∀ l, l < N → f l = l) → blk.c.ren f = blk.c
  iv : ∀ n, (v n).inR (n + 1) = true
  ib : ∀ n, N ≤ n → blk.c.inR n = true
theorem ofCell_inR (n : Nat) (c : Value) : (ofCell c).inR n = true := by
  unfold ofCell
  split <;> try rfl
  split <;> rfl
theorem ofCells_inR (n : Nat) : ∀ l : List Value, AVal.inR.inRs n (mapL ofCell l) = true
  | [] => rfl
  | c :: l => by simp only [mapL, AVal.inR.inRs, ofCell_inR, ofCells_inR n l, Bool.and_self]
theorem azcells_inR (n : Nat) (cs : List Value) : (azcells cs).inR n = true := by
  unfold azcells
  cases longer (mapL ofCell cs) 17 with
  | false => exact ofCells_inR n cs
  | true =>
    simp only [cond_true]
    split
    · rfl
    · exact ofCells_inR n cs
theorem own_hv (k : Nat) (f : Nat → Nat) (n m : Nat) (h : f m = n) : (AVal.own m 0 k 0 1).ren f = AVal.own n 0 k 0 1 := by simp only [AVal.ren, h]
theorem own_iv (k n : Nat) : (AVal.own n 0 k 0 1).inR (n + 1) = true := by simp only [AVal.inR, Nat.lt_succ_self, decide_true]


mutual
theorem inR_mono {n m : Nat} (hn : n ≤ m) : ∀ v : AVal, v.inR n = true → v.inR m = true
  | .own l off len ver z, h => by simp only [AVal.inR, decide_eq_true_eq] at h ⊢; omega
  | .ptr l off ver, h => by simp only [AVal.inR, decide_eq_true_eq] at h ⊢; omega
  | .rom vs off, h => by simp only [AVal.inR] at h ⊢; exact inRs_mono hn vs h
  | .ros vs len z, h => by simp only [AVal.inR] at h ⊢; exact inRs_mono hn vs h
  | .agg vs, h => by simp only [AVal.inR] at h ⊢; exact inRs_mono hn vs h
  | .tup vs, h => by simp only [AVal.inR] at h ⊢; exact inRs_mono hn vs h
  | .fn g vs, h => by simp only [AVal.inR] at h ⊢; exact inRs_mono hn vs h
  | .top, _ => rfl
  | .undef, _ => rfl
  | .bool _, _ => rfl
  | .int _ _, _ => rfl
  | .flt _ _, _ => rfl
  | .cpx _ _ _, _ => rfl
  | .str _, _ => rfl
  | .nils, _ => rfl
  | .emp, _ => rfl
  | .ro _ _ _, _ => rfl
  | .rop _ _, _ => rfl
  | .nilf, _ => rfl
  | .nili, _ => rfl
  | .fex .., _ => rfl
  | .bun _ _ _, _ => rfl
theorem inRs_mono {n m : Nat} (hn : n ≤ m) : ∀ vs : List AVal, AVal.inR.inRs n vs = true → AVal.inR.inRs m vs = true
  | [], _ => rfl
  | v :: vs, h => by
    simp only [AVal.inR.inRs, Bool.and_eq_true] at h ⊢
    exact ⟨inR_mono hn v h.1, inRs_mono hn vs h.2⟩
end
theorem BC.inR_mono {n m : Nat} (hn : n ≤ m) (c : BC) (h : c.inR n = true) : c.inR m = true := by
  cases c with
  | typ c => rfl
  | cells vs => exact inRs_mono hn vs h
mutual
theorem ren_inR {f : Nat → Nat} {n m : Nat} (hf : ∀ l, l < n → f l < m) : ∀ v : AVal, v.inR n = true → (v.ren f).inR m = true
  | .own l off len ver z, h => by simp only [AVal.inR, AVal.ren, decide_eq_true_eq] at h ⊢; exact hf l h
  | .ptr l off ver, h => by simp only [AVal.inR, AVal.ren, decide_eq_true_eq] at h ⊢; exact hf l h
  | .rom vs off, h => by simp only [AVal.inR, AVal.ren] at h ⊢; exact rens_inR hf vs h
  | .ros vs len z, h => by simp only [AVal.inR, AVal.ren] at h ⊢; exact rens_inR hf vs h
  | .agg vs, h => by simp only [AVal.inR, AVal.ren] at h ⊢; exact rens_inR hf vs h
  | .tup vs, h => by simp only [AVal.inR, AVal.ren] at h ⊢; exact rens_inR hf vs h
  | .fn g vs, h => by simp only [AVal.inR, AVal.ren] at h ⊢; exact rens_inR hf vs h
  | .top, _ => rfl
  | .undef, _ => rfl
  | .bool _, _ => rfl
  | .int _ _, _ => rfl
  | .flt _ _, _ => rfl
  | .cpx _ _ _, _ => rfl
  | .str _, _ => rfl
  | .nils, _ => rfl
  | .emp, _ => rfl
  | .ro _ _ _, _ => rfl
  | .rop _ _, _ => rfl
  | .nilf, _ => rfl
  | .nili, _ => rfl
  | .fex .., _ => rfl
  | .bun _ _ _, _ => rfl
theorem rens_inR {f : Nat → Nat} {n m : Nat} (hf : ∀ l, l < n → f l < m) : ∀ vs : List AVal, AVal.inR.inRs n vs = true → AVal.inR.inRs m (AVal.ren.rens f vs) = true
  | [], _ => rfl
  | v :: vs, h => by
    simp only [AVal.ren.rens, AVal.inR.inRs, Bool.and_eq_true] at h ⊢
    exact ⟨ren_inR hf v h.1, rens_inR hf vs h.2⟩
end
mutual
theorem inR_ren {f : Nat → Nat} {n m : Nat} (hf : ∀ l, f l < m → l < n) : ∀ v : AVal, (v.ren f).inR m = true → v.inR n = true
  | .own l off len ver z, h => by simp only [AVal.inR, AVal.ren, decide_eq_true_eq] at h ⊢; exact hf l h
  | .ptr l off ver, h => by simp only [AVal.inR, AVal.ren, decide_eq_true_eq] at h ⊢; exact hf l h
  | .rom vs off, h => by simp only [AVal.inR, AVal.ren] at h ⊢; exact inRs_ren hf vs h
  | .ros vs len z, h => by simp only [AVal.inR, AVal.ren] at h ⊢; exact inRs_ren hf vs h
  | .agg vs, h => by simp only [AVal.inR, AVal.ren] at h ⊢; exact inRs_ren hf vs h
  | .tup vs, h => by simp only [AVal.inR, AVal.ren] at h ⊢; exact inRs_ren hf vs h
  | .fn g vs, h => by simp only [AVal.inR, AVal.ren] at h ⊢; exact inRs_ren hf vs h
  | .top, _ => rfl
  | .undef, _ => rfl
  | .bool _, _ => rfl
  | .int _ _, _ => rfl
  | .flt _ _, _ => rfl
  | .cpx _ _ _, _ => rfl
  | .str _, _ => rfl
  | .nils, _ => rfl
  | .emp, _ => rfl
  | .ro _ _ _, _ => rfl
  | .rop _ _, _ => rfl
  | .nilf, _ => rfl
  | .nili, _ => rfl
  | .fex .., _ => rfl
  | .bun _ _ _, _ => rfl
theorem inRs_ren {f : Nat → Nat} {n m : Nat} (hf : ∀ l, f l < m → l < n) : ∀ vs : List AVal, AVal.inR.inRs m (AVal.ren.rens f vs) = true → AVal.inR.inRs n vs = true
  | [], _ => rfl
  | v :: vs, h => by
    simp only [AVal.ren.rens, AVal.inR.inRs, Bool.and_eq_true] at h ⊢
    exact ⟨inR_ren hf v h.1, inRs_ren hf vs h.2⟩
end

theorem inRs_upd {n : Nat} {vs : List AVal} {d : Nat} {v : AVal} (h : AVal.inR.inRs n vs = true) (hv : v.inR n = true) : AVal.inR.inRs n (upd vs d v) = true := by
  refine inRs_all fun i u hu => ?_
  rw [upd_eq, List.getElem?_set] at hu
  split at hu
  · split at hu
    · simp only [Option.some.injEq] at hu; subst hu; exact hv
    · cases hu
  · exact inRs_get h i u hu
theorem InS.put {s : State} (ins : InS s) (d : Option Tmp) {v : AVal} (hv : v.inR s.h.length = true) : InS (s.put d v) := by
  cases d with
  | none => exact ins
  | some d => exact ⟨inRs_upd ins.t hv, ins.h⟩
theorem InS.snoc {s : State} (ins : InS s) {blk : Blk} (hb : blk.c.inR (s.h.length + 1) = true) : InS ⟨s.t, Ab.snoc s.h blk⟩ := by
  have hl : (Ab.snoc s.h blk).length = s.h.length + 1 := by simp [snoc_eq]
  refine ⟨by rw [hl]; exact inRs_mono (Nat.le_succ _) _ ins.t, fun l b h => ?_⟩
  rw [hl]
  simp only [snoc_eq, List.getElem?_append] at h
  split at h
  · exact BC.inR_mono (Nat.le_succ _) _ (ins.h l b h)
  · have h0 : l - s.h.length = 0 := by
      have := (List.getElem?_eq_some_iff.1 h).1
      simp at this; omega
    rw [h0] at h
    simp only [List.getElem?_cons_zero, Option.some.injEq] at h
    subst h; exact hb
theorem glFind_in (n : Nat) : ∀ (l : List (Nat × List Int)) (g : Nat), (glFind l g).inR n = true
  | [], g => rfl
  | (k, xs) :: r, g => by
    simp only [glFind]
    cases eqN k g with
    | false => exact glFind_in n r g
    | true =>
      simp only [cond_true, AVal.inR]
      induction xs with
      | nil => rfl
      | cons x xs ih => simp only [mapL, AVal.inR.inRs, AVal.inR, ih, Bool.and_self]
theorem InS.ev {s : State} (ins : InS s) (x : Operand) : (s.ev x).inR s.h.length = true := by
  cases x with
  | tmp t =>
    simp only [State.ev]
    cases h : nth s.t t with
    | none => rfl
    | some v => rw [nth_eq] at h; exact inRs_get ins.t t v h
  | const v =>
    have hc : ∀ c : Value, (ofCell c).inR s.h.length = true := fun c => by
      unfold ofCell
      split <;> try rfl
      split <;> rfl
    simp only [State.ev, ofConst]
    split
    · simp only [AVal.inR, mapL_eq]
      refine inRs_all fun i u hu => ?_
      simp only [List.getElem?_map, Option.map_eq_some_iff] at hu
      obtain ⟨c, _, rfl⟩ := hu
      exact hc c
    · exact hc _
  | global g => exact glFind_in _ _ _
  | func _ => rfl
theorem own_hvz (k z : Nat) (f : Nat → Nat) (n m : Nat) (h : f m = n) : (AVal.own m 0 k 0 z).ren f = AVal.own n 0 k 0 z := by simp only [AVal.ren, h]
theorem own_ivz (k z n : Nat) : (AVal.own n 0 k 0 z).inR (n + 1) = true := by simp only [AVal.inR, Nat.lt_succ_self, decide_true]
theorem abcells_in {ev : Operand → AVal} {N sz : Nat} : ∀ {l : List (Nat × Operand)} {i : Nat} {vs : List AVal}, (∀ p ∈ l, (ev p.2).inR N = true) → abcells ev sz i l = some vs → AVal.inR.inRs N vs = true
  | [], i, vs, _, h => by simp only [abcells, Option.some.injEq] at h; subst h; rfl
  | (j, x) :: l, i, vs, hN, h => by
    simp only [abcells, eqN_eq, hlen_eq, app_eq, Bool.cond_eq_ite] at h
    split at h
    · split at h
      · rename_i us hus
        split at h
        · split at h
          · rename_i us' hus'
            simp only [Option.some.injEq] at h; subst h
            have h1 : (ev x).inR N = true := hN (j, x) List.mem_cons_self
            have h2 := abcells_in (fun p hp => hN p (List.mem_cons_of_mem _ hp)) hus'
            have h3 : AVal.inR.inRs N us = true := by
              revert hus h1
              cases ev x <;> simp only [AVal.cells?, Option.some.injEq, reduceCtorEq, false_implies, implies_true] <;> intro e <;> subst e <;> simp [AVal.inR, AVal.inR.inRs]
            refine inRs_all fun k u hu => ?_
            rw [List.getElem?_append] at hu
            split at hu
            · exact inRs_get h3 k u hu
            · exact inRs_get h2 _ u hu
          · cases h
        · cases h
      · cases h
    · cases h
theorem abuildC_mk {P : Program} {ev : Operand → AVal} {H H' : Heap} {t : TypeId} {n N : Nat} {l : List (Nat × Operand)} {v : AVal} (hN : ∀ p ∈ l, (ev p.2).inR N = true) (h : abuildC P ev H t n l = some (v, H')) :
    ∃ z vs, AVal.inR.inRs N vs = true ∧ ∀ H, abuildC P ev H t n l = some (.ros vs n z, H) := by
  unfold abuildC at h
  split at h
  · rename_i e hu
    split at h
    · rename_i i hi
      split at h
      · rename_i z hz
        simp only [Bool.cond_eq_ite] at h
        split at h
        · rename_i hc
          split at h
          · rename_i vs hvs
            refine ⟨i.size, vs, abcells_in hN hvs, fun H => ?_⟩
            simp only [hlen_eq] at hc
            unfold abuildC
            simp only [hu, hi, hz, hc, hvs, hlen_eq, cond_true]
          · cases h
        · cases h
      · cases h
    · cases h
  · cases h
theorem mk_ok {P : Program} {A : OrcK} {ops : Array Oper} {o : Oper} {N : Nat} (hm : isMk o = true) {s : State} {v0 : AVal} {H' : Heap} (hN : ∀ x ∈ o.op.operands, (s.ev x).inR N = true) (h : opOf P A ops o s = some (v0, H')) :
    (∃ v blk, MkOk P A ops o N s.t v blk) ∨ ∃ v : AVal, v.inR N = true ∧ ∀ H, opOf P A ops o ⟨s.t, H⟩ = some (v, H) := by
  unfold isMk at hm
  split at hm
  · cases hm
  · rename_i hg
    have ev : ∀ (H : Heap) (x : Operand), State.ev ⟨s.t, H⟩ x = s.ev x := fun H x => by cases x <;> rfl
    split at hm
    · rename_i e ho
      have key : ∀ s : State, opOf P A ops o s = thenK (match aalloc P s.h e with | some r => some (true, r) | none => none) fun v h' => some (v, h') := by
        intro s
        simp only [opOf, hg, guardY, ho]
        unfold opY
        simp only [astepK, show apureK P s.ev (.alloc e) = none from rfl, show acallK A s (.alloc e) = none from rfl, amemK]
        cases aalloc P s.h e <;> rfl
      rw [key] at h
      cases hi : P.info? e with
      | none => simp [aalloc, hi, thenK] at h
      | some i =>
        cases hz : i.zero with
        | none => simp [aalloc, hi, hz, thenK] at h
        | some z =>
          refine .inl ⟨fun n => .ptr n 0 0, ⟨azcells z.cells.toList, 0⟩, fun H => ?_, fun f n m hf => by simp only [AVal.ren, hf], fun f _ => ?_, fun n => by simp only [AVal.inR, Nat.lt_succ_self, decide_true], fun n _ => azcells_inR n _⟩
          · rw [key]
            simp only [aalloc, hi, hz, hlen_eq, thenK, cond_true]
          · exact azcells_ren f _
    · rename_i e l c ho
      have key : ∀ s : State, opOf P A ops o s = thenK (amakeK P s.h e (s.ev l) (s.ev c)) fun v h' => some (v, h') := by
        intro s
        simp only [opOf, hg, guardY, ho]
        unfold opY
        simp only [astepK, show apureK P s.ev (.makeSlice e l c) = none from rfl, show acallK A s (.makeSlice e l c) = none from rfl, amemK]
        cases amakeK P s.h e (s.ev l) (s.ev c) <;> rfl
      rw [key] at h
      obtain ⟨v1, h1, e1, e2⟩ := thenK_some h
      obtain ⟨n, z, hz⟩ := amakeK_mk e1
      refine .inl ⟨fun m => .own m 0 n 0 1, ⟨.typ z, 0⟩, fun H => ?_, own_hv n, fun f _ => rfl, own_iv n, fun n _ => rfl⟩
      rw [key]
      simp only [ev, hz, thenK, cond_true]
    · rename_i e l c ho
      have key : ∀ s : State, opOf P A ops o s = thenK (match abuildA P s.ev s.h e l c.toList with | some r => some (true, r) | none => none) fun v h' => some (v, h') := by
        intro s
        simp only [opOf, hg, guardY, ho]
        unfold opY
        simp only [astepK, show apureK P s.ev (.buildSlice e l c) = none from rfl, show acallK A s (.buildSlice e l c) = none from rfl, amemK]
        cases abuildA P s.ev s.h e l c.toList <;> rfl
      rw [key] at h
      obtain ⟨v1, h1, e1, e2⟩ := thenK_some h
      cases hb : abuild P s.ev s.h e l c.toList with
      | some q =>
        obtain ⟨q1, q2⟩ := q
        obtain ⟨z, hz⟩ := abuild_mk hb
        refine .inl ⟨fun m => .own m 0 l 0 1, ⟨.typ z, 0⟩, fun H => ?_, own_hv l, fun f _ => rfl, own_iv l, fun n _ => rfl⟩
        rw [key]
        have evf : State.ev ⟨s.t, H⟩ = s.ev := funext (ev H)
        simp only [evf, abuildA, hz, thenK, cond_true]
      | none =>
        cases hc : abuildC P s.ev s.h e l c.toList with
        | none => simp only [abuildA, hb, hc] at e1; cases e1
        | some q =>
          obtain ⟨q1, q2⟩ := q
          obtain ⟨z, vs, hin, hz⟩ := abuildC_mk (N := N) (fun p hp => hN p.2 (by
            rw [ho]
            simp only [Op.operands, List.mem_toArray, List.mem_map]; exact ⟨p, hp, rfl⟩)) hc
          refine .inr ⟨.ros vs l z, by simp only [AVal.inR]; exact hin, fun H => ?_⟩
          rw [key]
          have evf : State.ev ⟨s.t, H⟩ = s.ev := funext (ev H)
          have hbn : abuild P s.ev H e l c.toList = none := by
            cases hb2 : abuild P s.ev H e l c.toList with
            | none => rfl
            | some q =>
              obtain ⟨q1, q2⟩ := q
              obtain ⟨z2, hz2⟩ := abuild_mk hb2
              rw [hz2 s.h] at hb; cases hb
          simp only [evf, abuildA, hbn, hz, thenK, cond_true]
    · cases hm

theorem InS.made {P : Program} {A : OrcK} {ops : Array Oper} {o : Oper} {s s1 : State} {v : Nat → AVal} {blk : Blk} (m : MkOk P A ops o s.h.length s.t v blk) (ins : InS s) (h : Stp P A ops o s s1) : InS s1 ∧ s1.h.length = s.h.length + 1 := by
  obtain ⟨v0, H', e, rfl⟩ := stp_iff.1 h
  have e2 := m.go s.h
  rw [show (⟨s.t, s.h⟩ : State) = s from rfl, e] at e2
  simp only [Option.some.injEq, Prod.mk.injEq] at e2
  obtain ⟨rfl, rfl⟩ := e2
  refine ⟨InS.put (ins.snoc (m.ib _ (Nat.le_succ _))) _ ?_, by rw [put_h]; simp [snoc_eq]⟩
  have hl : (Ab.snoc s.h blk).length = s.h.length + 1 := by simp [snoc_eq]
  show (v s.h.length).inR (Ab.snoc s.h blk).length = true
  rw [hl]; exact m.iv _
/-- What looks at slots alone and leaves the heap as it is: it may as well come before. -/
theorem stp_still {P : Program} {A : OrcK} {ops : Array Oper} {oi oj : Oper} {s s' s'' : State} {v : AVal} (hap : oi.apart ops oj = true) (ins : InS s) (hv : v.inR s.h.length = true)
    (h1 : Stp P A ops oj s s') (h2 : Stp P A ops oi s' s'') (hi : ∀ h, opOf P A ops oi ⟨s'.t, h⟩ = some (v, h)) : ∃ s1, Stp P A ops oi s s1 ∧ Stp P A ops oj s1 s'' ∧ InS s1 ∧ s1.h.length = s.h.length := by
  obtain ⟨a1, a2, a3⟩ := Oper.apart_spec hap
  obtain ⟨u, hj, e1, rfl⟩ := stp_iff.1 h1
  obtain ⟨v', hi', e2, rfl⟩ := stp_iff.1 h2
  have hb : ∀ h, opOf P A ops oi ⟨s.t, h⟩ = some (v, h) := fun h => by
    have e : (⟨(State.put ⟨s.t, hj⟩ oj.dst u).t, h⟩ : State) = State.put ⟨s.t, h⟩ oj.dst u := by cases oj.dst <;> rfl
    have := hi h
    rw [e, opOf_congr (s' := ⟨s.t, h⟩) (fun t ht => nth_put (s := s) fun hd => a3 t hd ht) (put_h _ _ _)] at this
    exact this
  have e3 := hi hj
  have e4 : (⟨(State.put ⟨s.t, hj⟩ oj.dst u).t, hj⟩ : State) = State.put ⟨s.t, hj⟩ oj.dst u := by cases oj.dst <;> rfl
  rw [e4, e2] at e3
  simp only [Option.some.injEq, Prod.mk.injEq] at e3
  obtain ⟨rfl, rfl⟩ := e3
  refine ⟨State.put s oi.dst v', stp_iff.2 ⟨v', s.h, hb s.h, rfl⟩, stp_iff.2 ⟨u, hi', ?_, ?_⟩, InS.put ins _ hv, by rw [put_h]⟩
  · rw [opOf_congr (s' := s) (fun t ht => nth_put fun hd => a1 t hd ht) (put_h _ _ _)]
    exact e1
  · rw [put_re, put_re]
    exact put_put fun x hx => a2 x hx
theorem rot_sur {n m l : Nat} (hn : n ≤ m) (hl : l ≤ m) : ∃ i, i ≤ m ∧ rot n m i = l := by
  by_cases h1 : l < n
  · exact ⟨l, hl, by unfold rot; rw [if_pos h1]⟩
  · by_cases h2 : l = n
    · exact ⟨m, Nat.le_refl _, by unfold rot; rw [if_neg (by omega), if_neg (by omega), if_pos rfl, h2]⟩
    · exact ⟨l - 1, by omega, by unfold rot; rw [if_neg (by omega), if_pos (by omega)]; omega⟩
theorem rot_lt {n m l : Nat} (hn : n ≤ m) (hl : l < m + 1) : rot n m l < m + 1 := by
  unfold rot; split
  · omega
  · split
    · omega
    · split <;> omega
theorem InS.rot {n m : Nat} {s s2 : State} (hn : n ≤ m) (hl : s.h.length = m + 1) (ins : InS s) (r : RenS (Ab.rot n m) [] s s2) : InS s2 ∧ s2.h.length = m + 1 := by
  have h2 : s2.h.length = m + 1 := by
    have := r.h.new 0
    rw [hl] at this
    unfold Ab.rot at this
    rw [if_neg (by omega), if_neg (by omega), if_neg (by omega)] at this
    omega
  refine ⟨⟨?_, fun l b hb => ?_⟩, h2⟩
  · rw [h2, r.t, ← rens_eq]
    have := ins.t
    rw [hl] at this
    exact rens_inR (fun l h => rot_lt hn h) _ this
  · rw [h2]
    have hlt : l < m + 1 := by rw [← h2]; exact (List.getElem?_eq_some_iff.1 hb).1
    obtain ⟨i, hi, rfl⟩ := rot_sur hn (Nat.le_of_lt_succ hlt)
    have hi2 : i < s.h.length := by omega
    have := r.h.held i _ (List.getElem?_eq_getElem hi2)
    rw [this] at hb
    simp only [Option.some.injEq] at hb; subst hb
    have hin := ins.h i _ (List.getElem?_eq_getElem hi2)
    rw [hl] at hin
    generalize s.h[i].c = c at hin ⊢
    cases c with
    | typ c => rfl
    | cells vs =>
      simp only [BC.ren, BC.inR] at hin ⊢
      exact rens_inR (fun l h => rot_lt hn h) _ hin

theorem AnyA.mono {P : Program} {A : OrcK} {ops : Array Oper} {F F' : State → Prop} (hF : ∀ s, F s → F' s) : ∀ {n : Nat} {listed : Array Bool} {s : State}, AnyA P A ops F n listed s → AnyA P A ops F' n listed s
  | 0, listed, s, h => ⟨h.1, hF s h.2⟩
  | n + 1, listed, s, h => ⟨fun h0 => hF s (h.1 h0), fun i hi => by
      obtain ⟨o, s', ho, h1, h2⟩ := h.2 i hi
      exact ⟨o, s', ho, h1, AnyA.mono hF h2⟩⟩

/-- What may be said of a state may be said of the same state with its new blocks renamed. -/
def Ren0 (h0 : Nat) (F : State → Prop) : Prop := ∀ (f : Nat → Nat) (s s2 : State), RenS f [] s s2 → (∀ l, l < h0 → f l = l) → F s → F s2

/-- All that may be taken before 'j' are makers. -/
theorem AnyA.firstM {P : Program} {A : OrcK} (hA : OrcRen A) {ops : Array Oper} {h0 : Nat} {F : State → Prop} (hF : Ren0 h0 F) {j : Nat} {oj : Oper} {B : Nat → Bool} (hj : ops[j]? = some oj)
    (hB : ∀ k ok, ops[k]? = some ok → B k = true → ∃ e ∈ ok.after, Region.binds .any e = true ∧ (e.on = j ∨ B e.on = true)) :
    ∀ (fuel : Nat) (listed : Array Bool) (s s' : State), (∀ k, B k = true → listed.getD k true = false) →
      (∀ k ok, ops[k]? = some ok → k ≠ j → listed.getD k true = false → B k = false → isMk ok = true ∧ ok.apart ops oj = true) →
      j ∈ Region.ready .any ops listed → InS s → InS s' → h0 ≤ s.h.length → s.h.length ≤ s'.h.length → Stp P A.exts ops oj s s' → AnyA P A.exts ops F fuel (listed.setIfInBounds j true) s' → AnyA P A.exts ops F (fuel + 1) listed s := by
  intro fuel
  induction fuel with
  | zero =>
    intro listed s s' _ _ hr _ _ _ _ hy H
    refine ⟨fun h => (by rw [h] at hr; cases hr), fun k hk => ?_⟩
    by_cases hkj : k = j
    · subst hkj; exact ⟨oj, s', hj, hy, H⟩
    · have := ready_mono hk hkj
      rw [H.1] at this
      cases this
  | succ fuel ih =>
    intro listed s s' hbun hfree hr ins ins' hh0 hle hy H
    refine ⟨fun h => (by rw [h] at hr; cases hr), fun k hk => ?_⟩
    by_cases hkj : k = j
    · subst hkj; exact ⟨oj, s', hj, hy, H⟩
    · obtain ⟨ok, s'', hok', h1, h3⟩ := H.2 k (ready_mono hk hkj)
      obtain ⟨hkun, ok', hok, hall⟩ := mem_ready.1 hk
      rw [hok] at hok'
      simp only [Option.some.injEq] at hok'; subst hok'
      have listedOn : ∀ {x : Nat}, (listed.getD x false = true) → listed.getD x true = false → False := fun {x} h1 h0 => by
        rcases Nat.lt_or_ge x listed.size with h' | h'
        · simp [h'] at h0 h1; rw [h0] at h1; cases h1
        · simp [Array.getElem?_eq_none h'] at h1
      have hBk : B k = false := by
        cases hb : B k with
        | false => rfl
        | true =>
          obtain ⟨e, he, hbind, hon⟩ := hB k ok' hok hb
          have h1 := hall e he hbind
          rcases hon with heq | hBe
          · rw [heq] at h1
            exact (listedOn h1 (mem_ready.1 hr).1).elim
          · exact (listedOn h1 (hbun _ hBe)).elim
      obtain ⟨hmk, hap⟩ := hfree k ok' hok hkj hkun hBk
      obtain ⟨v0, H', e, _⟩ := stp_iff.1 h1
      have hbun' : ∀ x, B x = true → (listed.setIfInBounds k true).getD x true = false := fun x hx => by
        have hkx : k ≠ x := fun e => by subst e; rw [hBk] at hx; cases hx
        rw [getD_set_ne true hkx]; exact hbun x hx
      have hfree' : ∀ x ox, ops[x]? = some ox → x ≠ j → (listed.setIfInBounds k true).getD x true = false → B x = false →
          isMk ox = true ∧ ox.apart ops oj = true := fun x ox hx hxj hun hno => by
        refine hfree x ox hx hxj ?_ hno
        by_cases hkx : k = x
        · subst hkx; exact hkun
        · rw [getD_set_ne true hkx] at hun; exact hun
      rcases mk_ok (N := s.h.length) hmk (fun x hx => by
        obtain ⟨_, _, a1⟩ := Oper.apart_spec hap
        obtain ⟨u, H1, e1, hst⟩ := stp_iff.1 hy
        have : s'.ev x = s.ev x := ev_congr fun t ht => by
          subst ht
          rw [hst]
          exact nth_put fun hd => a1 t hd (by
            simp only [Oper.looksAt, List.mem_append, List.mem_filterMap]
            exact .inl ⟨.tmp t, by simpa using hx, rfl⟩)
        rw [this]; exact ins.ev x) e with ⟨v, blk, m⟩ | ⟨v, hv, hgo⟩
      · have hrm : Ab.rot s.h.length s'.h.length s'.h.length = s.h.length := by
          unfold Ab.rot; rw [if_neg (by omega), if_neg (by omega), if_pos rfl]
        obtain ⟨s1, s2, c1, c2, r, es1⟩ := stp_swap hA hap ins ins' hle hy h1 m.go (m.hv _ _ _ hrm) (m.hb _ fun l hl => by unfold Ab.rot; rw [if_pos hl])
        obtain ⟨i1, l1⟩ : InS s1 ∧ s1.h.length = s.h.length + 1 := by
          rw [es1]
          refine ⟨InS.put (ins.snoc (m.ib _ (Nat.le_succ _))) _ ?_, by rw [put_h]; simp [snoc_eq]⟩
          have hl : (Ab.snoc s.h blk).length = s.h.length + 1 := by simp [snoc_eq]
          show (v s.h.length).inR (Ab.snoc s.h blk).length = true
          rw [hl]; exact m.iv _
        obtain ⟨i3, l3⟩ : InS s'' ∧ s''.h.length = s'.h.length + 1 := by
          refine InS.made (v := v) (blk := blk) ⟨m.go, m.hv, fun f hf => ?_, m.iv, fun n hn => m.ib n (by omega)⟩ ins' h1
          exact m.hb f fun l hl => hf l (by omega)
        obtain ⟨i2, l2⟩ := InS.rot hle l3 i3 r
        refine ⟨ok', s1, hok, c1, ih _ s1 s2 hbun' hfree' (ready_mono hr (Ne.symm hkj)) i1 i2 (by omega) (by omega) c2 ?_⟩
        rw [Array.setIfInBounds_comm _ _ hkj]
        refine AnyA.mono (fun x hx => ?_) (AnyA.ren hA h3 r)
        obtain ⟨y, hy1, hy2⟩ := hx
        exact hF _ y x hy2 (fun l hl => by unfold Ab.rot; rw [if_pos (by omega)]) hy1
      · obtain ⟨s1, c1, c2, i1, l1⟩ := stp_still hap ins hv hy h1 hgo
        have i2 : InS s'' := by
          obtain ⟨v2, H2, e2, rfl⟩ := stp_iff.1 h1
          have := hgo s'.h
          rw [show (⟨s'.t, s'.h⟩ : State) = s' from rfl, e2] at this
          simp only [Option.some.injEq, Prod.mk.injEq] at this
          obtain ⟨rfl, rfl⟩ := this
          exact InS.put ins' _ (inR_mono hle _ hv)
        have l2 : s''.h.length = s'.h.length := by
          obtain ⟨v2, H2, e2, rfl⟩ := stp_iff.1 h1
          have := hgo s'.h
          rw [show (⟨s'.t, s'.h⟩ : State) = s' from rfl, e2] at this
          simp only [Option.some.injEq, Prod.mk.injEq] at this
          obtain ⟨rfl, rfl⟩ := this
          rw [put_h]
        refine ⟨ok', s1, hok, c1, ih _ s1 s'' hbun' hfree' (ready_mono hr (Ne.symm hkj)) i1 i2 (by omega) (by omega) c2 ?_⟩
        rw [Array.setIfInBounds_comm _ _ hkj]
        exact h3

/-! ### What does not look at the heap -/

theorem stp_commH {P : Program} {A : OrcK} {ops : Array Oper} {oi oj : Oper} {s s' s'' : State} {v : AVal} (hap : oi.apart ops oj = true) (hi : ∀ h, opOf P A ops oi ⟨s.t, h⟩ = some (v, h))
    (h1 : Stp P A ops oi s s') (h2 : Stp P A ops oj s' s'') : ∃ s1, Stp P A ops oj s s1 ∧ Stp P A ops oi s1 s'' ∧ ∀ h, opOf P A ops oi ⟨s1.t, h⟩ = some (v, h) := by
  obtain ⟨a1, a2, a3⟩ := Oper.apart_spec hap
  obtain ⟨v', hi', e1, rfl⟩ := stp_iff.1 h1
  obtain ⟨u, hj, e2, rfl⟩ := stp_iff.1 h2
  have e0 := hi s.h
  rw [show (⟨s.t, s.h⟩ : State) = s from rfl, e1] at e0
  simp only [Option.some.injEq, Prod.mk.injEq] at e0
  obtain ⟨rfl, rfl⟩ := e0
  rw [opOf_congr (s' := s) (fun t ht => nth_put fun hd => a1 t hd ht) (put_h _ _ _)] at e2
  have key : ∀ h, opOf P A ops oi ⟨(State.put ⟨s.t, hj⟩ oj.dst u).t, h⟩ = some (v', h) := fun h => by
    have e : (⟨(State.put ⟨s.t, hj⟩ oj.dst u).t, h⟩ : State) = State.put ⟨s.t, h⟩ oj.dst u := by cases oj.dst <;> rfl
    rw [e, opOf_congr (s' := ⟨s.t, h⟩) (fun t ht => nth_put (s := s) fun hd => a3 t hd ht) (put_h _ _ _)]
    exact hi h
  refine ⟨State.put ⟨s.t, hj⟩ oj.dst u, stp_iff.2 ⟨u, hj, e2, rfl⟩, stp_iff.2 ⟨v', hj, ?_, ?_⟩, key⟩
  · have := key hj
    have e : (⟨(State.put ⟨s.t, hj⟩ oj.dst u).t, hj⟩ : State) = State.put ⟨s.t, hj⟩ oj.dst u := by cases oj.dst <;> rfl
    rwa [e] at this
  · rw [put_re, put_re]
    exact (put_put fun x hx => a2 x hx).symm

theorem AnyA.firstH {P : Program} {A : OrcK} {ops : Array Oper} {F : State → Prop} {i : Nat} {oi : Oper} {B : Nat → Bool} {v : AVal} (hi : ops[i]? = some oi)
    (hB : ∀ j oj, ops[j]? = some oj → B j = true → ∃ e ∈ oj.after, Region.binds .any e = true ∧ (e.on = i ∨ B e.on = true)) :
    ∀ (fuel : Nat) (listed : Array Bool) (s s' : State), (∀ j, B j = true → listed.getD j true = false) →
      (∀ j oj, ops[j]? = some oj → j ≠ i → listed.getD j true = false → B j = false → oi.apart ops oj = true) →
      i ∈ Region.ready .any ops listed → (∀ h, opOf P A ops oi ⟨s.t, h⟩ = some (v, h)) → Stp P A ops oi s s' → AnyA P A ops F fuel (listed.setIfInBounds i true) s' → AnyA P A ops F (fuel + 1) listed s := by
  intro fuel
  induction fuel with
  | zero =>
    intro listed s s' _ _ hr _ hy H
    refine ⟨fun h => (by rw [h] at hr; cases hr), fun j hj => ?_⟩
    by_cases hji : j = i
    · subst hji; exact ⟨oi, s', hi, hy, H⟩
    · have := ready_mono hj hji
      rw [H.1] at this
      cases this
  | succ fuel ih =>
    intro listed s s' hbun hfree hr hh hy H
    refine ⟨fun h => (by rw [h] at hr; cases hr), fun j hj => ?_⟩
    by_cases hji : j = i
    · subst hji; exact ⟨oi, s', hi, hy, H⟩
    · obtain ⟨oj, s'', hoj', h1, h3⟩ := H.2 j (ready_mono hj hji)
      obtain ⟨hjun, oj', hoj, hall⟩ := mem_ready.1 hj
      rw [hoj] at hoj'
      simp only [Option.some.injEq] at hoj'; subst hoj'
      have listedOn : ∀ {x : Nat}, (listed.getD x false = true) → listed.getD x true = false → False := fun {x} h1 h0 => by
        rcases Nat.lt_or_ge x listed.size with h' | h'
        · simp [h'] at h0 h1; rw [h0] at h1; cases h1
        · simp [Array.getElem?_eq_none h'] at h1
      have hBj : B j = false := by
        cases hb : B j with
        | false => rfl
        | true =>
          obtain ⟨e, he, hbind, hon⟩ := hB j oj' hoj hb
          have h1 := hall e he hbind
          rcases hon with heq | hBe
          · rw [heq] at h1
            exact (listedOn h1 (mem_ready.1 hr).1).elim
          · exact (listedOn h1 (hbun _ hBe)).elim
      have hap := hfree j oj' hoj hji hjun hBj
      obtain ⟨s1, c1, c2, c3⟩ := stp_commH hap hh hy h1
      have hbun' : ∀ k, B k = true → (listed.setIfInBounds j true).getD k true = false := fun k hk => by
        have hjk : j ≠ k := fun e => by subst e; rw [hBj] at hk; cases hk
        rw [getD_set_ne true hjk]; exact hbun k hk
      have hfree' : ∀ k ok, ops[k]? = some ok → k ≠ i → (listed.setIfInBounds j true).getD k true = false → B k = false →
          oi.apart ops ok = true := fun k ok hk hki hun hno => by
        refine hfree k ok hk hki ?_ hno
        by_cases hjk : j = k
        · subst hjk; exact hjun
        · rw [getD_set_ne true hjk] at hun; exact hun
      refine ⟨oj', s1, hoj, c1, ih _ s1 s'' hbun' hfree' (ready_mono hr (Ne.symm hji)) c3 c2 ?_⟩
      rw [Array.setIfInBounds_comm _ _ hji]
      exact h3

/-- A load of what is only read. -/
def loadH (s : State) (o : Oper) : Bool := match o.op with
  | .load _ x => match s.ev x with
    | .rop _ _ => true
    | .rom _ _ => true
    | _ => false
  | _ => false
theorem acellK_H {x : AVal} (hx : (match x with | .rop _ _ => true | .rom _ _ => true | _ => false) = true) (H H' : Heap) (i : Nat) : acellK H x i = acellK H' x i := by
  cases x <;> first | rfl | cases hx
theorem acellsK_H {x : AVal} (hx : (match x with | .rop _ _ => true | .rom _ _ => true | _ => false) = true) (H H' : Heap) : ∀ n i, acellsK H x i n = acellsK H' x i n
  | 0, i => rfl
  | n + 1, i => by simp only [acellsK, acellK_H hx H H' i, acellsK_H hx H H' n (i + 1)]
theorem aloadK_H {P : Program} {t : TypeId} {x : AVal} (hx : (match x with | .rop _ _ => true | .rom _ _ => true | _ => false) = true) (H H' : Heap) : aloadK P H t x = aloadK P H' t x := by
  unfold aloadK
  simp only [acellK_H hx H H', acellsK_H hx H H']
theorem loadH_op {P : Program} {A : OrcK} {ops : Array Oper} {o : Oper} {s s' : State} (hl : loadH s o = true) (h : Stp P A ops o s s') : ∃ v, ∀ h, opOf P A ops o ⟨s.t, h⟩ = some (v, h) := by
  obtain ⟨v, H', e, _⟩ := stp_iff.1 h
  have hy : ∀ {v H'}, opY P A o.op s = some (v, H') → ∀ h, opY P A o.op ⟨s.t, h⟩ = some (v, h) := by
    intro v H' hh h
    unfold loadH at hl
    split at hl
    · rename_i t x ho
      have ev : State.ev ⟨s.t, h⟩ x = s.ev x := by cases x <;> rfl
      have hx : (match s.ev x with | .rop _ _ => true | .rom _ _ => true | _ => false) = true := by
        split at hl <;> first | rfl | cases hl
      rw [ho] at hh ⊢
      unfold opY at hh ⊢
      simp only [astepK, apureK, apure, amemK] at hh ⊢
      rw [ev, aloadK_H hx h s.h]
      cases hq : aloadK P s.h t (s.ev x) with
      | none => rw [hq] at hh; simp [acallK, thenK] at hh
      | some q =>
        obtain ⟨b, u⟩ := q
        rw [hq] at hh
        simp only [thenK] at hh ⊢
        cases b
        · cases hh
        · simp only [cond_true, Option.some.injEq, Prod.mk.injEq] at hh ⊢
          exact ⟨hh.1, trivial⟩
    · cases hl
  have no : ∀ {v H'}, some (AVal.undef, s.h) = some (v, H') → ∀ h : Heap, some (AVal.undef, h) = some (v, h) := by
    intro v H' hh h
    simp only [Option.some.injEq, Prod.mk.injEq] at hh ⊢
    exact ⟨hh.1, trivial⟩
  refine ⟨v, fun h => ?_⟩
  unfold opOf guardY at e ⊢
  generalize o.guard = g at e ⊢
  cases g with
  | none => exact hy e h
  | some jw =>
    obtain ⟨j, want⟩ := jw
    simp only [] at e ⊢
    split at e
    · split at e
      · rename_i b _
        cases b <;> cases want <;> simp only [cond_true, cond_false] at e ⊢ <;> first | exact hy e h | exact no e h
      · exact no e h
      · cases e
    · cases e
theorem zero_op {P : Program} {A : OrcK} {ops : Array Oper} {o : Oper} {s s' : State} (h0 : cls o.op = 0) (h : Stp P A ops o s s') : ∃ v, ∀ h, opOf P A ops o ⟨s.t, h⟩ = some (v, h) := by
  obtain ⟨v, H', e, _⟩ := stp_iff.1 h
  exact ⟨v, (opOf_zero h0 e).2⟩

/-! ### The check, and the run -/

/-- 'inR', as a tree of branches. -/
def AVal.low (n : Nat) : AVal → Bool
  | .own l _ _ _ _ => ltN l n
  | .ptr l _ _ => ltN l n
  | .rom vs _ => lows n vs
  | .ros vs _ _ => lows n vs
  | .agg vs => lows n vs
  | .tup vs => lows n vs
  | .fn _ vs => lows n vs
  | _ => true
  where lows (n : Nat) : List AVal → Bool
  | [] => true
  | v :: vs => bif v.low n then lows n vs else false
mutual
theorem low_inR {n : Nat} : ∀ v : AVal, v.low n = true → v.inR n = true
  | .own l off len ver z, h => by simp only [AVal.low, ltN_eq] at h; simp only [AVal.inR, h]
  | .ptr l off ver, h => by simp only [AVal.low, ltN_eq] at h; simp only [AVal.inR, h]
  | .rom vs off, h => by simp only [AVal.low] at h; simp only [AVal.inR]; exact lows_inRs vs h
  | .ros vs len z, h => by simp only [AVal.low] at h; simp only [AVal.inR]; exact lows_inRs vs h
  | .agg vs, h => by simp only [AVal.low] at h; simp only [AVal.inR]; exact lows_inRs vs h
  | .tup vs, h => by simp only [AVal.low] at h; simp only [AVal.inR]; exact lows_inRs vs h
  | .fn g vs, h => by simp only [AVal.low] at h; simp only [AVal.inR]; exact lows_inRs vs h
  | .top, _ => rfl
  | .undef, _ => rfl
  | .bool _, _ => rfl
  | .int _ _, _ => rfl
  | .flt _ _, _ => rfl
  | .cpx _ _ _, _ => rfl
  | .str _, _ => rfl
  | .nils, _ => rfl
  | .emp, _ => rfl
  | .ro _ _ _, _ => rfl
  | .rop _ _, _ => rfl
  | .nilf, _ => rfl
  | .nili, _ => rfl
  | .fex .., _ => rfl
  | .bun _ _ _, _ => rfl
theorem lows_inRs {n : Nat} : ∀ vs : List AVal, AVal.low.lows n vs = true → AVal.inR.inRs n vs = true
  | [], _ => rfl
  | v :: vs, h => by
    simp only [AVal.low.lows, Bool.cond_eq_ite] at h
    split at h
    · rename_i hv
      simp only [AVal.inR.inRs, low_inR v hv, lows_inRs vs h, Bool.and_self]
    · cases h
end
def blkLow (n : Nat) : Heap → Bool
  | [] => true
  | ⟨.typ _, _⟩ :: r => blkLow n r
  | ⟨.cells vs, _⟩ :: r => bif AVal.low.lows n vs then blkLow n r else false
theorem blkLow_get {n : Nat} : ∀ {H : Heap}, blkLow n H = true → ∀ (l : Nat) (b : Blk), H[l]? = some b → b.c.inR n = true
  | [], _, l, b, h => by simp at h
  | ⟨.typ c, ver⟩ :: r, ha, l, b, h => by
    simp only [blkLow] at ha
    cases l with
    | zero => simp at h; subst h; rfl
    | succ l => exact blkLow_get ha l b (by simpa using h)
  | ⟨.cells vs, ver⟩ :: r, ha, l, b, h => by
    simp only [blkLow, Bool.cond_eq_ite] at ha
    split at ha
    · rename_i hv
      cases l with
      | zero => simp at h; subst h; exact lows_inRs vs hv
      | succ l => exact blkLow_get ha l b (by simpa using h)
    · cases ha
/-- All leads into the heap, which is no smaller than at the call's beginning. -/
def inSB (h0 : Nat) (s : State) : Bool := bif ltN (hlen s.h) h0 then false else bif AVal.low.lows (hlen s.h) s.t then blkLow (hlen s.h) s.h else false
theorem inSB_spec {h0 : Nat} {s : State} (h : inSB h0 s = true) : InS s ∧ h0 ≤ s.h.length := by
  simp only [inSB, ltN_eq, hlen_eq, Bool.cond_eq_ite, decide_eq_true_eq] at h
  split at h
  · cases h
  · split at h
    · rename_i h1 h2
      exact ⟨⟨lows_inRs _ h2, fun l b hb => blkLow_get h l b hb⟩, by omega⟩
    · cases h
/-- 'st': all loads are of what is only read. -/
def stB (st : Bool) (s : State) (o : Oper) : Bool := bif st then (match o.op with | .load _ _ => loadH s o | _ => true) else true
def runOpsI {γ : Type} (P : Program) (A : OrcK) (ops : Array Oper) (st : Bool) (h0 : Nat) (k : State → Option γ) : List Oper → State → Option γ
  | [], s => bif inSB h0 s then k s else none
  | o :: r, s => bif inSB h0 s then bif stB st s o then guardK ops o.guard s (fun s => opK P A o.op o.dst s (runOpsI P A ops st h0 k r)) (fun s => runOpsI P A ops st h0 k r (s.put o.dst .undef)) else none else none
theorem runOpsI_in {γ : Type} {P : Program} {A : OrcK} {ops : Array Oper} {st : Bool} {h0 : Nat} {k : State → Option γ} {l : List Oper} {s : State} {r : γ} (h : runOpsI P A ops st h0 k l s = some r) : inSB h0 s = true := by
  cases l <;> simp only [runOpsI] at h <;> cases hb : inSB h0 s <;> first | rfl | (rw [hb] at h; cases h)
theorem runOpsI_st {γ : Type} {P : Program} {A : OrcK} {ops : Array Oper} {st : Bool} {h0 : Nat} {k : State → Option γ} {o : Oper} {l : List Oper} {s : State} {r : γ} (h : runOpsI P A ops st h0 k (o :: l) s = some r) : stB st s o = true := by
  have hin := runOpsI_in h
  simp only [runOpsI, hin, cond_true] at h
  cases hb : stB st s o
  · rw [hb] at h; cases h
  · rfl
theorem runOpsI_cons {γ : Type} {P : Program} {A : OrcK} {ops : Array Oper} {st : Bool} {h0 : Nat} {k : State → Option γ} {o : Oper} {l : List Oper} {s : State} {r : γ} (h : runOpsI P A ops st h0 k (o :: l) s = some r) :
    ∃ s', Stp P A ops o s s' ∧ runOpsI P A ops st h0 k l s' = some r := by
  have hin := runOpsI_in h
  have hst := runOpsI_st h
  simp only [runOpsI, hin, hst, cond_true] at h
  unfold Stp
  unfold guardK at h ⊢
  generalize o.guard = g at h ⊢
  cases g with
  | none => obtain ⟨s', h1, h2⟩ := opK_some h; exact ⟨s', h1, h2⟩
  | some jw =>
    obtain ⟨j, want⟩ := jw
    simp only [] at h ⊢
    split at h
    · split at h
      · rename_i b _
        cases b <;> cases want <;> simp only [cond_true, cond_false] at h ⊢
        · obtain ⟨s', h1, h2⟩ := opK_some h; exact ⟨s', h1, h2⟩
        · exact ⟨_, rfl, h⟩
        · exact ⟨_, rfl, h⟩
        · obtain ⟨s', h1, h2⟩ := opK_some h; exact ⟨s', h1, h2⟩
      · exact ⟨_, rfl, h⟩
      · cases h
    · cases h

/-- May this one, which does not look at the heap, be taken now? -/
def isLoad (o : Op) : Bool := match o with
  | .load _ _ => true
  | _ => false
def freeHIn (ops : Array Oper) (listed : Array Bool) (i : Nat) (oi : Oper) (L : List Nat) : Bool :=
  (Nat.beq (cls oi.op) 0 || isLoad oi.op) && ((List.range ops.size).all fun j => j == i || listed.getD j true || match ops[j]? with
    | some oj => L.contains j || oi.apart ops oj
    | none => true) && L.all fun j => !(listed.getD j true) && match ops[j]? with
    | some oj => oj.after.any fun e => Region.binds .any e && (e.on == i || L.contains e.on)
    | none => true
def freeH (ops : Array Oper) (listed : Array Bool) (i : Nat) (oi : Oper) : Bool := freeHIn ops listed i oi (behind ops listed i)
theorem freeH_spec {ops : Array Oper} {listed : Array Bool} {i : Nat} {oi : Oper} (h : freeH ops listed i oi = true) : ∃ B : Nat → Bool, (cls oi.op = 0 ∨ isLoad oi.op = true) ∧
    (∀ j oj, ops[j]? = some oj → B j = true → ∃ e ∈ oj.after, Region.binds .any e = true ∧ (e.on = i ∨ B e.on = true)) ∧ (∀ j, B j = true → listed.getD j true = false) ∧
    ∀ j oj, ops[j]? = some oj → j ≠ i → listed.getD j true = false → B j = false → oi.apart ops oj = true := by
  unfold freeH at h
  generalize behind ops listed i = L at h
  simp only [freeHIn, Bool.and_eq_true, Bool.or_eq_true, Nat.beq_eq, List.all_eq_true, List.mem_range] at h
  obtain ⟨⟨h1, h2⟩, h3⟩ := h
  refine ⟨L.contains, h1, fun j oj hj hb => ?_, fun j hb => ?_, fun j oj hj hne hun hno => ?_⟩
  · have := (h3 j (by simpa using hb)).2
    simp only [hj] at this
    obtain ⟨e, he, hx⟩ := Array.any_eq_true'.1 this
    simp only [Bool.and_eq_true, Bool.or_eq_true, beq_iff_eq] at hx
    exact ⟨e, he, hx.1, hx.2⟩
  · have := (h3 j (by simpa using hb)).1
    simpa using this
  · have := h2 j (Array.getElem?_eq_some_iff.1 hj).1
    simp only [hj, Bool.or_eq_true, beq_iff_eq, hne, false_or, hun, hno, Bool.false_eq_true] at this
    exact this
/-- May this one be taken now, when only makers could come before it? -/
def freeMIn (ops : Array Oper) (listed : Array Bool) (i : Nat) (oi : Oper) (L : List Nat) : Bool :=
  ((List.range ops.size).all fun j => j == i || listed.getD j true || match ops[j]? with
    | some oj => L.contains j || (isMk oj && oj.apart ops oi)
    | none => true) && L.all fun j => !(listed.getD j true) && match ops[j]? with
    | some oj => oj.after.any fun e => Region.binds .any e && (e.on == i || L.contains e.on)
    | none => true
def freeM (ops : Array Oper) (listed : Array Bool) (i : Nat) (oi : Oper) : Bool := freeMIn ops listed i oi (behind ops listed i)
theorem freeM_spec {ops : Array Oper} {listed : Array Bool} {i : Nat} {oi : Oper} (h : freeM ops listed i oi = true) : ∃ B : Nat → Bool,
    (∀ j oj, ops[j]? = some oj → B j = true → ∃ e ∈ oj.after, Region.binds .any e = true ∧ (e.on = i ∨ B e.on = true)) ∧ (∀ j, B j = true → listed.getD j true = false) ∧
    ∀ j oj, ops[j]? = some oj → j ≠ i → listed.getD j true = false → B j = false → isMk oj = true ∧ oj.apart ops oi = true := by
  unfold freeM at h
  generalize behind ops listed i = L at h
  simp only [freeMIn, Bool.and_eq_true, List.all_eq_true, List.mem_range] at h
  obtain ⟨h2, h3⟩ := h
  refine ⟨L.contains, fun j oj hj hb => ?_, fun j hb => ?_, fun j oj hj hne hun hno => ?_⟩
  · have := (h3 j (by simpa using hb)).2
    simp only [hj] at this
    obtain ⟨e, he, hx⟩ := Array.any_eq_true'.1 this
    simp only [Bool.and_eq_true, Bool.or_eq_true, beq_iff_eq] at hx
    exact ⟨e, he, hx.1, hx.2⟩
  · have := (h3 j (by simpa using hb)).1
    simpa using this
  · have := h2 j (Array.getElem?_eq_some_iff.1 hj).1
    simp only [hj, Bool.or_eq_true, beq_iff_eq, hne, false_or, hun, hno, Bool.false_eq_true] at this
    simpa only [Bool.and_eq_true] using this
def chkGoI (st : Bool) (ops : Array Oper) : List Nat → Array Bool → Bool
  | [], listed => (Region.ready .any ops listed).isEmpty
  | i :: r, listed => match ops[i]? with
    | none => false
    | some o => ((Region.ready .any ops listed == [i]) || ((Region.ready .any ops listed).contains i && (freeOf false ops listed i o || (freeM ops listed i o || (st && freeH ops listed i o))))) && chkGoI st ops r (listed.setIfInBounds i true)
def chkI (st : Bool) (ops : Array Oper) (l : List Nat) : Bool := l.length == ops.size && chkGoI st ops l (Array.replicate ops.size false)

theorem amemK_len {P : Program} {s : State} {o : Op} {b : Bool} {v : AVal} {H' : Heap} (h : amemK P s o = some (b, v, H')) : s.h.length ≤ H'.length := by
  have sn : ∀ blk : Blk, s.h.length ≤ (Ab.snoc s.h blk).length := fun blk => by simp [snoc_eq]
  have up : ∀ (l : Nat) (blk : Blk), s.h.length ≤ (upd s.h l blk).length := fun l blk => by simp [upd_eq]
  unfold amemK at h
  split at h
  · split at h
    · simp only [Option.some.injEq, Prod.mk.injEq] at h; obtain ⟨_, _, rfl⟩ := h; exact Nat.le_refl _
    · cases h
  · split at h
    · rename_i b1 h1 hs
      simp only [Option.some.injEq, Prod.mk.injEq] at h; obtain ⟨_, _, rfl⟩ := h
      unfold astoreK at hs
      repeat' split at hs
      all_goals first | (cases hs; done) | (simp only [Option.some.injEq, Prod.mk.injEq] at hs; obtain ⟨_, rfl⟩ := hs; exact up _ _)
    · cases h
  · split at h
    · rename_i r hr
      simp only [Option.some.injEq, Prod.mk.injEq] at h; obtain ⟨_, rfl⟩ := h
      unfold aalloc at hr
      repeat' split at hr
      all_goals first | (cases hr; done) | (simp only [Option.some.injEq, Prod.mk.injEq] at hr; obtain ⟨_, rfl⟩ := hr; exact sn _)
    · cases h
  · split at h
    · rename_i r hr
      simp only [Option.some.injEq, Prod.mk.injEq] at h; obtain ⟨_, rfl⟩ := h
      unfold abox at hr
      repeat' split at hr
      all_goals first | (cases hr; done) | (simp only [Option.some.injEq, Prod.mk.injEq] at hr; obtain ⟨_, rfl⟩ := hr; exact sn _)
    · cases h
  · unfold amakeK at h
    repeat' split at h
    all_goals first | (cases h; done) | (simp only [Option.some.injEq, Prod.mk.injEq] at h; obtain ⟨_, _, rfl⟩ := h; exact sn _)
  · split at h
    · simp only [Option.some.injEq, Prod.mk.injEq] at h; obtain ⟨_, _, rfl⟩ := h; exact Nat.le_refl _
    · cases h
  · split at h
    · simp only [Option.some.injEq, Prod.mk.injEq] at h; obtain ⟨_, _, rfl⟩ := h; exact Nat.le_refl _
    · cases h
  · split at h
    · rename_i r hr
      simp only [Option.some.injEq, Prod.mk.injEq] at h; obtain ⟨_, rfl⟩ := h
      rcases abuildA_tip hr with e | ⟨b, e⟩ <;> rw [e]
      · exact Nat.le_refl _
      · exact sn _
    · cases h
  · split at h
    · simp only [Bool.cond_eq_ite] at h
      split at h
      · unfold aappendK at h
        repeat' split at h
        all_goals first | (cases h; done) | (simp only [Option.some.injEq, Prod.mk.injEq] at h; obtain ⟨_, _, rfl⟩ := h; first | exact up _ _ | exact sn _ | exact Nat.le_refl _)
      · cases h
    · cases h
  · split at h
    · split at h
      · rename_i b1 h1 hs
        simp only [Option.some.injEq, Prod.mk.injEq] at h; obtain ⟨_, _, rfl⟩ := h
        unfold aclearK at hs
        repeat' split at hs
        all_goals first | (cases hs; done) | (simp only [Option.some.injEq, Prod.mk.injEq] at hs; obtain ⟨_, rfl⟩ := hs; exact up _ _)
      · cases h
    · cases h
  · split at h
    · unfold acopyK at h
      repeat' split at h
      all_goals first | (cases h; done) | (simp only [Option.some.injEq, Prod.mk.injEq] at h; obtain ⟨_, _, rfl⟩ := h; exact up _ _)
    · cases h
  · cases h
theorem astepK_len {P : Program} {A : OrcK} {s : State} {o : Op} {b : Bool} {v : AVal} {H' : Heap} (h : astepK P A.exts s o = some (b, v, H')) : s.h.length ≤ H'.length := by
  unfold astepK at h
  split at h
  · simp only [Option.some.injEq, Prod.mk.injEq] at h; obtain ⟨_, _, rfl⟩ := h; exact Nat.le_refl _
  · split at h
    · rename_i q hq
      simp only [Option.some.injEq] at h; subst h
      exact amemK_len hq
    · unfold acallK at h
      split at h
      · split at h
        · split at h
          · rename_i b1 v1 e he
            obtain ⟨n, rfl⟩ := exts_ext he
            simp only [Option.some.injEq, Prod.mk.injEq] at h
            obtain ⟨_, _, rfl⟩ := h
            cases n with
            | nil => exact Nat.le_refl _
            | cons x r => simp [Eff.heap, app_eq]
          · cases h
        · cases h
      · cases h
theorem stp_len {P : Program} {A : OrcK} {ops : Array Oper} {o : Oper} {s s' : State} (h : Stp P A.exts ops o s s') : s.h.length ≤ s'.h.length := by
  obtain ⟨v, H', e, rfl⟩ := stp_iff.1 h
  rw [put_h]
  have hy : ∀ {v H'}, opY P A.exts o.op s = some (v, H') → s.h.length ≤ H'.length := by
    intro v H' hh
    unfold opY at hh
    split at hh
    · split at hh
      · simp only [Option.some.injEq, Prod.mk.injEq] at hh; obtain ⟨_, rfl⟩ := hh; exact Nat.le_refl _
      · cases hh
    · obtain ⟨u, h1, hs, hh⟩ := thenK_some hh
      simp only [Option.some.injEq, Prod.mk.injEq] at hh
      obtain ⟨rfl, rfl⟩ := hh
      exact astepK_len hs
  have no : ∀ {v H'}, some (AVal.undef, s.h) = some (v, H') → s.h.length ≤ H'.length := by
    intro v H' hh
    simp only [Option.some.injEq, Prod.mk.injEq] at hh
    obtain ⟨_, rfl⟩ := hh; exact Nat.le_refl _
  unfold opOf guardY at e
  generalize o.guard = g at e
  cases g with
  | none => exact hy e
  | some jw =>
    obtain ⟨j, want⟩ := jw
    simp only [] at e
    split at e
    · split at e
      · rename_i b _
        cases b <;> cases want <;> simp only [cond_true, cond_false] at e <;> first | exact hy e | exact no e
      · exact no e
      · cases e
    · cases e

theorem anyA_goI {γ : Type} {P : Program} {A : OrcK} (hA : OrcRen A) {ops : Array Oper} {st : Bool} {h0 : Nat} {k : State → Option γ} {r : γ} {F : State → Prop} (hF : Ren0 h0 F) (hk : ∀ s, k s = some r → F s) :
    ∀ (l : List Nat) (listed : Array Bool) (s : State), chkGoI st ops l listed = true → runOpsI P A.exts ops st h0 k (pickOps ops.toList l) s = some r → AnyA P A.exts ops F l.length listed s
  | [], listed, s, hc, h => by
    refine ⟨by simpa [chkGoI] using hc, hk s ?_⟩
    have hin := runOpsI_in h
    simpa only [pickOps, runOpsI, hin, cond_true] using h
  | i :: l, listed, s, hc, h => by
    simp only [chkGoI] at hc
    split at hc
    · cases hc
    · rename_i o ho
      simp only [Bool.and_eq_true, Bool.or_eq_true, beq_iff_eq] at hc
      have : pickOps ops.toList (i :: l) = o :: pickOps ops.toList l := by
        simp only [pickOps, nth_eq, Array.getElem?_toList, ho]
      rw [this] at h
      obtain ⟨s1, h1, h2⟩ := runOpsI_cons h
      have hrec := anyA_goI hA hF hk l (listed.setIfInBounds i true) s1 hc.2 h2
      rcases hc.1 with he | ⟨hr, hf⟩
      · refine ⟨fun h0 => (by rw [he] at h0; cases h0), fun j hj => ?_⟩
        rw [he] at hj
        simp only [List.mem_singleton] at hj; subst hj
        exact ⟨o, s1, ho, h1, hrec⟩
      · rcases hf with hf | hf | hf
        · obtain ⟨B, f1, f2, f3, f4⟩ := freeOf_spec hf
          exact AnyA.first (full := false) (A := A) ho f1 f2 l.length listed s s1 f3 f4 (by simpa using hr) h1 hrec
        · obtain ⟨B, f2, f3, f4⟩ := freeM_spec hf
          obtain ⟨i1, l1⟩ := inSB_spec (runOpsI_in h)
          obtain ⟨i2, l2⟩ := inSB_spec (runOpsI_in h2)
          exact AnyA.firstM hA hF ho f2 l.length listed s s1 f3 f4 (by simpa using hr) i1 i2 l1 (stp_len h1) h1 hrec
        · obtain ⟨B, f1, f2, f3, f4⟩ := freeH_spec hf.2
          have hst := runOpsI_st h
          obtain ⟨v, hv⟩ : ∃ v, ∀ h, opOf P A.exts ops o ⟨s.t, h⟩ = some (v, h) := by
            rcases f1 with f1 | f1
            · exact zero_op f1 h1
            · refine loadH_op ?_ h1
              simp only [stB, hf.1, cond_true] at hst
              unfold isLoad at f1
              split at f1
              · rename_i e; simpa only [e] using hst
              · cases f1
          exact AnyA.firstH ho f2 l.length listed s s1 f3 f4 (by simpa using hr) hv h1 hrec

/-! ### A state and the same state renamed stand for the same -/

theorem range_pos {f : Nat → Nat} (hinj : ∀ a b, f a = f b → a = b) {n l : Nat} (hl : l < n) : pos ((List.range n).map f) (f l) 0 = some l := by
  have hnd : ((List.range n).map f).Nodup := by
    refine List.pairwise_iff_getElem.2 fun i j hi hj hij heq => ?_
    simp only [List.getElem_map, List.getElem_range] at heq
    have := hinj _ _ heq
    omega
  have := pos_at hnd (j := l) (l := f l) (by simp [hl]) 0
  rwa [Nat.zero_add] at this
mutual
theorem re_ren {f : Nat → Nat} (hinj : ∀ a b, f a = f b → a = b) {n : Nat} (H : Heap) : ∀ v : AVal, v.inR n = true → (v.ren f).re ((List.range n).map f) H = v
  | .own l off len ver z, h => by simp only [AVal.inR, decide_eq_true_eq] at h; simp only [AVal.ren, AVal.re, range_pos hinj h]
  | .ptr l off ver, h => by simp only [AVal.inR, decide_eq_true_eq] at h; simp only [AVal.ren, AVal.re, range_pos hinj h]
  | .rom vs off, h => by simp only [AVal.inR] at h; simp only [AVal.ren, AVal.re, res_ren hinj H vs h]
  | .ros vs len z, h => by simp only [AVal.inR] at h; simp only [AVal.ren, AVal.re, res_ren hinj H vs h]
  | .agg vs, h => by simp only [AVal.inR] at h; simp only [AVal.ren, AVal.re, res_ren hinj H vs h]
  | .tup vs, h => by simp only [AVal.inR] at h; simp only [AVal.ren, AVal.re, res_ren hinj H vs h]
  | .fn g vs, h => by simp only [AVal.inR] at h; simp only [AVal.ren, AVal.re, res_ren hinj H vs h]
  | .top, _ => rfl
  | .undef, _ => rfl
  | .bool _, _ => rfl
  | .int _ _, _ => rfl
  | .flt _ _, _ => rfl
  | .cpx _ _ _, _ => rfl
  | .str _, _ => rfl
  | .nils, _ => rfl
  | .emp, _ => rfl
  | .ro _ _ _, _ => rfl
  | .rop _ _, _ => rfl
  | .nilf, _ => rfl
  | .nili, _ => rfl
  | .fex .., _ => rfl
  | .bun _ _ _, _ => rfl
theorem res_ren {f : Nat → Nat} (hinj : ∀ a b, f a = f b → a = b) {n : Nat} (H : Heap) : ∀ vs : List AVal, AVal.inR.inRs n vs = true → AVal.re.res ((List.range n).map f) H (AVal.ren.rens f vs) = vs
  | [], _ => rfl
  | v :: vs, h => by
    simp only [AVal.inR.inRs, Bool.and_eq_true] at h
    simp only [AVal.ren.rens, AVal.re.res, re_ren hinj H v h.1, res_ren hinj H vs h.2]
end
theorem St.ren0 [Fb : Forb] {ρ0 : List Nat} {H0 : Heap} {w0 w : World} {f : Nat → Nat} {s s2 : State} {a : Act} (r : RenS f [] s s2) (hf : ∀ l, l < H0.length → f l = l) (h : St ρ0 H0 w0 s2 a w) : St ρ0 H0 w0 s a w := by
  have ins2 := h.inS
  have hback : ∀ l, f l < s2.h.length → l < s.h.length := fun l hl => by
    rcases Nat.lt_or_ge l s.h.length with h | h
    · exact h
    · have e : l = s.h.length + (l - s.h.length) := by omega
      rw [e, r.h.new] at hl; omega
  have hlt : ∀ l, l < s.h.length → f l < s2.h.length := fun l hl => (List.getElem?_eq_some_iff.1 (r.h.held l _ (List.getElem?_eq_getElem hl))).1
  have inst : AVal.inR.inRs s.h.length s.t = true := by
    have := ins2.t
    rw [r.t, ← rens_eq] at this
    exact inRs_ren hback _ this
  have insh : ∀ (l : Nat) (blk : Blk), s.h[l]? = some blk → blk.c.inR s.h.length = true := fun l blk hb => by
    have h1 := ins2.h _ _ (r.h.held l blk hb)
    cases hc : blk.c with
    | typ c => rfl
    | cells vs =>
      rw [hc] at h1
      simp only [BC.ren, BC.inR] at h1
      exact inRs_ren hback _ h1
  have hp := h.perm (ks := (List.range s.h.length).map f) ⟨?_, ?_, ?_⟩
  · have e : permS ((List.range s.h.length).map f) s2 = s := by
      unfold permS
      cases s with
      | mk t H =>
        congr 1
        · rw [r.t, ← rens_eq]; exact res_ren r.h.inj _ _ inst
        · apply List.ext_getElem?
          intro j
          rcases Nat.lt_or_ge j H.length with hj | hj
          · have hb : H[j]? = some H[j] := List.getElem?_eq_getElem hj
            have := reB_at ((List.range H.length).map f) s2.h ((List.range H.length).map f) j (f j) _ (by simp [hj]) (r.h.held j _ hb)
            rw [this, hb]
            have hin := insh j _ hb
            simp only [Option.some.injEq]
            generalize H[j] = b at hin
            obtain ⟨c, ver⟩ := b
            cases c with
            | typ c => rfl
            | cells vs =>
              simp only [BC.ren, BC.re, Blk.mk.injEq, BC.cells.injEq, and_true]
              exact res_ren r.h.inj _ _ hin
          · rw [List.getElem?_eq_none hj, List.getElem?_eq_none (by rw [reB_len]; simpa using hj)]
    rwa [e] at hp
  · refine List.pairwise_iff_getElem.2 fun i j hi hj hij heq => ?_
    simp only [List.getElem_map, List.getElem_range] at heq
    have := r.h.inj _ _ heq
    omega
  · intro k hk
    simp only [List.mem_map, List.mem_range] at hk
    obtain ⟨l, hl, rfl⟩ := hk
    exact hlt l hl
  · intro i h1 h2
    have e := hf i h1
    have hi : i < s.h.length := hback i (by rw [e]; exact h2)
    simp [hi, e]

end Go.Proofs.YtjhofofieiiplaaGreatDoor.Ab
