/-
  The abstract machine: calls whose results are new, and are laid down at once to be read alone.
-/
import Derived.Test.YthecninmmojkgaaAbSub
namespace Go.Proofs.Ythecninmmojkgaa.Ab
open Go
set_option linter.unusedVariables false
set_option linter.unusedSimpArgs false

mutual
theorem lent_shift {n : Nat} {H : Heap} (hn : H.length = n) (new : List Blk) : ∀ v : AVal, v.clean = true → (v.shift n).lent n (H ++ shiftB n new) = v.lent 0 new
  | .own l off len ver z, _ => by
    have h1 : ltN (n + l) n = false := by rw [ltN_eq]; exact decide_eq_false (by omega)
    have h2 : ltN l 0 = false := by rw [ltN_eq]; exact decide_eq_false (by omega)
    simp only [AVal.shift, AVal.lent, h1, h2, cond_false, nth_eq]
    rw [List.getElem?_append_right (by omega), shiftB, mapL_eq, List.getElem?_map, hn, Nat.add_sub_cancel_left]
    cases new[l]? with
    | none => rfl
    | some b =>
      obtain ⟨c, ver'⟩ := b
      cases c <;> rfl
  | .ptr l off ver, _ => by
    have h1 : ltN (n + l) n = false := by rw [ltN_eq]; exact decide_eq_false (by omega)
    have h2 : ltN l 0 = false := by rw [ltN_eq]; exact decide_eq_false (by omega)
    simp only [AVal.shift, AVal.lent, h1, h2, cond_false, nth_eq]
    rw [List.getElem?_append_right (by omega), shiftB, mapL_eq, List.getElem?_map, hn, Nat.add_sub_cancel_left]
    cases new[l]? with
    | none => rfl
    | some b =>
      obtain ⟨c, ver'⟩ := b
      cases c <;> rfl
  | .agg vs, h => by simp only [AVal.shift, AVal.lent, lents_shift hn new vs h]
  | .tup vs, h => by simp only [AVal.shift, AVal.lent, lents_shift hn new vs h]
  | .top, _ => rfl
  | .undef, _ => rfl
  | .bool _, _ => rfl
  | .int _ _, _ => rfl
  | .flt _ _, _ => rfl
  | .cpx _ _ _, _ => rfl
  | .str _, _ => rfl
  | .nils, _ => rfl
  | .emp, _ => rfl
  | .ro _ _ _, _ => rfl
  | .rop _ _, _ => rfl
  | .rom vs off, h => by simp [AVal.clean] at h
  | .ros vs len z, h => by simp [AVal.clean] at h
  | .fn f vs, h => by simp only [AVal.shift, AVal.lent, lents_shift hn new vs h]
  | .nilf, _ => rfl
  | .bun _ _ _, _ => rfl
theorem lents_shift {n : Nat} {H : Heap} (hn : H.length = n) (new : List Blk) : ∀ vs : List AVal, AVal.clean.cleans vs = true → AVal.lent.lents n (H ++ shiftB n new) (AVal.shift.shifts n vs) = AVal.lent.lents 0 new vs
  | [], _ => rfl
  | v :: vs, h => by
    simp only [AVal.clean.cleans, Bool.and_eq_true] at h
    simp only [AVal.shift.shifts, AVal.lent.lents, lent_shift hn new v h.1, lents_shift hn new vs h.2]
end

theorem Sim.inB [Fb : Forb] {ρ : List Nat} {H : Heap} {w : World} (S : Sim ρ H w) {l : Nat} {blk : Blk} (hb : H[l]? = some blk) : blk.c.inR H.length = true := by
  have hl : l < ρ.length := by rw [S.len]; exact (List.getElem?_eq_some_iff.1 hb).1
  obtain ⟨cs, e, _, hbr⟩ := S.blk l ρ[l] blk hb (List.getElem?_eq_getElem hl)
  cases hc : blk.c with
  | typ c => rfl
  | cells vs =>
    refine inRs_all fun i v hi => ?_
    obtain ⟨x, _, hx⟩ := hbr.2 i v (by rw [hc]; simpa [BC.get?, nth_eq] using hi)
    exact hx.inR

/-- A function whose results are new, and what is left of them when they are only read. -/
structure EntF where
  f : FuncId
  R : List AVal → Option (Bool × AVal)
def EntFOk (P : Program) (e : EntF) : Prop := Enters P e.f ∧ ∀ args H v, e.R (lend0 H args) = some (true, v) → ACalls P e.f args H v H
def layF (R : List AVal → Option (Bool × AVal × List Blk)) (args : List AVal) : Option (Bool × AVal) :=
  match R args with
  | some (b, v, new) => some (b && (v.clean && cleanB new), v.lent 0 new)
  | none => none
theorem EntOk.frz {P : Program} {f : FuncId} {R : List AVal → Option (Bool × AVal × List Blk)} (h : EntOk P ⟨f, R⟩) : EntFOk P ⟨f, layF R⟩ := by
  refine ⟨h.1, fun args H v hR => ?_⟩
  simp only [layF] at hR
  split at hR
  · rename_i b v0 new hr
    simp only [Option.some.injEq, Prod.mk.injEq, Bool.and_eq_true] at hR
    obtain ⟨⟨rfl, hv, hnew⟩, rfl⟩ := hR
    have hc : ACalls P f args H (v0.shift H.length) (H ++ shiftB H.length new) := ACalls.lift (H := H) (h.2 _ _ _ hr) (.inr ⟨hv, hnew⟩)
    intro F ρ w cargs S hargs
    refine (@hc F ρ w cargs S hargs).mono fun e w' ⟨c, he, ρ', V, S', M⟩ => ⟨c, he, ρ'.take H.length, ?_, ?_, ?_⟩
    · have := V.lent H.length S'
      rwa [lent_shift rfl new v0 hv, List.take_left] at this
    · have := S'.cut H.length fun l blk hl hb => by
        rw [List.getElem?_append_left hl] at hb
        exact S.inB hb
      rwa [List.take_left] at this
    · have := M.cut H.length (Nat.le_refl _)
      rwa [List.take_left] at this
  · cases hR
def findF : List EntF → FuncId → Option (List AVal → Option (Bool × AVal))
  | [], _ => none
  | e :: r, f => bif eqN e.f f then some e.R else findF r f
def orcF (fs : List EntF) (A : OrcK) : OrcK := fun f args H => match findF fs f with
  | some R => match R (lend0 H args) with
    | some (b, v) => bif v.inR 0 then some (b, v, .ext []) else none
    | none => none
  | none => A f args H
instance orcF_loc (fs : List EntF) (A : OrcK) [hA : OrcLoc A] : OrcLoc (orcF fs A) := by
  refine ⟨?_⟩
  intro f args H H' b v h l hl hn
  unfold orcF at h
  split at h
  · split at h
    · simp only [Bool.cond_eq_ite] at h
      split at h
      · simp at h
      · cases h
    · cases h
  · exact hA.loc h l hl hn
instance orcF_ren (fs : List EntF) (A : OrcK) [hA : OrcRen A] : OrcRen (orcF fs A) := by
  refine ⟨?_⟩
  intro f G H H2 r g args b v n h
  unfold orcF at h ⊢
  split at h
  · rename_i R hR
    rw [lend0_ren r args]
    split at h
    · rename_i b1 v1 hv
      simp only [Bool.cond_eq_ite] at h ⊢
      split at h
      · rename_i hin
        simp only [Option.some.injEq, Prod.mk.injEq, Eff.ext.injEq] at h
        obtain ⟨rfl, rfl, rfl⟩ := h
        rw [ren_low (n := 0) (fun l hl => by omega) v1 hin]
        simp only [hin, if_true]
        rfl
      · cases h
    · cases h
  · exact hA.ren r h
theorem orcF_ok {P : Program} {fs : List EntF} {A : OrcK} (hf : ∀ e ∈ fs, EntFOk P e) (hA : OrcOk P A.plain) : OrcOk P (orcF fs A).plain := by
  intro f args H v H' hh
  have find : ∀ (fs : List EntF), (∀ e ∈ fs, EntFOk P e) → ∀ R, findF fs f = some R → EntFOk P ⟨f, R⟩ := by
    intro fs
    induction fs with
    | nil => intro _ R hR; cases hR
    | cons e r ih =>
      intro he R hR
      simp only [findF, eqN_eq] at hR
      cases hb : e.f == f with
      | true =>
        simp only [hb, cond_true, Option.some.injEq] at hR
        have hf : e.f = f := by simpa using hb
        subst hR hf
        exact he e List.mem_cons_self
      | false =>
        simp only [hb, cond_false] at hR
        exact ih (fun e' he' => he e' (List.mem_cons_of_mem _ he')) R hR
  cases hfw : findF fs f with
  | none =>
    refine hA f args H v H' ?_
    simp only [OrcK.plain, orcF, hfw] at hh
    exact hh
  | some R =>
    obtain ⟨h1, h2⟩ := find fs hf R hfw
    simp only [OrcK.plain, orcF, hfw] at hh
    split at hh
    · rename_i b u e hr
      split at hr
      · rename_i b0 v0 hnew
        simp only [Bool.cond_eq_ite] at hr
        split at hr
        · simp only [Option.some.injEq, Prod.mk.injEq] at hr
          obtain ⟨rfl, rfl, rfl⟩ := hr
          cases b0 with
          | false => simp at hh
          | true =>
            simp only [cond_true, Option.some.injEq, Prod.mk.injEq, Eff.heap] at hh
            obtain ⟨rfl, rfl⟩ := hh
            exact .enter h1 (h2 _ _ _ hnew)
        · cases hr
      · cases hr
    · cases hh

end Go.Proofs.Ythecninmmojkgaa.Ab
