/-
  The abstract machine: of the memory that a call made only what is wanted is kept; the rest is laid down to be read alone.
-/
import Derived.Test.YtjhofofieiiplaaGreatDoorAbLend
namespace Go.Proofs.YtjhofofieiiplaaGreatDoor.Ab
open Go
set_option linter.unusedVariables false
set_option linter.unusedSimpArgs false

def pos : List Nat → Nat → Nat → Option Nat
  | [], _, _ => none
  | k :: r, l, j => bif eqN k l then some j else pos r l (j + 1)
/-- The blocks 'ks' are kept, in this order. -/
def AVal.re (ks : List Nat) (H : Heap) : AVal → AVal
  | .own l off len ver z => match pos ks l 0 with
    | some j => .own j off len ver z
    | none => match nth H l with
      | some ⟨.typ c, ver'⟩ => bif eqN ver ver' then .ro (c.fromC off) len z else .top
      | _ => .top
  | .ptr l off ver => match pos ks l 0 with
    | some j => .ptr j off ver
    | none => match nth H l with
      | some ⟨.typ c, ver'⟩ => bif eqN ver ver' then .rop c off else .top
      | _ => .top
  | .rom vs off => .rom (res ks H vs) off
  | .ros vs len z => .ros (res ks H vs) len z
  | .agg vs => .agg (res ks H vs)
  | .tup vs => .tup (res ks H vs)
  | .fn f vs => .fn f (res ks H vs)
  | v => v
  where res (ks : List Nat) (H : Heap) : List AVal → List AVal
  | [] => []
  | v :: vs => v.re ks H :: res ks H vs
def BC.re (ks : List Nat) (H : Heap) : BC → BC
  | .typ c => .typ c
  | .cells vs => .cells (AVal.re.res ks H vs)
def reB (ks : List Nat) (H : Heap) : List Nat → List Blk
  | [] => []
  | k :: r => match nth H k with
    | some b => ⟨b.c.re ks H, b.ver⟩ :: reB ks H r
    | none => ⟨.cells [], 0⟩ :: reB ks H r
def nodupB : List Nat → Bool
  | [] => true
  | k :: r => (match pos r k 0 with | some _ => false | none => true) && nodupB r
def allLt (n : Nat) : List Nat → Bool
  | [] => true
  | k :: r => ltN k n && allLt n r
def regc (ks : List Nat) (r : Option (AVal × Heap)) : Option (AVal × Heap) :=
  match r with
  | some (v, h) => bif nodupB ks && allLt (hlen h) ks then some (v.re ks h, reB ks h ks) else none
  | none => none

theorem res_eq (ks : List Nat) (H : Heap) (vs : List AVal) : AVal.re.res ks H vs = vs.map (AVal.re ks H) := by
  induction vs with
  | nil => rfl
  | cons v vs ih => simp [AVal.re.res, ih]
theorem pos_some {ks : List Nat} {l : Nat} : ∀ {i j : Nat}, pos ks l i = some j → i ≤ j ∧ ks[j - i]? = some l := by
  induction ks with
  | nil => intro i j h; cases h
  | cons k r ih =>
    intro i j h
    simp only [pos, eqN_eq] at h
    cases hk : k == l with
    | true =>
      simp only [hk, cond_true, Option.some.injEq] at h
      subst h
      have : k = l := by simpa using hk
      simp [this]
    | false =>
      simp only [hk, cond_false] at h
      obtain ⟨h1, h2⟩ := ih h
      refine ⟨by omega, ?_⟩
      have : j - i = (j - (i + 1)) + 1 := by omega
      rw [this]; simpa using h2
theorem pos_none {ks : List Nat} {l : Nat} : ∀ {i : Nat}, pos ks l i = none → l ∉ ks := by
  induction ks with
  | nil => intro i _; simp
  | cons k r ih =>
    intro i h
    simp only [pos, eqN_eq] at h
    cases hk : k == l with
    | true => simp [hk] at h
    | false =>
      simp only [hk, cond_false] at h
      have : k ≠ l := by simpa using hk
      simp [ih h, Ne.symm this]
theorem nodupB_spec {ks : List Nat} (h : nodupB ks = true) : ks.Nodup := by
  induction ks with
  | nil => exact List.nodup_nil
  | cons k r ih =>
    simp only [nodupB, Bool.and_eq_true] at h
    refine List.nodup_cons.2 ⟨?_, ih h.2⟩
    cases hp : pos r k 0 with
    | none => exact pos_none hp
    | some j => simp [hp] at h
theorem allLt_spec {n : Nat} {ks : List Nat} (h : allLt n ks = true) : ∀ k ∈ ks, k < n := by
  induction ks with
  | nil => intro k hk; cases hk
  | cons k r ih =>
    simp only [allLt, Bool.and_eq_true, ltN_eq, decide_eq_true_eq] at h
    intro x hx
    rcases List.mem_cons.1 hx with rfl | hx
    · exact h.1
    · exact ih h.2 x hx
theorem reB_get (ks : List Nat) (H : Heap) : ∀ (l : List Nat), (∀ k ∈ l, k < H.length) → ∀ (j : Nat) (b' : Blk), (reB ks H l)[j]? = some b' → ∃ (k : Nat) (b : Blk), l[j]? = some k ∧ H[k]? = some b ∧ b' = ⟨b.c.re ks H, b.ver⟩ := by
  intro l
  induction l with
  | nil => intro _ j b' h; simp [reB] at h
  | cons k r ih =>
    intro hlt j b' h
    have hk := hlt k List.mem_cons_self
    have hg : nth H k = some H[k] := by rw [nth_eq]; exact List.getElem?_eq_getElem hk
    simp only [reB, hg] at h
    cases j with
    | zero =>
      simp only [List.getElem?_cons_zero, Option.some.injEq] at h
      exact ⟨k, H[k], rfl, List.getElem?_eq_getElem hk, h.symm⟩
    | succ j =>
      simp only [List.getElem?_cons_succ] at h ⊢
      exact ih (fun x hx => hlt x (List.mem_cons_of_mem _ hx)) j b' h
theorem reB_len (ks : List Nat) (H : Heap) (l : List Nat) : (reB ks H l).length = l.length := by
  induction l with
  | nil => rfl
  | cons k r ih => simp only [reB]; split <;> simp [ih]
theorem reB_at (ks : List Nat) (H : Heap) : ∀ (l : List Nat) (j k : Nat) (b : Blk), l[j]? = some k → H[k]? = some b → (reB ks H l)[j]? = some ⟨b.c.re ks H, b.ver⟩ := by
  intro l
  induction l with
  | nil => intro j k b h; simp at h
  | cons x r ih =>
    intro j k b h hb
    cases j with
    | zero =>
      simp only [List.getElem?_cons_zero, Option.some.injEq] at h
      subst h
      have hg : nth H x = some b := by rw [nth_eq]; exact hb
      simp [reB, hg]
    | succ j =>
      simp only [List.getElem?_cons_succ] at h
      simp only [reB]
      split <;> simpa using ih j k b h hb

theorem BC.re_len (ks : List Nat) (H : Heap) (c : BC) : (c.re ks H).len = c.len := by
  cases c with
  | typ c => rfl
  | cells vs => simp [BC.re, BC.len, hlen_eq, res_eq]

section
variable {ρ : List Nat} {H : Heap} {w : World} {ks : List Nat}
/-- The concrete blocks that are kept. -/
def reρ (ρ : List Nat) (ks : List Nat) : List Nat := ks.map fun k => ρ.getD k 0

theorem reρ_at {j k b : Nat} (h : ks[j]? = some k) (hb : ρ[k]? = some b) : (reρ ρ ks)[j]? = some b := by
  simp [reρ, h, List.getD_eq_getElem?_getD, hb]
theorem reρ_mem [Fb : Forb] (S : Sim ρ H w) (hlt : ∀ k ∈ ks, k < H.length) {b : Nat} (h : b ∈ reρ ρ ks) : ∃ k ∈ ks, ρ[k]? = some b := by
  simp only [reρ, List.mem_map] at h
  obtain ⟨k, hk, rfl⟩ := h
  have := hlt k hk
  rw [← S.len] at this
  exact ⟨k, hk, by simp [List.getD_eq_getElem?_getD, this]⟩
theorem reKeeps [Fb : Forb] (S : Sim ρ H w) (hlt : ∀ k ∈ ks, k < H.length) : Keeps ρ w (reρ ρ ks) w := fun b ⟨h1, h2, h3⟩ => ⟨⟨h1, fun hm => by
  obtain ⟨k, _, hk⟩ := reρ_mem S hlt hm
  exact h2 (List.mem_of_getElem? hk), h3⟩, rfl⟩
theorem reOut [Fb : Forb] (S : Sim ρ H w) (hlt : ∀ k ∈ ks, k < H.length) {l b : Nat} (hl : l ∉ ks) (hb : ρ[l]? = some b) : b ∉ reρ ρ ks := by
  intro hm
  obtain ⟨k, hk, hkb⟩ := reρ_mem S hlt hm
  have := (List.getElem?_inj (List.getElem?_eq_some_iff.1 hkb).1 S.nodup).1 (hkb.trans hb.symm)
  exact hl (this ▸ hk)

theorem VR.re [Fb : Forb] (S : Sim ρ H w) (hlt : ∀ k ∈ ks, k < H.length) {v : AVal} {c : Value} (h : VR ρ H w v c) : VR (reρ ρ ks) (reB ks H ks) w (v.re ks H) c := by
  have K := reKeeps S hlt
  have hat : ∀ {l j : Nat} {blk : Blk}, pos ks l 0 = some j → H[l]? = some blk → (reB ks H ks)[j]? = some ⟨blk.c.re ks H, blk.ver⟩ := fun hp hb =>
    reB_at ks H ks _ _ _ (by simpa using (pos_some hp).2) hb
  induction h with
  | top c => exact .top c
  | undef => exact .undef
  | bool b => exact .bool b
  | int k n => exact .int k n
  | flt k a b h => exact .flt k a b h
  | cpx k a b c d h h' => exact .cpx k a b c d h h'
  | str s => exact .str s
  | nils => exact .nils
  | emp a => exact .emp a
  | ro c len z a cap h0 h hm hl => exact .ro c len z a cap h0 (fun p hp => (h p hp).mono K) hm hl
  | own l off len ver z a cap h hm =>
    simp only [AVal.re, nth_eq, eqN_eq]
    split
    · rename_i j hp
      obtain ⟨blk, h1, h2, h3⟩ := h
      refine .own j off len ver z a cap ⟨_, hat hp h1, h2, fun e => ?_⟩ hm
      obtain ⟨b, cs, t, r1, r2, r3, r4, r5⟩ := h3 e
      exact ⟨b, cs, t, reρ_at (by simpa using (pos_some hp).2) r1, r2, by simpa only [BC.re_len] using r3, r4, r5⟩
    · rename_i hp
      split
      · rename_i c0 ver' hH
        by_cases hv : ver = ver'
        · subst hv
          simp only [beq_self_eq_true, cond_true]
          obtain ⟨blk, h1, h2, h3⟩ := h
          rw [hH] at h1
          simp only [Option.some.injEq] at h1; subst h1
          obtain ⟨b, cs, t, r1, rfl, r3, r4, r5⟩ := h3 rfl
          refine .ro _ len z (some ⟨b, off, none⟩) cap (fun h => by cases h) (fun p hp' => ?_) hm ?_
          · simp only [Option.some.injEq] at hp'; subst hp'
            exact CR.fromC (block_CR S K hH r1 (reOut S hlt (pos_none hp) r1) off)
          · simp only [BC.len] at r3
            cases off with
            | zero => simpa [Cont.fromC] using r3
            | succ off => simp only [Cont.fromC]; rw [Cont.len_drop]; omega
        · have : (ver == ver') = false := by simpa using hv
          simp only [this, cond_false]; exact .top _
      · exact .top _
  | rop c off p h => exact .rop c off p (h.mono K)
  | ptr l off ver a h =>
    simp only [AVal.re, nth_eq, eqN_eq]
    split
    · rename_i j hp
      obtain ⟨blk, h1, h2, h3⟩ := h
      refine .ptr j off ver a ⟨_, hat hp h1, h2, fun e => ?_⟩
      obtain ⟨b, r1, r2⟩ := h3 e
      exact ⟨b, reρ_at (by simpa using (pos_some hp).2) r1, r2⟩
    · rename_i hp
      split
      · rename_i c0 ver' hH
        by_cases hv : ver = ver'
        · subst hv
          simp only [beq_self_eq_true, cond_true]
          obtain ⟨blk, h1, h2, h3⟩ := h
          rw [hH] at h1
          simp only [Option.some.injEq] at h1; subst h1
          obtain ⟨b, r1, rfl⟩ := h3 rfl
          exact .rop c0 off _ (block_CR S K hH r1 (reOut S hlt (pos_none hp) r1) off)
        · have : (ver == ver') = false := by simpa using hv
          simp only [this, cond_false]; exact .top _
      · exact .top _
  | rom vs off p cs hl hm _ ih =>
    simp only [AVal.re, res_eq]
    exact .rom _ off p cs (by simp [hl]) (fun i x hx => ⟨(K _ (hm i x hx).1).1, (hm i x hx).2⟩) fun i v hi => by
      simp only [List.getElem?_map, Option.map_eq_some_iff] at hi
      obtain ⟨u, hu, rfl⟩ := hi
      exact ih i u hu
  | ros vs len z a cap cs hl h0 hm hc hz _ ih =>
    simp only [AVal.re, res_eq]
    exact .ros _ len z a cap cs (by simp [hl]) h0 (fun p hp i x hx => ⟨(K _ (hm p hp i x hx).1).1, (hm p hp i x hx).2⟩) hc (by simpa using hz) fun i v hi => by
      simp only [List.getElem?_map, Option.map_eq_some_iff] at hi
      obtain ⟨u, hu, rfl⟩ := hi
      exact ih i u hu
  | agg vs cs hl _ ih =>
    simp only [AVal.re, res_eq]
    exact .agg _ cs (by simp [hl]) fun i v hi => by
      simp only [List.getElem?_map, Option.map_eq_some_iff] at hi
      obtain ⟨u, hu, rfl⟩ := hi
      exact ih i u hu
  | tup vs cs hl _ ih =>
    simp only [AVal.re, res_eq]
    exact .tup _ cs (by simp [hl]) fun i v hi => by
      simp only [List.getElem?_map, Option.map_eq_some_iff] at hi
      obtain ⟨u, hu, rfl⟩ := hi
      exact ih i u hu
  | fn f vs cs hl _ ih =>
    simp only [AVal.re, res_eq]
    exact .fn f _ cs (by simp [hl]) fun i v hi => by
      simp only [List.getElem?_map, Option.map_eq_some_iff] at hi
      obtain ⟨u, hu, rfl⟩ := hi
      exact ih i u hu
  | nilf => exact .nilf
  | nili => exact .nili
  | fex k b => exact .fex k b
  | bun i c len x B he h => exact .bun i c len x B he (h.thin fun b hb => by obtain ⟨k, _, hk⟩ := reρ_mem S hlt hb; exact List.mem_of_getElem? hk)

theorem G.re [Fb : Forb] {w0 : World} {new : Heap} {v v' : AVal} {new' : Heap} {c : Value} (h : G [] [] w0 v new c w) (hg : regc ks (some (v, new)) = some (v', new')) : G [] [] w0 v' new' c w := by
  obtain ⟨ρ, V, S, M⟩ := h
  simp only [regc, Bool.cond_eq_ite, Bool.and_eq_true] at hg
  split at hg
  · rename_i hh
    simp only [Option.some.injEq, Prod.mk.injEq] at hg
    obtain ⟨rfl, rfl⟩ := hg
    have hnd := nodupB_spec hh.1
    have hlt : ∀ k ∈ ks, k < new.length := by simpa [hlen_eq] using allLt_spec hh.2
    have M' : Mv [] [] w0 (reρ ρ ks) (reB ks new ks) w := by
      refine ⟨M.os, M.tape, M.output, M.size, fun b h1 h2 => ⟨(M.frame b h1 h2).1, fun hm => ?_⟩, fun l blk hl => by simp at hl⟩
      obtain ⟨k, _, hk⟩ := reρ_mem S hlt hm
      exact (M.frame b h1 h2).2 (List.mem_of_getElem? hk)
    refine ⟨reρ ρ ks, V.re S hlt, ⟨by simp [reρ, reB_len], ?_, fun b hb => ⟨(S.forb b hb).1, fun hm => ?_⟩, fun l b blk hl hb => ?_⟩, M'⟩
    · refine List.pairwise_iff_getElem.2 fun i j hi hj hij heq => ?_
      have hi' : i < ks.length := by simpa [reρ] using hi
      have hj' : j < ks.length := by simpa [reρ] using hj
      have e1 := hlt _ (List.getElem_mem hi')
      have e2 := hlt _ (List.getElem_mem hj')
      rw [← S.len] at e1 e2
      have : ρ[ks[i]]? = ρ[ks[j]]? := by
        simp only [reρ, List.getElem_map, List.getD_eq_getElem?_getD, List.getElem?_eq_getElem e1, List.getElem?_eq_getElem e2, Option.getD_some] at heq
        rw [List.getElem?_eq_getElem e1, List.getElem?_eq_getElem e2, heq]
      have := (List.getElem?_inj e1 S.nodup).1 this
      exact (List.pairwise_iff_getElem.1 hnd i j hi' hj' hij) this
    · obtain ⟨k, _, hk⟩ := reρ_mem S hlt hm
      exact (S.forb b hb).2 (List.mem_of_getElem? hk)
    · obtain ⟨k, blk0, e1, e2, rfl⟩ := reB_get ks new ks hlt l blk hl
      have hkρ : ρ[k]? = some b := by
        have hk := hlt k (List.mem_of_getElem? e1)
        rw [← S.len] at hk
        have := reρ_at (ρ := ρ) e1 (List.getElem?_eq_getElem hk)
        rw [List.getElem?_eq_getElem hk, ← this]; exact hb
      obtain ⟨cs, e, h1, h2, h3⟩ := S.blk k b blk0 e2 hkρ
      refine ⟨cs, e, h1, by simpa only [BC.re_len] using h2, fun i u hu => ?_⟩
      obtain ⟨bc, ver⟩ := blk0
      cases bc with
      | typ c0 =>
        simp only [BC.re, BC.get?] at hu
        obtain ⟨x, hx, hvr⟩ := h3 i u hu
        have e2 : u.re ks new = u := by
          cases c0 <;> simp only [Cont.get?] at hu <;> split at hu <;> simp only [Option.some.injEq, reduceCtorEq] at hu <;> subst hu <;> first | rfl | (rename_i f _; cases f <;> rfl)
        exact ⟨x, hx, e2 ▸ hvr.re S hlt⟩
      | cells vs =>
        simp only [BC.re, BC.get?, nth_eq, res_eq, List.getElem?_map, Option.map_eq_some_iff] at hu
        obtain ⟨u0, hu0, rfl⟩ := hu
        obtain ⟨x, hx, hvr⟩ := h3 i u0 (by simpa [BC.get?, nth_eq] using hu0)
        exact ⟨x, hx, hvr.re S hlt⟩
  · cases hg
end
end Go.Proofs.YtjhofofieiiplaaGreatDoor.Ab
