/-
  The abstract machine: calls that write. What a call can reach is handed to it as a heap of its own; what it left is laid back.
-/
import Derived.Test.YtjhofofieiiplaaGreatDoorAbOrc
namespace Go.Proofs.YtjhofofieiiplaaGreatDoor.Ab
open Go
set_option linter.unusedVariables false
set_option linter.unusedSimpArgs false

/-- The blocks of 'L' get the numbers of their places in it, and begin anew. -/
def AVal.sub (L : List Nat) (H : Heap) : AVal → AVal
  | .own l off len ver z => match pos L l 0 with
    | some j => match nth H l with
      | some blk => bif eqN ver blk.ver then .own j off len 0 z else .top
      | none => .top
    | none => .top
  | .ptr l off ver => match pos L l 0 with
    | some j => match nth H l with
      | some blk => bif eqN ver blk.ver then .ptr j off 0 else .top
      | none => .top
    | none => .top
  | .rom vs off => .rom (subs L H vs) off
  | .ros vs len z => .ros (subs L H vs) len z
  | .agg vs => .agg (subs L H vs)
  | .tup vs => .tup (subs L H vs)
  | .fn f vs => .fn f (subs L H vs)
  | .bun .. => .top
  | v => v
  where subs (L : List Nat) (H : Heap) : List AVal → List AVal
  | [] => []
  | v :: vs => v.sub L H :: subs L H vs
theorem subs_eq (L : List Nat) (H : Heap) (vs : List AVal) : AVal.sub.subs L H vs = vs.map (AVal.sub L H) := by
  induction vs with
  | nil => rfl
  | cons v vs ih => simp [AVal.sub.subs, ih]
def BC.sub (L : List Nat) (H : Heap) : BC → BC
  | .typ c => .typ c
  | .cells vs => .cells (AVal.sub.subs L H vs)
theorem BC.sub_len (L : List Nat) (H : Heap) (c : BC) : (c.sub L H).len = c.len := by
  cases c with
  | typ c => rfl
  | cells vs => simp [BC.sub, BC.len, hlen_eq, subs_eq]
def subB (L : List Nat) (H : Heap) : List Nat → List Blk
  | [] => []
  | k :: r => match nth H k with
    | some b => ⟨b.c.sub L H, 0⟩ :: subB L H r
    | none => ⟨.cells [], 0⟩ :: subB L H r

/-- And back. -/
def subN : Nat → Nat → Nat
  | n, 0 => n
  | 0, _ => 0
  | n + 1, m + 1 => subN n m
theorem subN_eq (n m : Nat) : subN n m = n - m := by
  induction m generalizing n with
  | zero => cases n <;> simp [subN]
  | succ m ih => cases n with
    | zero => simp [subN]
    | succ n => simp [subN, ih]
def AVal.uns (L : List Nat) (H : Heap) : AVal → AVal
  | .own j off len ver z => match nth L j with
    | some l => match nth H l with
      | some blk => .own l off len (blk.ver + ver) z
      | none => .top
    | none => .own (hlen H + subN j (hlen L)) off len ver z
  | .ptr j off ver => match nth L j with
    | some l => match nth H l with
      | some blk => .ptr l off (blk.ver + ver)
      | none => .top
    | none => .ptr (hlen H + subN j (hlen L)) off ver
  | .rom vs off => .rom (unss L H vs) off
  | .ros vs len z => .ros (unss L H vs) len z
  | .agg vs => .agg (unss L H vs)
  | .tup vs => .tup (unss L H vs)
  | .fn f vs => .fn f (unss L H vs)
  | v => v
  where unss (L : List Nat) (H : Heap) : List AVal → List AVal
  | [] => []
  | v :: vs => v.uns L H :: unss L H vs
theorem unss_eq (L : List Nat) (H : Heap) (vs : List AVal) : AVal.uns.unss L H vs = vs.map (AVal.uns L H) := by
  induction vs with
  | nil => rfl
  | cons v vs ih => simp [AVal.uns.unss, ih]
def BC.uns (L : List Nat) (H : Heap) : BC → BC
  | .typ c => .typ c
  | .cells vs => .cells (AVal.uns.unss L H vs)
theorem BC.uns_len (L : List Nat) (H : Heap) (c : BC) : (c.uns L H).len = c.len := by
  cases c with
  | typ c => rfl
  | cells vs => simp [BC.uns, BC.len, hlen_eq, unss_eq]
def dropN {α : Type} : Nat → List α → List α
  | 0, l => l
  | _ + 1, [] => []
  | n + 1, _ :: r => dropN n r
theorem dropN_eq {α : Type} (n : Nat) (l : List α) : dropN n l = l.drop n := by
  induction n generalizing l with
  | zero => rfl
  | succ n ih => cases l with
    | nil => rfl
    | cons a r => simp [dropN, ih]
/-- 'new' laid over 'old' at the places 'L'; what is beyond comes behind. -/
def merge {α β : Type} (L : List Nat) (g : α → β → α) (t : β → α) (new : List β) : Nat → List α → List α
  | _, [] => mapL t (dropN (hlen L) new)
  | l, a :: r => (match pos L l 0 with
    | some j => match nth new j with
      | some b => g a b
      | none => a
    | none => a) :: merge L g t new (l + 1) r
theorem merge_len {α β : Type} (L : List Nat) (g : α → β → α) (t : β → α) (new : List β) (l : Nat) (old : List α) : (merge L g t new l old).length = old.length + (new.length - L.length) := by
  induction old generalizing l with
  | nil => simp [merge, mapL_eq, dropN_eq, hlen_eq]
  | cons a r ih => simp only [merge, List.length_cons, ih]; omega
theorem merge_out {α β : Type} {L : List Nat} {g : α → β → α} {t : β → α} {new : List β} {l : Nat} {old : List α} {i : Nat} {a : α} (h : old[i]? = some a) (hp : pos L (l + i) 0 = none) : (merge L g t new l old)[i]? = some a := by
  induction old generalizing l i with
  | nil => simp at h
  | cons x r ih =>
    cases i with
    | zero =>
      simp only [List.getElem?_cons_zero, Option.some.injEq] at h; subst h
      rw [Nat.add_zero] at hp
      simp [merge, hp]
    | succ i =>
      simp only [List.getElem?_cons_succ] at h
      simp only [merge, List.getElem?_cons_succ]
      exact ih h (by rw [← hp]; congr 1; omega)
theorem merge_in {α β : Type} {L : List Nat} {g : α → β → α} {t : β → α} {new : List β} {l : Nat} {old : List α} {i j : Nat} {a : α} {b : β} (h : old[i]? = some a) (hp : pos L (l + i) 0 = some j) (hb : new[j]? = some b) : (merge L g t new l old)[i]? = some (g a b) := by
  induction old generalizing l i with
  | nil => simp at h
  | cons x r ih =>
    cases i with
    | zero =>
      simp only [List.getElem?_cons_zero, Option.some.injEq] at h; subst h
      rw [Nat.add_zero] at hp
      simp [merge, hp, nth_eq, hb]
    | succ i =>
      simp only [List.getElem?_cons_succ] at h
      simp only [merge, List.getElem?_cons_succ]
      exact ih h (by rw [← hp]; congr 1; omega)
theorem merge_new {α β : Type} (L : List Nat) (g : α → β → α) (t : β → α) (new : List β) (l : Nat) (old : List α) (i : Nat) : (merge L g t new l old)[old.length + i]? = (new[L.length + i]?).map t := by
  induction old generalizing l with
  | nil => simp [merge, mapL_eq, dropN_eq, hlen_eq]
  | cons a r ih =>
    have : (a :: r).length + i = (r.length + i) + 1 := by simp only [List.length_cons]; omega
    rw [this]
    simp only [merge, List.getElem?_cons_succ]
    exact ih _

theorem subB_len (L : List Nat) (H : Heap) (l : List Nat) : (subB L H l).length = l.length := by
  induction l with
  | nil => rfl
  | cons k r ih => simp only [subB]; split <;> simp [ih]
theorem subB_at (L : List Nat) (H : Heap) : ∀ (l : List Nat) (j k : Nat) (b : Blk), l[j]? = some k → H[k]? = some b → (subB L H l)[j]? = some ⟨b.c.sub L H, 0⟩ := by
  intro l
  induction l with
  | nil => intro j k b h; simp at h
  | cons x r ih =>
    intro j k b h hb
    cases j with
    | zero =>
      simp only [List.getElem?_cons_zero, Option.some.injEq] at h
      subst h
      have hg : nth H x = some b := by rw [nth_eq]; exact hb
      simp [subB, hg]
    | succ j =>
      simp only [List.getElem?_cons_succ] at h
      simp only [subB]
      split <;> simpa using ih j k b h hb

theorem VR.subG {ρ : List Nat} {H : Heap} {w : World} {L : List Nat} {F2 F1 : Forb} (hs : ∀ b, @Stb F2 ρ w b → @Stb F1 (reρ ρ L) w b) {v : AVal} {c : Value} (h : @VR F2 ρ H w v c) : @VR F1 (reρ ρ L) (subB L H L) w (v.sub L H) c := by
  have hat : ∀ {l j : Nat} {blk : Blk}, pos L l 0 = some j → H[l]? = some blk → (subB L H L)[j]? = some ⟨blk.c.sub L H, 0⟩ := fun hp hb =>
    subB_at L H L _ _ _ (by simpa using (pos_some hp).2) hb
  induction h with
  | top c => exact .top c
  | undef => exact .undef
  | bool b => exact .bool b
  | int k n => exact .int k n
  | flt k a b h => exact .flt k a b h
  | cpx k a b c d h h' => exact .cpx k a b c d h h'
  | str s => exact .str s
  | nils => exact .nils
  | emp a => exact .emp a
  | ro c len z a cap h0 h hm hl => exact .ro c len z a cap h0 (fun p hp => (h p hp).reforb hs) hm hl
  | own l off len ver z a cap h hm =>
    simp only [AVal.sub, nth_eq, eqN_eq]
    split
    · rename_i j hp
      obtain ⟨blk, h1, h2, h3⟩ := h
      rw [h1]
      simp only []
      by_cases hv : ver = blk.ver
      · have e : (ver == blk.ver) = true := by simpa using hv
        simp only [e, cond_true]
        obtain ⟨b, cs, t, r1, r2, r3, r4, r5⟩ := h3 hv
        exact .own j off len 0 z a cap ⟨_, hat hp h1, Nat.le_refl _, fun _ => ⟨b, cs, t, reρ_at (by simpa using (pos_some hp).2) r1, r2, by simpa only [BC.sub_len] using r3, r4, r5⟩⟩ hm
      · have e : (ver == blk.ver) = false := by simpa using hv
        simp only [e, cond_false]; exact .top _
    · exact .top _
  | rop c off p h => exact .rop c off p (h.reforb hs)
  | ptr l off ver a h =>
    simp only [AVal.sub, nth_eq, eqN_eq]
    split
    · rename_i j hp
      obtain ⟨blk, h1, h2, h3⟩ := h
      rw [h1]
      simp only []
      by_cases hv : ver = blk.ver
      · have e : (ver == blk.ver) = true := by simpa using hv
        simp only [e, cond_true]
        obtain ⟨b, r1, r2⟩ := h3 hv
        exact .ptr j off 0 a ⟨_, hat hp h1, Nat.le_refl _, fun _ => ⟨b, reρ_at (by simpa using (pos_some hp).2) r1, r2⟩⟩
      · have e : (ver == blk.ver) = false := by simpa using hv
        simp only [e, cond_false]; exact .top _
    · exact .top _
  | rom vs off p cs hl hm _ ih =>
    simp only [AVal.sub, subs_eq]
    exact .rom _ off p cs (by simp [hl]) (fun i x hx => ⟨hs _ (hm i x hx).1, (hm i x hx).2⟩) fun i v hi => by
      simp only [List.getElem?_map, Option.map_eq_some_iff] at hi
      obtain ⟨u, hu, rfl⟩ := hi
      exact ih i u hu
  | ros vs len z a cap cs hl h0 hm hc hz _ ih =>
    simp only [AVal.sub, subs_eq]
    exact .ros _ len z a cap cs (by simp [hl]) h0 (fun p hp i x hx => ⟨hs _ (hm p hp i x hx).1, (hm p hp i x hx).2⟩) hc (by simpa using hz) fun i v hi => by
      simp only [List.getElem?_map, Option.map_eq_some_iff] at hi
      obtain ⟨u, hu, rfl⟩ := hi
      exact ih i u hu
  | agg vs cs hl _ ih =>
    simp only [AVal.sub, subs_eq]
    exact .agg _ cs (by simp [hl]) fun i v hi => by
      simp only [List.getElem?_map, Option.map_eq_some_iff] at hi
      obtain ⟨u, hu, rfl⟩ := hi
      exact ih i u hu
  | tup vs cs hl _ ih =>
    simp only [AVal.sub, subs_eq]
    exact .tup _ cs (by simp [hl]) fun i v hi => by
      simp only [List.getElem?_map, Option.map_eq_some_iff] at hi
      obtain ⟨u, hu, rfl⟩ := hi
      exact ih i u hu
  | fn f vs cs hl _ ih =>
    simp only [AVal.sub, subs_eq]
    exact .fn f _ cs (by simp [hl]) fun i v hi => by
      simp only [List.getElem?_map, Option.map_eq_some_iff] at hi
      obtain ⟨u, hu, rfl⟩ := hi
      exact ih i u hu
  | nilf => exact .nilf
  | nili => exact .nili
  | fex k b => exact .fex k b
  | bun i c len x B he h => exact .top _

/-- What is behind the call. -/
def mergeB (L : List Nat) (H : Heap) (Hs : List Blk) : Heap := merge L (fun a b => ⟨b.c.uns L H, a.ver + b.ver⟩) (fun b => ⟨b.c.uns L H, b.ver⟩) Hs 0 H
def mergeρ (L : List Nat) (ρ ρs : List Nat) : List Nat := merge L (fun _ b => b) (fun b => b) ρs 0 ρ

theorem VR.uns {F1 F2 : Forb} {ρ : List Nat} {H : Heap} {L : List Nat} {ρs : List Nat} {Hs : Heap} {w' : World} (hlenρ : ρ.length = H.length) (hlt : ∀ k ∈ L, k < H.length) (hnd : L.Nodup) (hst : ∀ b, @Stb F1 ρs w' b → @Stb F2 (mergeρ L ρ ρs) w' b) (hb0 : F1.bun = [])
    {v : AVal} {c : Value} (h : @VR F1 ρs Hs w' v c) : @VR F2 (mergeρ L ρ ρs) (mergeB L H Hs) w' (v.uns L H) c := by
  have hL : ∀ {j l : Nat}, L[j]? = some l → ∃ blk, H[l]? = some blk := fun h => ⟨_, List.getElem?_eq_getElem (hlt _ (List.mem_of_getElem? h))⟩
  have hin : ∀ {j l : Nat} {blk b' : Blk}, L[j]? = some l → H[l]? = some blk → Hs[j]? = some b' → (mergeB L H Hs)[l]? = some ⟨b'.c.uns L H, blk.ver + b'.ver⟩ := by
    intro j l blk b' h1 h2 h3
    exact merge_in (l := 0) h2 (by rw [Nat.zero_add]; simpa using pos_at hnd h1 0) h3
  have hρin : ∀ {j l b : Nat}, L[j]? = some l → ρs[j]? = some b → (mergeρ L ρ ρs)[l]? = some b := by
    intro j l b h1 h3
    have hl := hlt _ (List.mem_of_getElem? h1)
    rw [← hlenρ] at hl
    exact merge_in (l := 0) (g := fun _ b => b) (List.getElem?_eq_getElem hl) (by rw [Nat.zero_add]; simpa using pos_at hnd h1 0) h3
  have hnew : ∀ {j : Nat} {b' : Blk}, L[j]? = none → Hs[j]? = some b' → (mergeB L H Hs)[H.length + (j - L.length)]? = some ⟨b'.c.uns L H, b'.ver⟩ := by
    intro j b' h1 h2
    have := List.getElem?_eq_none_iff.1 h1
    unfold mergeB
    rw [merge_new]
    have e : L.length + (j - L.length) = j := by omega
    rw [e, h2]; rfl
  have hρnew : ∀ {j b : Nat}, L[j]? = none → ρs[j]? = some b → (mergeρ L ρ ρs)[H.length + (j - L.length)]? = some b := by
    intro j b h1 h2
    have := List.getElem?_eq_none_iff.1 h1
    unfold mergeρ
    rw [← hlenρ, merge_new]
    have e : L.length + (j - L.length) = j := by omega
    rw [e, h2]; rfl
  induction h with
  | top c => exact .top c
  | undef => exact .undef
  | bool b => exact .bool b
  | int k n => exact .int k n
  | flt k a b h => exact .flt k a b h
  | cpx k a b c d h h' => exact .cpx k a b c d h h'
  | str s => exact .str s
  | nils => exact .nils
  | emp a => exact .emp a
  | ro c len z a cap h0 h hm hl => exact .ro c len z a cap h0 (fun p hp => (h p hp).reforb hst) hm hl
  | own j off len ver z a cap h hm =>
    obtain ⟨blk', h1, h2, h3⟩ := h
    simp only [AVal.uns, nth_eq, hlen_eq, subN_eq]
    split
    · rename_i l hl
      obtain ⟨blk, hb⟩ := hL hl
      rw [hb]
      refine .own l off len _ z a cap ⟨_, hin hl hb h1, Nat.add_le_add_left h2 _, fun e => ?_⟩ hm
      obtain ⟨b, cs, t, r1, r2, r3, r4, r5⟩ := h3 (by simp only [] at e; omega)
      exact ⟨b, cs, t, hρin hl r1, r2, by simpa only [BC.uns_len] using r3, r4, r5⟩
    · rename_i hl
      refine .own _ off len _ z a cap ⟨_, hnew hl h1, h2, fun e => ?_⟩ hm
      obtain ⟨b, cs, t, r1, r2, r3, r4, r5⟩ := h3 e
      exact ⟨b, cs, t, hρnew hl r1, r2, by simpa only [BC.uns_len] using r3, r4, r5⟩
  | rop c off p h => exact .rop c off p (h.reforb hst)
  | ptr j off ver a h =>
    obtain ⟨blk', h1, h2, h3⟩ := h
    simp only [AVal.uns, nth_eq, hlen_eq, subN_eq]
    split
    · rename_i l hl
      obtain ⟨blk, hb⟩ := hL hl
      rw [hb]
      refine .ptr l off _ a ⟨_, hin hl hb h1, Nat.add_le_add_left h2 _, fun e => ?_⟩
      obtain ⟨b, r1, r2⟩ := h3 (by simp only [] at e; omega)
      exact ⟨b, hρin hl r1, r2⟩
    · rename_i hl
      refine .ptr _ off _ a ⟨_, hnew hl h1, h2, fun e => ?_⟩
      obtain ⟨b, r1, r2⟩ := h3 e
      exact ⟨b, hρnew hl r1, r2⟩
  | rom vs off p cs hl hm _ ih =>
    simp only [AVal.uns, unss_eq]
    exact .rom _ off p cs (by simp [hl]) (fun i x hx => ⟨hst _ (hm i x hx).1, (hm i x hx).2⟩) fun i v hi => by
      simp only [List.getElem?_map, Option.map_eq_some_iff] at hi
      obtain ⟨u, hu, rfl⟩ := hi
      exact ih i u hu
  | ros vs len z a cap cs hl h0 hm hc hz _ ih =>
    simp only [AVal.uns, unss_eq]
    exact .ros _ len z a cap cs (by simp [hl]) h0 (fun p hp i x hx => ⟨hst _ (hm p hp i x hx).1, (hm p hp i x hx).2⟩) hc (by simpa using hz) fun i v hi => by
      simp only [List.getElem?_map, Option.map_eq_some_iff] at hi
      obtain ⟨u, hu, rfl⟩ := hi
      exact ih i u hu
  | agg vs cs hl _ ih =>
    simp only [AVal.uns, unss_eq]
    exact .agg _ cs (by simp [hl]) fun i v hi => by
      simp only [List.getElem?_map, Option.map_eq_some_iff] at hi
      obtain ⟨u, hu, rfl⟩ := hi
      exact ih i u hu
  | tup vs cs hl _ ih =>
    simp only [AVal.uns, unss_eq]
    exact .tup _ cs (by simp [hl]) fun i v hi => by
      simp only [List.getElem?_map, Option.map_eq_some_iff] at hi
      obtain ⟨u, hu, rfl⟩ := hi
      exact ih i u hu
  | fn f vs cs hl _ ih =>
    simp only [AVal.uns, unss_eq]
    exact .fn f _ cs (by simp [hl]) fun i v hi => by
      simp only [List.getElem?_map, Option.map_eq_some_iff] at hi
      obtain ⟨u, hu, rfl⟩ := hi
      exact ih i u hu
  | nilf => exact .nilf
  | nili => exact .nili
  | fex k b => exact .fex k b
  | bun i c len x B he h => rw [hb0] at he; cases he

section
variable {F2 : Forb} {ρ : List Nat} {H : Heap} {w : World} {L : List Nat}
/-- What is not handed over. -/
def restρ (ρ L : List Nat) : List Nat := ρ.filter fun b => decide (b ∉ reρ ρ L)

theorem sub_stb (S : @Sim F2 ρ H w) (hlt : ∀ k ∈ L, k < H.length) {b : Nat} (h : @Stb F2 ρ w b) : @Stb ⟨F2.l ++ restρ ρ L, []⟩ (reρ ρ L) w b := by
  obtain ⟨h1, h2, h3⟩ := h
  refine ⟨h1, fun hm => ?_, ?_⟩
  · obtain ⟨k, _, hk⟩ := @reρ_mem _ _ _ _ F2 S hlt _ hm
    exact h2 (List.mem_of_getElem? hk)
  · show b ∉ F2.l ++ restρ ρ L
    simp only [List.mem_append, not_or]
    exact ⟨h3, fun hm => h2 (List.mem_filter.1 hm).1⟩

theorem VR.sub (S : @Sim F2 ρ H w) (hlt : ∀ k ∈ L, k < H.length) {v : AVal} {c : Value} (h : @VR F2 ρ H w v c) : @VR ⟨F2.l ++ restρ ρ L, []⟩ (reρ ρ L) (subB L H L) w (v.sub L H) c :=
  VR.subG (F1 := ⟨F2.l ++ restρ ρ L, []⟩) (fun b hb => sub_stb S hlt hb) h

theorem subB_get (L : List Nat) (H : Heap) : ∀ (l : List Nat), (∀ k ∈ l, k < H.length) → ∀ (j : Nat) (b' : Blk), (subB L H l)[j]? = some b' → ∃ (k : Nat) (b : Blk), l[j]? = some k ∧ H[k]? = some b ∧ b' = ⟨b.c.sub L H, 0⟩ := by
  intro l
  induction l with
  | nil => intro _ j b' h; simp [subB] at h
  | cons k r ih =>
    intro hlt j b' h
    have hk := hlt k List.mem_cons_self
    have hg : nth H k = some H[k] := by rw [nth_eq]; exact List.getElem?_eq_getElem hk
    simp only [subB, hg] at h
    cases j with
    | zero =>
      simp only [List.getElem?_cons_zero, Option.some.injEq] at h
      exact ⟨k, H[k], rfl, List.getElem?_eq_getElem hk, h.symm⟩
    | succ j =>
      simp only [List.getElem?_cons_succ] at h ⊢
      exact ih (fun x hx => hlt x (List.mem_cons_of_mem _ hx)) j b' h

theorem reρ_nodup (S : @Sim F2 ρ H w) (hlt : ∀ k ∈ L, k < H.length) (hnd : L.Nodup) : (reρ ρ L).Nodup := by
  refine List.pairwise_iff_getElem.2 fun i j hi hj hij heq => ?_
  have hi' : i < L.length := by simpa [reρ] using hi
  have hj' : j < L.length := by simpa [reρ] using hj
  have e1 := hlt _ (List.getElem_mem hi')
  have e2 := hlt _ (List.getElem_mem hj')
  rw [← @Sim.len F2 _ _ _ S] at e1 e2
  have : ρ[L[i]]? = ρ[L[j]]? := by
    simp only [reρ, List.getElem_map, List.getD_eq_getElem?_getD, List.getElem?_eq_getElem e1, List.getElem?_eq_getElem e2, Option.getD_some] at heq
    rw [List.getElem?_eq_getElem e1, List.getElem?_eq_getElem e2, heq]
  have := (List.getElem?_inj e1 (@Sim.nodup F2 _ _ _ S)).1 this
  exact (List.pairwise_iff_getElem.1 hnd i j hi' hj' hij) this

theorem Sim.sub (S : @Sim F2 ρ H w) (hlt : ∀ k ∈ L, k < H.length) (hnd : L.Nodup) : @Sim ⟨F2.l ++ restρ ρ L, []⟩ (reρ ρ L) (subB L H L) w := by
  refine @Sim.mk ⟨F2.l ++ restρ ρ L, []⟩ _ _ _ (by simp [reρ, subB_len]) (reρ_nodup S hlt hnd) (fun b hb => ?_) (fun l b blk hl hb => ?_)
  · rcases List.mem_append.1 hb with hb | hb
    · refine ⟨(@Sim.forb F2 _ _ _ S b hb).1, fun hm => ?_⟩
      obtain ⟨k, _, hk⟩ := @reρ_mem _ _ _ _ F2 S hlt _ hm
      exact (@Sim.forb F2 _ _ _ S b hb).2 (List.mem_of_getElem? hk)
    · obtain ⟨h1, h2⟩ := List.mem_filter.1 hb
      obtain ⟨l, hl⟩ := List.getElem?_of_mem h1
      obtain ⟨blk, cs, e, _, h4, _⟩ := @Sim.lt F2 _ _ _ S _ _ hl
      exact ⟨heap_lt h4, by simpa using h2⟩
  · obtain ⟨k, blk0, e1, e2, rfl⟩ := subB_get L H L hlt l blk hl
    have hk := hlt k (List.mem_of_getElem? e1)
    have hkρ : ρ[k]? = some b := by
      rw [← @Sim.len F2 _ _ _ S] at hk
      have := reρ_at (ρ := ρ) e1 (List.getElem?_eq_getElem hk)
      rw [List.getElem?_eq_getElem hk, ← this]; exact hb
    obtain ⟨cs, e, h1, h2, h3⟩ := @Sim.blk F2 _ _ _ S k b blk0 e2 hkρ
    refine ⟨cs, e, h1, by simpa only [BC.sub_len] using h2, fun i u hu => ?_⟩
    obtain ⟨bc, ver⟩ := blk0
    cases bc with
    | typ c0 =>
      simp only [BC.sub, BC.get?] at hu
      obtain ⟨x, hx, hvr⟩ := h3 i u hu
      have e2 : u.sub L H = u := by
        cases c0 <;> simp only [Cont.get?] at hu <;> split at hu <;> simp only [Option.some.injEq, reduceCtorEq] at hu <;> subst hu <;> first | rfl | (rename_i f _; cases f <;> rfl)
      exact ⟨x, hx, e2 ▸ hvr.sub S hlt⟩
    | cells vs =>
      simp only [BC.sub, BC.get?, nth_eq, subs_eq, List.getElem?_map, Option.map_eq_some_iff] at hu
      obtain ⟨u0, hu0, rfl⟩ := hu
      obtain ⟨x, hx, hvr⟩ := h3 i u0 (by simpa [BC.get?, nth_eq] using hu0)
      exact ⟨x, hx, hvr.sub S hlt⟩

variable {ρs : List Nat} {Hs : Heap} {w' : World}

/-- Where a place of the merged list comes from. -/
theorem mergeρ_cases (hnd : L.Nodup) (hlt : ∀ k ∈ L, k < ρ.length) (hlen : L.length ≤ ρs.length) {i b : Nat} (h : (mergeρ L ρ ρs)[i]? = some b) :
    (∃ j : Nat, L[j]? = some i ∧ ρs[j]? = some b) ∨ (i ∉ L ∧ ρ[i]? = some b) ∨ (ρ.length ≤ i ∧ ρs[L.length + (i - ρ.length)]? = some b) := by
  rcases Nat.lt_or_ge i ρ.length with hi | hi
  · cases hp : pos L i 0 with
    | none =>
      have := merge_out (l := 0) (g := fun _ b => b) (t := fun b => b) (new := ρs) (L := L) (List.getElem?_eq_getElem hi) (by rw [Nat.zero_add]; exact hp)
      rw [mergeρ, this] at h
      exact .inr (.inl ⟨pos_none hp, by rw [List.getElem?_eq_getElem hi]; exact h⟩)
    | some j =>
      have hj := (pos_some hp).2
      rw [Nat.sub_zero] at hj
      have hjl : j < ρs.length := by
        have := (List.getElem?_eq_some_iff.1 hj).1
        omega
      have := merge_in (l := 0) (g := fun _ b => b) (t := fun b => b) (new := ρs) (L := L) (List.getElem?_eq_getElem hi) (by rw [Nat.zero_add]; exact hp) (List.getElem?_eq_getElem hjl)
      rw [mergeρ, this] at h
      exact .inl ⟨j, hj, by rw [List.getElem?_eq_getElem hjl]; exact h⟩
  · have e : i = ρ.length + (i - ρ.length) := by omega
    rw [mergeρ, e, merge_new] at h
    exact .inr (.inr ⟨hi, by simpa using h⟩)

theorem G.uns (S : @Sim F2 ρ H w) (hlt : ∀ k ∈ L, k < H.length) (hnd : L.Nodup) {v : AVal} {c : Value} (h : @G ⟨F2.l ++ restρ ρ L, []⟩ (reρ ρ L) (subB L H L) w v Hs c w') :
    @G F2 ρ H w (v.uns L H) (mergeB L H Hs) c w' := by
  obtain ⟨ρs, V, S', M⟩ := h
  have hS := @Sim.len F2 _ _ _ S
  have hS' := @Sim.len ⟨F2.l ++ restρ ρ L, []⟩ _ _ _ S'
  have hltρ : ∀ k ∈ L, k < ρ.length := by rw [hS]; exact hlt
  have hlen : L.length ≤ Hs.length := by
    rcases Nat.eq_zero_or_pos L.length with h0 | h0
    · omega
    · have hj : L.length - 1 < (subB L H L).length := by rw [subB_len]; omega
      obtain ⟨b', h1, _⟩ := M.keep (L.length - 1) _ (List.getElem?_eq_getElem hj)
      have := (List.getElem?_eq_some_iff.1 h1).1
      omega
  have hlenρ : L.length ≤ ρs.length := by omega
  have outρ : ∀ {l b : Nat}, l ∉ L → ρ[l]? = some b → b ∉ reρ ρ L := fun hl hb => @reOut _ _ _ _ F2 S hlt _ _ hl hb
  have rest : ∀ {l b : Nat}, l ∉ L → ρ[l]? = some b → b ∈ restρ ρ L := fun hl hb => List.mem_filter.2 ⟨List.mem_of_getElem? hb, by simpa using outρ hl hb⟩
  have restOut : ∀ {b : Nat}, b ∈ restρ ρ L → b ∉ ρs := fun hb => (@Sim.forb ⟨F2.l ++ restρ ρ L, []⟩ _ _ _ S' _ (List.mem_append_right _ hb)).2
  have old : ∀ {l b : Nat}, ρ[l]? = some b → b < w.heap.size := by
    intro l b hb
    obtain ⟨blk, cs, e, h1, h2, _⟩ := @Sim.lt F2 _ _ _ S _ _ hb
    exact heap_lt h2
  have mem : ∀ {b : Nat}, b ∈ mergeρ L ρ ρs → b ∈ ρs ∨ b ∈ restρ ρ L := by
    intro b hb
    obtain ⟨i, hi⟩ := List.getElem?_of_mem hb
    rcases mergeρ_cases hnd hltρ hlenρ hi with ⟨j, _, hj⟩ | ⟨hl, hb⟩ | ⟨_, hj⟩
    · exact .inl (List.mem_of_getElem? hj)
    · exact .inr (rest hl hb)
    · exact .inl (List.mem_of_getElem? hj)
  have hst : ∀ b, @Stb ⟨F2.l ++ restρ ρ L, []⟩ ρs w' b → @Stb F2 (mergeρ L ρ ρs) w' b := by
    intro b hb
    obtain ⟨h1, h2, h3⟩ := hb
    have h3' : b ∉ F2.l ++ restρ ρ L := h3
    simp only [List.mem_append, not_or] at h3'
    refine ⟨h1, fun hm => ?_, h3'.1⟩
    rcases mem hm with h | h
    · exact h2 h
    · exact h3'.2 h
  have conv : ∀ {v : AVal} {c : Value}, @VR ⟨F2.l ++ restρ ρ L, []⟩ ρs Hs w' v c → @VR F2 (mergeρ L ρ ρs) (mergeB L H Hs) w' (v.uns L H) c := fun h => VR.uns hS hlt hnd hst rfl h
  have hin : ∀ {j l : Nat} {blk b' : Blk}, L[j]? = some l → H[l]? = some blk → Hs[j]? = some b' → (mergeB L H Hs)[l]? = some ⟨b'.c.uns L H, blk.ver + b'.ver⟩ := by
    intro j l blk b' h1 h2 h3
    exact merge_in (l := 0) h2 (by rw [Nat.zero_add]; simpa using pos_at hnd h1 0) h3
  have hout : ∀ {l : Nat} {blk : Blk}, l ∉ L → H[l]? = some blk → (mergeB L H Hs)[l]? = some blk := by
    intro l blk h1 h2
    refine merge_out (l := 0) h2 ?_
    rw [Nat.zero_add]
    cases hp : pos L l 0 with
    | none => rfl
    | some j => exact absurd (List.mem_of_getElem? (pos_some hp).2) h1
  have hρin : ∀ {j l b : Nat}, L[j]? = some l → ρs[j]? = some b → (mergeρ L ρ ρs)[l]? = some b := by
    intro j l b h1 h3
    have hl := hltρ _ (List.mem_of_getElem? h1)
    exact merge_in (l := 0) (g := fun _ b => b) (List.getElem?_eq_getElem hl) (by rw [Nat.zero_add]; simpa using pos_at hnd h1 0) h3
  have hρout : ∀ {l b : Nat}, l ∉ L → ρ[l]? = some b → (mergeρ L ρ ρs)[l]? = some b := by
    intro l b h1 h2
    refine merge_out (l := 0) h2 ?_
    rw [Nat.zero_add]
    cases hp : pos L l 0 with
    | none => rfl
    | some j => exact absurd (List.mem_of_getElem? (pos_some hp).2) h1
  have M' : Mv ρ H w (mergeρ L ρ ρs) (mergeB L H Hs) w' := by
    refine ⟨M.os, M.tape, M.output, M.size, fun b hb hn => ?_, fun l blk hl => ?_⟩
    · have hn' : b ∉ reρ ρ L := fun hm => by
        obtain ⟨k, _, hk⟩ := @reρ_mem _ _ _ _ F2 S hlt _ hm
        exact hn (List.mem_of_getElem? hk)
      refine ⟨(M.frame b hb hn').1, fun hm => ?_⟩
      rcases mem hm with h | h
      · exact (M.frame b hb hn').2 h
      · exact hn (List.mem_filter.1 h).1
    · have hlH := (List.getElem?_eq_some_iff.1 hl).1
      by_cases hmem : l ∈ L
      · obtain ⟨j, hj⟩ := List.getElem?_of_mem hmem
        obtain ⟨b', k1, k2, k3⟩ := M.keep j _ (subB_at L H L j l blk hj hl)
        refine ⟨_, hin hj hl k1, Nat.le_add_right _ _, fun e => ?_⟩
        have e0 : b'.ver = 0 := by simp only [] at e; omega
        obtain ⟨r1, r2, r3⟩ := k3 e0
        have hlρ : l < ρ.length := by omega
        have hre : (reρ ρ L)[j]? = some ρ[l] := reρ_at hj (List.getElem?_eq_getElem hlρ)
        refine ⟨?_, by simpa only [BC.uns_len, BC.sub_len] using r2, fun b cs e hb hh => ?_⟩
        · rw [hρin hj (r1.trans hre), List.getElem?_eq_getElem hlρ]
        · refine r3 b cs e ?_ hh
          rw [hre, ← hb, List.getElem?_eq_getElem hlρ]
      · refine ⟨blk, hout hmem hl, Nat.le_refl _, fun _ => ?_⟩
        have hlρ : l < ρ.length := by omega
        refine ⟨?_, rfl, fun b cs e hb hh => ⟨cs, ?_, rfl⟩⟩
        · rw [hρout hmem (List.getElem?_eq_getElem hlρ), List.getElem?_eq_getElem hlρ]
        · rw [(M.frame b (heap_lt hh) (outρ hmem hb)).1]; exact hh
  refine ⟨mergeρ L ρ ρs, conv V, @Sim.mk F2 _ _ _ ?_ ?_ (@Sim.forbMv F2 _ _ _ _ _ _ S M') ?_, M'⟩
  · rw [mergeρ, mergeB, merge_len, merge_len, hS, hS']
  · refine List.pairwise_iff_getElem.2 fun i j hi hj hij heq => ?_
    have gi := List.getElem?_eq_getElem hi
    have gj := List.getElem?_eq_getElem hj
    rw [← heq] at gj
    have nd' := @Sim.nodup ⟨F2.l ++ restρ ρ L, []⟩ _ _ _ S'
    have inj : ∀ {a b x : Nat}, ρs[a]? = some x → ρs[b]? = some x → a = b := fun ha hb => (List.getElem?_inj (List.getElem?_eq_some_iff.1 ha).1 nd').1 (ha.trans hb.symm)
    have injρ : ∀ {a b x : Nat}, ρ[a]? = some x → ρ[b]? = some x → a = b := fun ha hb => (List.getElem?_inj (List.getElem?_eq_some_iff.1 ha).1 (@Sim.nodup F2 _ _ _ S)).1 (ha.trans hb.symm)
    have lL : ∀ {a l : Nat}, L[a]? = some l → a < L.length := fun h => (List.getElem?_eq_some_iff.1 h).1
    rcases mergeρ_cases hnd hltρ hlenρ gi with ⟨a, a1, a2⟩ | ⟨a1, a2⟩ | ⟨a1, a2⟩ <;> rcases mergeρ_cases hnd hltρ hlenρ gj with ⟨b, b1, b2⟩ | ⟨b1, b2⟩ | ⟨b1, b2⟩
    · have := inj a2 b2; subst this
      rw [a1] at b1
      simp only [Option.some.injEq] at b1
      omega
    · exact restOut (rest b1 b2) (List.mem_of_getElem? a2)
    · have := inj a2 b2
      have := lL a1
      omega
    · exact restOut (rest a1 a2) (List.mem_of_getElem? b2)
    · have := injρ a2 b2; omega
    · exact restOut (rest a1 a2) (List.mem_of_getElem? b2)
    · have := inj a2 b2
      have := lL b1
      omega
    · exact restOut (rest b1 b2) (List.mem_of_getElem? a2)
    · have := inj a2 b2; omega
  · intro l b blk hl hb
    -- a block that the call had
    have had : ∀ {j : Nat} {b' : Blk}, Hs[j]? = some b' → ρs[j]? = some b → ∃ (cs : Array Value) (e : TypeId), w'.heap[b]? = some (Obj.cells cs e (0, 0)) ∧ @BR F2 (mergeρ L ρ ρs) (mergeB L H Hs) w' (b'.c.uns L H) cs := by
      intro j b' h1 h2
      obtain ⟨cs, e, g1, g2, g3⟩ := @Sim.blk ⟨F2.l ++ restρ ρ L, []⟩ _ _ _ S' j b b' h1 h2
      refine ⟨cs, e, g1, by simpa only [BC.uns_len] using g2, fun i u hu => ?_⟩
      obtain ⟨bc, ver⟩ := b'
      cases bc with
      | typ c0 =>
        simp only [BC.uns, BC.get?] at hu
        obtain ⟨x, hx, hvr⟩ := g3 i u hu
        have e2 : u.uns L H = u := by
          cases c0 <;> simp only [Cont.get?] at hu <;> split at hu <;> simp only [Option.some.injEq, reduceCtorEq] at hu <;> subst hu <;> first | rfl | (rename_i f _; cases f <;> rfl)
        exact ⟨x, hx, e2 ▸ conv hvr⟩
      | cells vs =>
        simp only [BC.uns, BC.get?, nth_eq, unss_eq, List.getElem?_map, Option.map_eq_some_iff] at hu
        obtain ⟨u0, hu0, rfl⟩ := hu
        obtain ⟨x, hx, hvr⟩ := g3 i u0 (by simpa [BC.get?, nth_eq] using hu0)
        exact ⟨x, hx, conv hvr⟩
    rcases mergeρ_cases hnd hltρ hlenρ hb with ⟨j, j1, j2⟩ | ⟨j1, j2⟩ | ⟨j1, j2⟩
    · have hlH := hlt l (List.mem_of_getElem? j1)
      have hjs : j < Hs.length := by have := (List.getElem?_eq_some_iff.1 j2).1; omega
      have := hin j1 (List.getElem?_eq_getElem hlH) (List.getElem?_eq_getElem hjs)
      rw [this] at hl
      simp only [Option.some.injEq] at hl; subst hl
      exact had (List.getElem?_eq_getElem hjs) j2
    · have hlH : l < H.length := by have := (List.getElem?_eq_some_iff.1 j2).1; omega
      have := hout j1 (List.getElem?_eq_getElem hlH)
      rw [this] at hl
      simp only [Option.some.injEq] at hl; subst hl
      obtain ⟨cs, e, h1, h2⟩ := @Sim.blk F2 _ _ _ S l b _ (List.getElem?_eq_getElem hlH) j2
      exact ⟨cs, e, by rw [(M.frame b (heap_lt h1) (outρ j1 j2)).1]; exact h1, @BR.mv F2 _ _ _ _ _ _ M' _ _ h2⟩
    · have hjs : L.length + (l - ρ.length) < Hs.length := by have := (List.getElem?_eq_some_iff.1 j2).1; omega
      have e : l = H.length + (l - ρ.length) := by omega
      rw [mergeB, e, merge_new, List.getElem?_eq_getElem hjs] at hl
      simp only [Option.map_some, Option.some.injEq] at hl; subst hl
      exact had (List.getElem?_eq_getElem hjs) j2
end

theorem ACalls.over {P : Program} {f : FuncId} {args : List AVal} {H : Heap} {L : List Nat} {v : AVal} {Hs : Heap} (hlt : ∀ k ∈ L, k < H.length) (hnd : L.Nodup) (h : ACalls P f (AVal.sub.subs L H args) (subB L H L) v Hs) :
    ACalls P f args H (v.uns L H) (mergeB L H Hs) := by
  intro F2 ρ w cargs S hargs gl
  have A1 : @VRs ⟨F2.l ++ restρ ρ L, []⟩ (reρ ρ L) (subB L H L) w (AVal.sub.subs L H args) cargs.toList := by
    rw [subs_eq]
    refine ⟨by simpa using hargs.1, fun i u x hu hx => ?_⟩
    simp only [List.getElem?_map, Option.map_eq_some_iff] at hu
    obtain ⟨u0, hu0, rfl⟩ := hu
    exact VR.sub S hlt (hargs.2 i u0 x hu0 hx)
  exact (@h ⟨F2.l ++ restρ ρ L, []⟩ (reρ ρ L) w cargs (Sim.sub S hlt hnd) A1 (gl.thin fun b hb => sub_stb S hlt hb)).mono fun e w' ⟨c, he, hg⟩ => ⟨c, he, G.uns S hlt hnd hg⟩

/-- A function that may write, and what it comes to on arguments and the memory that they lead to. -/
structure EntW where
  f : FuncId
  R : List AVal → Heap → Option (Bool × AVal × Heap)
def EntWOk (P : Program) (e : EntW) : Prop := Enters P e.f ∧ ∀ args H v H', e.R args H = some (true, v, H') → ACalls P e.f args H v H'
def findW : List EntW → FuncId → Option (List AVal → Heap → Option (Bool × AVal × Heap))
  | [], _ => none
  | e :: r, f => bif eqN e.f f then some e.R else findW r f
def callW (R : List AVal → Heap → Option (Bool × AVal × Heap)) (args : List AVal) (H : Heap) (L : List Nat) : Option (Bool × AVal × Eff) :=
  match R (AVal.sub.subs L H args) (subB L H L) with
  | some (b, v, Hs) => some (b && (nodupB L && allLt (hlen H) L), v.uns L H, .full (mergeB L H Hs))
  | none => none
def orcW (ws : List EntW) (es : List Ent) : OrcK := fun f args H => match findW ws f with
  | some R => callW R args H (reachD H dep3 args [])
  | none => orc es f args H

theorem hasN_none : ∀ {L : List Nat} {l : Nat} (j : Nat), hasN L l = false → pos L l j = none
  | [], _, _, _ => rfl
  | x :: r, l, j, h => by
    simp only [hasN, eqN_eq, Bool.cond_eq_ite, beq_iff_eq] at h
    split at h
    · cases h
    · rename_i hn
      have hr := hasN_none (L := r) (l := l) (j + 1) h
      simp only [pos, eqN_eq, Bool.cond_eq_ite, beq_iff_eq]
      first | (rw [if_neg hn]; exact hr) | (rw [if_neg (fun e => hn e.symm)]; exact hr)
theorem callW_loc {R : List AVal → Heap → Option (Bool × AVal × Heap)} {args : List AVal} {H H' : Heap} {L : List Nat} {b : Bool} {v : AVal} (h : callW R args H L = some (b, v, .full H')) {l : Nat} (hl : l < H.length) (hn : hasN L l = false) : nth H' l = nth H l := by
  unfold callW at h
  split at h
  · simp only [Option.some.injEq, Prod.mk.injEq, Eff.full.injEq] at h
    obtain ⟨_, _, rfl⟩ := h
    rw [nth_eq, nth_eq, List.getElem?_eq_getElem hl]
    exact merge_out (List.getElem?_eq_getElem hl) (by rw [Nat.zero_add]; exact hasN_none 0 hn)
  · cases h
instance orcW_loc (ws : List EntW) (es : List Ent) : OrcLoc (orcW ws es) := by
  refine ⟨?_⟩
  intro f args H H' b v h l hl hn
  unfold orcW at h
  split at h
  · exact callW_loc h hl hn
  · exact (orc_loc es).loc h l hl hn
instance orcW_ren (ws : List EntW) (es : List Ent) : OrcRen (orcW ws es) := by
  refine ⟨?_⟩
  intro f G H H2 r g args b v n h
  unfold orcW at h ⊢
  split at h
  · exfalso
    simp only [callW] at h
    split at h <;> simp at h
  · exact (orc_ren es).ren r h
theorem orcW_ok {P : Program} {ws : List EntW} {es : List Ent} (hw : ∀ e ∈ ws, EntWOk P e) (h : ∀ e ∈ es, EntOk P e) : OrcOk P (orcW ws es).plain := by
  intro f args H v H' hh
  have find : ∀ (ws : List EntW), (∀ e ∈ ws, EntWOk P e) → ∀ R, findW ws f = some R → EntWOk P ⟨f, R⟩ := by
    intro ws
    induction ws with
    | nil => intro _ R hR; cases hR
    | cons e r ih =>
      intro he R hR
      simp only [findW, eqN_eq] at hR
      cases hb : e.f == f with
      | true =>
        simp only [hb, cond_true, Option.some.injEq] at hR
        have hf : e.f = f := by simpa using hb
        subst hR hf
        exact he e List.mem_cons_self
      | false =>
        simp only [hb, cond_false] at hR
        exact ih (fun e' he' => he e' (List.mem_cons_of_mem _ he')) R hR
  cases hfw : findW ws f with
  | none =>
    refine orc_ok h f args H v H' ?_
    simp only [OrcK.plain, orcW, hfw] at hh
    exact hh
  | some R =>
    obtain ⟨h1, h2⟩ := find ws hw R hfw
    simp only [OrcK.plain, orcW, hfw, callW] at hh
    split at hh
    · rename_i b u e hr
      split at hr
      · rename_i b0 v0 Hs hnew
        simp only [Option.some.injEq, Prod.mk.injEq] at hr
        obtain ⟨rfl, rfl, rfl⟩ := hr
        cases b0 with
        | false => simp at hh
        | true =>
          simp only [Bool.true_and] at hh
          cases hcl : nodupB (reachD H dep3 args []) && allLt (hlen H) (reachD H dep3 args []) with
          | false => simp [hcl] at hh
          | true =>
            simp only [hcl, cond_true, Option.some.injEq, Prod.mk.injEq, Eff.heap] at hh
            obtain ⟨rfl, rfl⟩ := hh
            simp only [Bool.and_eq_true] at hcl
            refine .enter h1 (ACalls.over (fun k hk => ?_) (nodupB_spec hcl.1) (h2 _ _ _ _ hnew))
            have := allLt_spec hcl.2 k hk
            rwa [hlen_eq] at this
      · cases hr
    · cases hh

/-- Contracts of bodies, whatever stands for the calls. -/
theorem ent_okA {P : Program} (hm : P.follows .mixedOrders = true) {A : OrcK} [hR : OrcRen A] [hL : OrcLoc A] (hA : OrcOk P A.plain) {f : FuncId} {fn : Func} {R : List AVal → Option (Bool × AVal × List Blk)} {hd : Nat → Head} {dr : Nat → Dr} {cut : Option Nat} {n : Nat} {ts : List ResultVar}
    (hf : P.funcs[f]? = some fn) (hbn : fn.body.isNone = false) (hname : (fn.name == "runtime.NumGoroutine") = false) (hn : fn.ntmps = n) (hr : fn.results = ts.toArray) (hc : drawChk dr (bodyOf fn) = true)
    (h : ∀ args v new, R args = some (true, v, new) → ∃ fuel, runFn P A hd dr cut fuel (bodyOf fn) n ts args [] = some (v, new)) : EntOk P ⟨f, R⟩ :=
  ⟨⟨fn, hf, hbn, hname⟩, fun args v new hR => by obtain ⟨fuel, hh⟩ := h args v new hR; exact fn_sound hm hA hf hbn hn hr hc hh⟩
theorem ent_okAG {P : Program} (hm : P.follows .mixedOrders = true) {A : OrcK} [hR : OrcRen A] [hL : OrcLoc A] (hA : OrcOk P A.plain) {f : FuncId} {fn : Func} {R : List AVal → Option (Bool × AVal × List Blk)} {hd : Nat → Head} {dr : Nat → Dr} {cut : Option Nat} {ks : List Nat} {n : Nat} {ts : List ResultVar}
    (hf : P.funcs[f]? = some fn) (hbn : fn.body.isNone = false) (hname : (fn.name == "runtime.NumGoroutine") = false) (hn : fn.ntmps = n) (hr : fn.results = ts.toArray) (hc : drawChk dr (bodyOf fn) = true)
    (h : ∀ args v new, R args = some (true, v, new) → ∃ fuel, regc ks (runFn P A hd dr cut fuel (bodyOf fn) n ts args []) = some (v, new)) : EntOk P ⟨f, R⟩ :=
  ⟨⟨fn, hf, hbn, hname⟩, fun args v new hR => by
    obtain ⟨fuel, hh⟩ := h args v new hR
    cases hrun : runFn P A hd dr cut fuel (bodyOf fn) n ts args [] with
    | none => rw [hrun] at hh; cases hh
    | some r =>
      obtain ⟨v0, new0⟩ := r
      rw [hrun] at hh
      exact ACalls.re (fn_sound hm hA hf hbn hn hr hc hrun) hh⟩
theorem entw_ok {P : Program} (hm : P.follows .mixedOrders = true) {A : OrcK} [hR : OrcRen A] [hL : OrcLoc A] (hA : OrcOk P A.plain) {f : FuncId} {fn : Func} {R : List AVal → Heap → Option (Bool × AVal × Heap)} {hd : Nat → Head} {dr : Nat → Dr} {cut : Option Nat} {n : Nat} {ts : List ResultVar}
    (hf : P.funcs[f]? = some fn) (hbn : fn.body.isNone = false) (hname : (fn.name == "runtime.NumGoroutine") = false) (hn : fn.ntmps = n) (hr : fn.results = ts.toArray) (hc : drawChk dr (bodyOf fn) = true)
    (h : ∀ args H v H', R args H = some (true, v, H') → ∃ fuel, runFn P A hd dr cut fuel (bodyOf fn) n ts args H = some (v, H')) : EntWOk P ⟨f, R⟩ :=
  ⟨⟨fn, hf, hbn, hname⟩, fun args H v H' hR => by obtain ⟨fuel, hh⟩ := h args H v H' hR; exact fn_sound hm hA hf hbn hn hr hc hh⟩

/-! Contracts joined. -/
def orR (R1 R2 : List AVal → Option (Bool × AVal × List Blk)) (args : List AVal) : Option (Bool × AVal × List Blk) :=
  match R1 args with
  | some r => some r
  | none => R2 args
theorem EntOk.orR {P : Program} {f : FuncId} {R1 R2 : List AVal → Option (Bool × AVal × List Blk)} (h1 : EntOk P ⟨f, R1⟩) (h2 : EntOk P ⟨f, R2⟩) : EntOk P ⟨f, orR R1 R2⟩ := by
  refine ⟨h1.1, fun args v new h => ?_⟩
  simp only [Ab.orR] at h
  split at h
  · rename_i r hr
    exact h1.2 args v new (hr.trans h)
  · exact h2.2 args v new h
theorem EntOk.cases {P : Program} {f : FuncId} {R R1 R2 : List AVal → Option (Bool × AVal × List Blk)} (h1 : EntOk P ⟨f, R1⟩) (h2 : EntOk P ⟨f, R2⟩)
    (h : ∀ args v new, R args = some (true, v, new) → R1 args = some (true, v, new) ∨ R2 args = some (true, v, new)) : EntOk P ⟨f, R⟩ :=
  ⟨h1.1, fun args v new hR => by
    rcases h args v new hR with h | h
    · exact h1.2 args v new h
    · exact h2.2 args v new h⟩
theorem EntOk.sub {P : Program} {f : FuncId} {R R1 : List AVal → Option (Bool × AVal × List Blk)} (h1 : EntOk P ⟨f, R1⟩) (h : ∀ args v new, R args = some (true, v, new) → R1 args = some (true, v, new)) : EntOk P ⟨f, R⟩ :=
  ⟨h1.1, fun args v new hR => h1.2 args v new (h args v new hR)⟩
/-- What comes back is laid down, to be read alone. -/
def layR (R : List AVal → Option (Bool × AVal × List Blk)) (args : List AVal) : Option (Bool × AVal × List Blk) :=
  match R args with
  | some (b, v, new) => match regc [] (some (v, new)) with
    | some (v1, new1) => some (b, v1, new1)
    | none => none
  | none => none
theorem EntOk.lay {P : Program} {f : FuncId} {R : List AVal → Option (Bool × AVal × List Blk)} (h1 : EntOk P ⟨f, R⟩) : EntOk P ⟨f, layR R⟩ := by
  refine ⟨h1.1, fun args v new h => ?_⟩
  simp only [Ab.layR] at h
  split at h
  · rename_i b v0 new0 hr
    split at h
    · rename_i v1 new1 hg
      simp only [Option.some.injEq, Prod.mk.injEq] at h
      obtain ⟨rfl, rfl, rfl⟩ := h
      exact ACalls.re (f := f) (h1.2 args v0 new0 hr) hg
    · cases h
  · cases h
def orW (R1 R2 : List AVal → Heap → Option (Bool × AVal × Heap)) (args : List AVal) (H : Heap) : Option (Bool × AVal × Heap) :=
  match R1 args H with
  | some r => some r
  | none => R2 args H
theorem EntWOk.orW {P : Program} {f : FuncId} {R1 R2 : List AVal → Heap → Option (Bool × AVal × Heap)} (h1 : EntWOk P ⟨f, R1⟩) (h2 : EntWOk P ⟨f, R2⟩) : EntWOk P ⟨f, orW R1 R2⟩ := by
  refine ⟨h1.1, fun args H v H' h => ?_⟩
  simp only [Ab.orW] at h
  split at h
  · rename_i r hr
    exact h1.2 args H v H' (hr.trans h)
  · exact h2.2 args H v H' h

end Go.Proofs.YtjhofofieiiplaaGreatDoor.Ab
