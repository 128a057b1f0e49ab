/-
  The abstract machine: what a call that writes hands back may be renumbered, and its versions raised: a block that is new may take an old one's place.
-/
import Derived.Test.YthecninmmojkgaaAbSub
import Derived.Test.YthecninmmojkgaaAbPer
namespace Go.Proofs.Ythecninmmojkgaa.Ab
open Go
set_option linter.unusedVariables false
set_option linter.unusedSimpArgs false

def AVal.bmp (g : Nat → Nat → Nat) (H : Heap) : AVal → AVal
  | .own l off len ver z => match nth H l with
    | some blk => bif eqN ver blk.ver then .own l off len (g l blk.ver) z else .top
    | none => .top
  | .ptr l off ver => match nth H l with
    | some blk => bif eqN ver blk.ver then .ptr l off (g l blk.ver) else .top
    | none => .top
  | .rom vs off => .rom (bmps g H vs) off
  | .ros vs len z => .ros (bmps g H vs) len z
  | .agg vs => .agg (bmps g H vs)
  | .tup vs => .tup (bmps g H vs)
  | .fn f vs => .fn f (bmps g H vs)
  | v => v
where bmps (g : Nat → Nat → Nat) (H : Heap) : List AVal → List AVal
  | [] => []
  | v :: vs => v.bmp g H :: bmps g H vs
theorem bmps_eq (g : Nat → Nat → Nat) (H : Heap) (vs : List AVal) : AVal.bmp.bmps g H vs = vs.map (AVal.bmp g H) := by
  induction vs with
  | nil => rfl
  | cons v vs ih => simp [AVal.bmp.bmps, ih]
def BC.bmp (g : Nat → Nat → Nat) (H : Heap) : BC → BC
  | .typ c => .typ c
  | .cells vs => .cells (AVal.bmp.bmps g H vs)
theorem BC.bmp_len (g : Nat → Nat → Nat) (H : Heap) (c : BC) : (c.bmp g H).len = c.len := by
  cases c with
  | typ c => rfl
  | cells vs => simp [BC.bmp, BC.len, hlen_eq, bmps_eq]
def bmpB (g : Nat → Nat → Nat) (H : Heap) : Nat → List Blk → List Blk
  | _, [] => []
  | l, b :: r => ⟨b.c.bmp g H, g l b.ver⟩ :: bmpB g H (l + 1) r
theorem bmpB_len (g : Nat → Nat → Nat) (H : Heap) (l : Nat) (bs : List Blk) : (bmpB g H l bs).length = bs.length := by
  induction bs generalizing l with
  | nil => rfl
  | cons b r ih => simp [bmpB, ih]
theorem bmpB_at (g : Nat → Nat → Nat) (H : Heap) {l i : Nat} {bs : List Blk} {b : Blk} (h : bs[i]? = some b) : (bmpB g H l bs)[i]? = some ⟨b.c.bmp g H, g (l + i) b.ver⟩ := by
  induction bs generalizing l i with
  | nil => simp at h
  | cons x r ih =>
    cases i with
    | zero => simp at h; subst h; simp [bmpB]
    | succ i =>
      simp only [List.getElem?_cons_succ] at h
      simp only [bmpB, List.getElem?_cons_succ]
      rw [ih h]
      have : l + 1 + i = l + (i + 1) := by omega
      rw [this]

theorem VR.bmp [Fb : Forb] {ρ : List Nat} {H : Heap} {w : World} (g : Nat → Nat → Nat) {v : AVal} {c : Value} (h : VR ρ H w v c) : VR ρ (bmpB g H 0 H) w (v.bmp g H) c := by
  have hat : ∀ {l : Nat} {blk : Blk}, H[l]? = some blk → (bmpB g H 0 H)[l]? = some ⟨blk.c.bmp g H, g l blk.ver⟩ := fun hb => by
    have := bmpB_at g H (l := 0) hb
    rwa [Nat.zero_add] at this
  induction h with
  | top c => exact .top c
  | undef => exact .undef
  | bool b => exact .bool b
  | int k n => exact .int k n
  | flt k a b h => exact .flt k a b h
  | cpx k a b c d h h' => exact .cpx k a b c d h h'
  | str s => exact .str s
  | nils => exact .nils
  | emp a => exact .emp a
  | ro c len z a cap h0 h hm hl => exact .ro c len z a cap h0 h hm hl
  | own l off len ver z a cap h hm =>
    obtain ⟨blk, h1, h2, h3⟩ := h
    simp only [AVal.bmp, nth_eq, h1, eqN_eq]
    by_cases hv : ver = blk.ver
    · have e : (ver == blk.ver) = true := by simpa using hv
      simp only [e, cond_true]
      obtain ⟨b, cs, t, r1, r2, r3, r4, r5⟩ := h3 hv
      exact .own l off len _ z a cap ⟨_, hat h1, Nat.le_refl _, fun _ => ⟨b, cs, t, r1, r2, by simpa only [BC.bmp_len] using r3, r4, r5⟩⟩ hm
    · have e : (ver == blk.ver) = false := by simpa using hv
      simp only [e, cond_false]; exact .top _
  | rop c off p h => exact .rop c off p h
  | ptr l off ver a h =>
    obtain ⟨blk, h1, h2, h3⟩ := h
    simp only [AVal.bmp, nth_eq, h1, eqN_eq]
    by_cases hv : ver = blk.ver
    · have e : (ver == blk.ver) = true := by simpa using hv
      simp only [e, cond_true]
      obtain ⟨b, r1, r2⟩ := h3 hv
      exact .ptr l off _ a ⟨_, hat h1, Nat.le_refl _, fun _ => ⟨b, r1, r2⟩⟩
    · have e : (ver == blk.ver) = false := by simpa using hv
      simp only [e, cond_false]; exact .top _
  | rom vs off p cs hl hm _ ih =>
    simp only [AVal.bmp, bmps_eq]
    exact .rom _ off p cs (by simp [hl]) hm fun i v hi => by
      simp only [List.getElem?_map, Option.map_eq_some_iff] at hi
      obtain ⟨u, hu, rfl⟩ := hi
      exact ih i u hu
  | ros vs len z a cap cs hl h0 hm hc hz _ ih =>
    simp only [AVal.bmp, bmps_eq]
    exact .ros _ len z a cap cs (by simp [hl]) h0 hm hc (by simpa using hz) fun i v hi => by
      simp only [List.getElem?_map, Option.map_eq_some_iff] at hi
      obtain ⟨u, hu, rfl⟩ := hi
      exact ih i u hu
  | agg vs cs hl _ ih =>
    simp only [AVal.bmp, bmps_eq]
    exact .agg _ cs (by simp [hl]) fun i v hi => by
      simp only [List.getElem?_map, Option.map_eq_some_iff] at hi
      obtain ⟨u, hu, rfl⟩ := hi
      exact ih i u hu
  | tup vs cs hl _ ih =>
    simp only [AVal.bmp, bmps_eq]
    exact .tup _ cs (by simp [hl]) fun i v hi => by
      simp only [List.getElem?_map, Option.map_eq_some_iff] at hi
      obtain ⟨u, hu, rfl⟩ := hi
      exact ih i u hu
  | fn f vs cs hl _ ih =>
    simp only [AVal.bmp, bmps_eq]
    exact .fn f _ cs (by simp [hl]) fun i v hi => by
      simp only [List.getElem?_map, Option.map_eq_some_iff] at hi
      obtain ⟨u, hu, rfl⟩ := hi
      exact ih i u hu
  | nilf => exact .nilf
  | bun i c len x B he h => exact .bun i c len x B he h

theorem bmpB_inv {g : Nat → Nat → Nat} {H : Heap} {l : Nat} {blk : Blk} (h : (bmpB g H 0 H)[l]? = some blk) : ∃ b0, H[l]? = some b0 ∧ blk = ⟨b0.c.bmp g H, g l b0.ver⟩ := by
  have hl : l < H.length := by
    have := (List.getElem?_eq_some_iff.1 h).1
    rwa [bmpB_len] at this
  have := bmpB_at g H (l := 0) (List.getElem?_eq_getElem hl)
  rw [h, Nat.zero_add] at this
  exact ⟨_, List.getElem?_eq_getElem hl, by simpa using this⟩

theorem Sim.bmp [Fb : Forb] {ρ : List Nat} {H : Heap} {w : World} (g : Nat → Nat → Nat) (S : Sim ρ H w) : Sim ρ (bmpB g H 0 H) w := by
  refine ⟨by rw [bmpB_len]; exact S.len, S.nodup, S.forb, fun l b blk hl hb => ?_⟩
  obtain ⟨b0, h0, rfl⟩ := bmpB_inv hl
  obtain ⟨cs, e, h1, h2, h3⟩ := S.blk l b b0 h0 hb
  refine ⟨cs, e, h1, by simpa only [BC.bmp_len] using h2, fun i u hu => ?_⟩
  obtain ⟨bc, ver⟩ := b0
  cases bc with
  | typ c0 =>
    simp only [BC.bmp, BC.get?] at hu
    obtain ⟨x, hx, hvr⟩ := h3 i u hu
    have e2 : u.bmp g H = u := by
      cases c0 <;> simp only [Cont.get?] at hu <;> split at hu <;> simp only [Option.some.injEq, reduceCtorEq] at hu <;> subst hu <;> first | rfl | (rename_i f _; cases f <;> rfl)
    exact ⟨x, hx, e2 ▸ hvr.bmp g⟩
  | cells vs =>
    simp only [BC.bmp, BC.get?, nth_eq, bmps_eq, List.getElem?_map, Option.map_eq_some_iff] at hu
    obtain ⟨u0, hu0, rfl⟩ := hu
    obtain ⟨x, hx, hvr⟩ := h3 i u0 (by simpa [BC.get?, nth_eq] using hu0)
    exact ⟨x, hx, hvr.bmp g⟩

def reWok (g : Nat → Nat → Nat) (H' : Heap) (ks : List Nat) : Nat → List Blk → Bool
  | _, [] => true
  | l, b :: r => (match nth ks l with
    | some k => (match nth H' k with
      | some b' => (eqN k l && eqN (g k b'.ver) b'.ver) || ltN b.ver (g k b'.ver)
      | none => false)
    | none => false) && reWok g H' ks (l + 1) r
theorem reWok_get {g : Nat → Nat → Nat} {H' : Heap} {ks : List Nat} : ∀ {H : List Blk} {i : Nat}, reWok g H' ks i H = true → ∀ {l : Nat} {blk : Blk}, H[l]? = some blk →
    ∃ (k : Nat) (blk' : Blk), ks[i + l]? = some k ∧ H'[k]? = some blk' ∧ ((k = i + l ∧ g k blk'.ver = blk'.ver) ∨ blk.ver < g k blk'.ver) := by
  intro H
  induction H with
  | nil => intro i _ l blk h; simp at h
  | cons b r ih =>
    intro i h l blk hl
    simp only [reWok, Bool.and_eq_true] at h
    cases l with
    | zero =>
      simp at hl; subst hl
      obtain ⟨h1, _⟩ := h
      split at h1
      · rename_i k hk
        split at h1
        · rename_i b' hb
          rw [nth_eq] at hk hb
          refine ⟨k, b', hk, hb, ?_⟩
          simpa only [Bool.or_eq_true, Bool.and_eq_true, eqN_eq, ltN_eq, beq_iff_eq, decide_eq_true_eq, Nat.add_zero] using h1
        · cases h1
      · cases h1
    | succ l =>
      obtain ⟨k, blk', e1, e2, e3⟩ := ih h.2 (l := l) (by simpa using hl)
      have : i + 1 + l = i + (l + 1) := by omega
      rw [this] at e1 e3
      exact ⟨k, blk', e1, e2, e3⟩
theorem Mv.reW [Fb : Forb] {ρ ρ' : List Nat} {H H' : Heap} {w w' : World} {g : Nat → Nat → Nat} {ks : List Nat} (S : Sim ρ' H' w') (m : Mv ρ H w ρ' H' w') (hlt : ∀ k ∈ ks, k < H'.length) (hok : reWok g H' ks 0 H = true) :
    Mv ρ H w (reρ ρ' ks) (reB ks (bmpB g H' 0 H') ks) w' := by
  refine ⟨m.os, m.tape, m.output, m.size, fun b h1 h2 => ⟨(m.frame b h1 h2).1, fun hm => ?_⟩, fun l blk hl => ?_⟩
  · obtain ⟨k, _, hk⟩ := reρ_mem S hlt hm
    exact (m.frame b h1 h2).2 (List.mem_of_getElem? hk)
  · obtain ⟨k, blk', e1, e2, e3⟩ := reWok_get hok hl
    rw [Nat.zero_add] at e1 e3
    have hat := bmpB_at g H' (l := 0) e2
    rw [Nat.zero_add] at hat
    refine ⟨_, reB_at ks _ ks l k _ e1 hat, ?_, fun e => ?_⟩
    · rcases e3 with ⟨h1, h2⟩ | h2
      · subst h1
        obtain ⟨b1, q1, q2, _⟩ := m.keep k blk hl
        rw [e2] at q1
        obtain rfl : blk' = b1 := by simpa using q1
        simp only [h2]; exact q2
      · simp only []; omega
    · rcases e3 with ⟨h1, h2⟩ | h2
      · subst h1
        obtain ⟨b1, q1, q2, q3⟩ := m.keep k blk hl
        rw [e2] at q1
        obtain rfl : blk' = b1 := by simpa using q1
        simp only [h2] at e
        obtain ⟨r1, r2, r3⟩ := q3 e
        have l1 : k < ρ'.length := by rw [S.len]; exact (List.getElem?_eq_some_iff.1 e2).1
        refine ⟨?_, by simp only [BC.re_len, BC.bmp_len]; exact r2, r3⟩
        have : (reρ ρ' ks)[k]? = some ρ'[k] := reρ_at e1 (List.getElem?_eq_getElem l1)
        rw [this, ← r1, List.getElem?_eq_getElem l1]
      · simp only [] at e; omega
def reWR (ks : List Nat) (g : Nat → Nat → Nat) (R : List AVal → Heap → Option (Bool × AVal × Heap)) (args : List AVal) (H : Heap) : Option (Bool × AVal × Heap) :=
  match R args H with
  | some (b, v, H') => some (b && (nodupB ks && allLt (hlen H') ks && reWok g H' ks 0 H), (v.bmp g H').re ks (bmpB g H' 0 H'), reB ks (bmpB g H' 0 H') ks)
  | none => none
theorem EntWOk.reW {P : Program} {f : FuncId} {R : List AVal → Heap → Option (Bool × AVal × Heap)} (h1 : EntWOk P ⟨f, R⟩) (ks : List Nat) (g : Nat → Nat → Nat) : EntWOk P ⟨f, reWR ks g R⟩ := by
  refine ⟨h1.1, fun args H v H' h => ?_⟩
  simp only [Ab.reWR] at h
  split at h
  · rename_i b v0 H0 hr
    simp only [Option.some.injEq, Prod.mk.injEq, Bool.and_eq_true] at h
    obtain ⟨⟨hb, ⟨hn, hl⟩, hok⟩, rfl, rfl⟩ := h
    subst hb
    have hlt : ∀ k ∈ ks, k < H0.length := by have := allLt_spec hl; rwa [hlen_eq] at this
    have hlt2 : ∀ k ∈ ks, k < (bmpB g H0 0 H0).length := by rw [bmpB_len]; exact hlt
    intro Fb ρ w cargs S hv
    refine (h1.2 args H v0 H0 hr ρ w cargs S hv).mono fun e w' ⟨c, he, ρ', g1, g2, g3⟩ => ⟨c, he, reρ ρ' ks, ?_, ?_, ?_⟩
    · exact (g1.bmp g).re (g2.bmp g) hlt2
    · exact (g2.bmp g).re (nodupB_spec hn) hlt2
    · exact g3.reW g2 hlt hok
  · cases h
theorem EntWOk.cases {P : Program} {f : FuncId} {R R1 R2 : List AVal → Heap → Option (Bool × AVal × Heap)} (h1 : EntWOk P ⟨f, R1⟩) (h2 : EntWOk P ⟨f, R2⟩)
    (h : ∀ args H v H', R args H = some (true, v, H') → R1 args H = some (true, v, H') ∨ R2 args H = some (true, v, H')) : EntWOk P ⟨f, R⟩ :=
  ⟨h1.1, fun args H v H' hR => by
    rcases h args H v H' hR with h | h
    · exact h1.2 args H v H' h
    · exact h2.2 args H v H' h⟩

end Go.Proofs.Ythecninmmojkgaa.Ab
