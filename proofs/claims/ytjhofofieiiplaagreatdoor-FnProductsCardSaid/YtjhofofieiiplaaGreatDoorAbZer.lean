/-
  The abstract machine: versions of blocks begin anew at loops' heads and at the end.
-/
import Derived.Test.YtjhofofieiiplaaGreatDoorAbLend
namespace Go.Proofs.YtjhofofieiiplaaGreatDoor.Ab
open Go
set_option linter.unusedVariables false
set_option linter.unusedSimpArgs false

def cap1 : Nat → Nat
  | 0 => 0
  | _ + 1 => 1
/-- The version that a block gets: 'n' blocks came in. -/
def nver (n l ver : Nat) : Nat := bif ltN l n then cap1 ver else 0
def AVal.zer (n : Nat) (H : Heap) : AVal → AVal
  | .own l off len ver z => match nth H l with
    | some blk => bif eqN ver blk.ver then .own l off len (nver n l blk.ver) z else .top
    | none => .top
  | .ptr l off ver => match nth H l with
    | some blk => bif eqN ver blk.ver then .ptr l off (nver n l blk.ver) else .top
    | none => .top
  | .rom vs off => .rom (zers n H vs) off
  | .ros vs len z => .ros (zers n H vs) len z
  | .agg vs => .agg (zers n H vs)
  | .tup vs => .tup (zers n H vs)
  | .fn f vs => .fn f (zers n H vs)
  | v => v
  where zers (n : Nat) (H : Heap) : List AVal → List AVal
  | [] => []
  | v :: vs => v.zer n H :: zers n H vs
theorem zers_eq (n : Nat) (H : Heap) (vs : List AVal) : AVal.zer.zers n H vs = vs.map (AVal.zer n H) := by
  induction vs with
  | nil => rfl
  | cons v vs ih => simp [AVal.zer.zers, ih]
def BC.zer (n : Nat) (H : Heap) : BC → BC
  | .typ c => .typ c
  | .cells vs => .cells (AVal.zer.zers n H vs)
theorem BC.zer_len (n : Nat) (H : Heap) (c : BC) : (c.zer n H).len = c.len := by
  cases c with
  | typ c => rfl
  | cells vs => simp [BC.zer, BC.len, hlen_eq, zers_eq]
def zerB (n : Nat) (H : Heap) : Nat → List Blk → List Blk
  | _, [] => []
  | l, b :: r => ⟨b.c.zer n H, nver n l b.ver⟩ :: zerB n H (l + 1) r
theorem zerB_len (n : Nat) (H : Heap) (l : Nat) (bs : List Blk) : (zerB n H l bs).length = bs.length := by
  induction bs generalizing l with
  | nil => rfl
  | cons b r ih => simp [zerB, ih]
theorem zerB_at (n : Nat) (H : Heap) {l i : Nat} {bs : List Blk} {b : Blk} (h : bs[i]? = some b) : (zerB n H l bs)[i]? = some ⟨b.c.zer n H, nver n (l + i) b.ver⟩ := by
  induction bs generalizing l i with
  | nil => simp at h
  | cons x r ih =>
    cases i with
    | zero => simp at h; subst h; simp [zerB]
    | succ i =>
      simp only [List.getElem?_cons_succ] at h
      simp only [zerB, List.getElem?_cons_succ]
      rw [ih h]
      have : l + 1 + i = l + (i + 1) := by omega
      rw [this]

theorem VR.zer [Fb : Forb] {ρ : List Nat} {H : Heap} {w : World} (n : Nat) {v : AVal} {c : Value} (h : VR ρ H w v c) : VR ρ (zerB n H 0 H) w (v.zer n H) c := by
  have hat : ∀ {l : Nat} {blk : Blk}, H[l]? = some blk → (zerB n H 0 H)[l]? = some ⟨blk.c.zer n H, nver n l blk.ver⟩ := fun hb => by
    have := zerB_at n H (l := 0) hb
    rwa [Nat.zero_add] at this
  induction h with
  | top c => exact .top c
  | undef => exact .undef
  | bool b => exact .bool b
  | int k n => exact .int k n
  | flt k a b h => exact .flt k a b h
  | cpx k a b c d h h' => exact .cpx k a b c d h h'
  | str s => exact .str s
  | nils => exact .nils
  | emp a => exact .emp a
  | ro c len z a cap h0 h hm hl => exact .ro c len z a cap h0 h hm hl
  | own l off len ver z a cap h hm =>
    obtain ⟨blk, h1, h2, h3⟩ := h
    simp only [AVal.zer, nth_eq, h1, eqN_eq]
    by_cases hv : ver = blk.ver
    · have e : (ver == blk.ver) = true := by simpa using hv
      simp only [e, cond_true]
      obtain ⟨b, cs, t, r1, r2, r3, r4, r5⟩ := h3 hv
      exact .own l off len _ z a cap ⟨_, hat h1, Nat.le_refl _, fun _ => ⟨b, cs, t, r1, r2, by simpa only [BC.zer_len] using r3, r4, r5⟩⟩ hm
    · have e : (ver == blk.ver) = false := by simpa using hv
      simp only [e, cond_false]; exact .top _
  | rop c off p h => exact .rop c off p h
  | ptr l off ver a h =>
    obtain ⟨blk, h1, h2, h3⟩ := h
    simp only [AVal.zer, nth_eq, h1, eqN_eq]
    by_cases hv : ver = blk.ver
    · have e : (ver == blk.ver) = true := by simpa using hv
      simp only [e, cond_true]
      obtain ⟨b, r1, r2⟩ := h3 hv
      exact .ptr l off _ a ⟨_, hat h1, Nat.le_refl _, fun _ => ⟨b, r1, r2⟩⟩
    · have e : (ver == blk.ver) = false := by simpa using hv
      simp only [e, cond_false]; exact .top _
  | rom vs off p cs hl hm _ ih =>
    simp only [AVal.zer, zers_eq]
    exact .rom _ off p cs (by simp [hl]) hm fun i v hi => by
      simp only [List.getElem?_map, Option.map_eq_some_iff] at hi
      obtain ⟨u, hu, rfl⟩ := hi
      exact ih i u hu
  | ros vs len z a cap cs hl h0 hm hc hz _ ih =>
    simp only [AVal.zer, zers_eq]
    exact .ros _ len z a cap cs (by simp [hl]) h0 hm hc (by simpa using hz) fun i v hi => by
      simp only [List.getElem?_map, Option.map_eq_some_iff] at hi
      obtain ⟨u, hu, rfl⟩ := hi
      exact ih i u hu
  | agg vs cs hl _ ih =>
    simp only [AVal.zer, zers_eq]
    exact .agg _ cs (by simp [hl]) fun i v hi => by
      simp only [List.getElem?_map, Option.map_eq_some_iff] at hi
      obtain ⟨u, hu, rfl⟩ := hi
      exact ih i u hu
  | tup vs cs hl _ ih =>
    simp only [AVal.zer, zers_eq]
    exact .tup _ cs (by simp [hl]) fun i v hi => by
      simp only [List.getElem?_map, Option.map_eq_some_iff] at hi
      obtain ⟨u, hu, rfl⟩ := hi
      exact ih i u hu
  | fn f vs cs hl _ ih =>
    simp only [AVal.zer, zers_eq]
    exact .fn f _ cs (by simp [hl]) fun i v hi => by
      simp only [List.getElem?_map, Option.map_eq_some_iff] at hi
      obtain ⟨u, hu, rfl⟩ := hi
      exact ih i u hu
  | nilf => exact .nilf
  | nili => exact .nili
  | fex k b => exact .fex k b
  | bun i c len x B he h => exact .bun i c len x B he h

theorem zerB_inv {n : Nat} {H : Heap} {l : Nat} {blk : Blk} (h : (zerB n H 0 H)[l]? = some blk) : ∃ b0, H[l]? = some b0 ∧ blk = ⟨b0.c.zer n H, nver n l b0.ver⟩ := by
  have hl : l < H.length := by
    have := (List.getElem?_eq_some_iff.1 h).1
    rwa [zerB_len] at this
  have := zerB_at n H (l := 0) (List.getElem?_eq_getElem hl)
  rw [h, Nat.zero_add] at this
  exact ⟨_, List.getElem?_eq_getElem hl, by simpa using this⟩

theorem Sim.zer [Fb : Forb] {ρ : List Nat} {H : Heap} {w : World} (n : Nat) (S : Sim ρ H w) : Sim ρ (zerB n H 0 H) w := by
  refine ⟨by rw [zerB_len]; exact S.len, S.nodup, S.forb, fun l b blk hl hb => ?_⟩
  obtain ⟨b0, h0, rfl⟩ := zerB_inv hl
  obtain ⟨cs, e, h1, h2, h3⟩ := S.blk l b b0 h0 hb
  refine ⟨cs, e, h1, by simpa only [BC.zer_len] using h2, fun i u hu => ?_⟩
  obtain ⟨bc, ver⟩ := b0
  cases bc with
  | typ c0 =>
    simp only [BC.zer, BC.get?] at hu
    obtain ⟨x, hx, hvr⟩ := h3 i u hu
    have e2 : u.zer n H = u := by
      cases c0 <;> simp only [Cont.get?] at hu <;> split at hu <;> simp only [Option.some.injEq, reduceCtorEq] at hu <;> subst hu <;> first | rfl | (rename_i f _; cases f <;> rfl)
    exact ⟨x, hx, e2 ▸ hvr.zer n⟩
  | cells vs =>
    simp only [BC.zer, BC.get?, nth_eq, zers_eq, List.getElem?_map, Option.map_eq_some_iff] at hu
    obtain ⟨u0, hu0, rfl⟩ := hu
    obtain ⟨x, hx, hvr⟩ := h3 i u0 (by simpa [BC.get?, nth_eq] using hu0)
    exact ⟨x, hx, hvr.zer n⟩

def allZ : List Blk → Bool
  | [] => true
  | b :: r => eqN b.ver 0 && allZ r
theorem allZ_get {H : List Blk} (h : allZ H = true) {l : Nat} {blk : Blk} (hl : H[l]? = some blk) : blk.ver = 0 := by
  induction H generalizing l with
  | nil => simp at hl
  | cons b r ih =>
    simp only [allZ, Bool.and_eq_true, eqN_eq, beq_iff_eq] at h
    cases l with
    | zero => simp at hl; subst hl; exact h.1
    | succ l => exact ih h.2 (by simpa using hl)
theorem Mv.zer {ρ0 ρ : List Nat} {H0 H : Heap} {w0 w : World} (hz : allZ H0 = true) (m : Mv ρ0 H0 w0 ρ H w) : Mv ρ0 H0 w0 ρ (zerB H0.length H 0 H) w := by
  refine ⟨m.os, m.tape, m.output, m.size, m.frame, fun l blk hl => ?_⟩
  obtain ⟨blk', h1, h2, h3⟩ := m.keep l blk hl
  have e0 := allZ_get hz hl
  have hlt := (List.getElem?_eq_some_iff.1 hl).1
  have hat := zerB_at H0.length H (l := 0) h1
  rw [Nat.zero_add] at hat
  refine ⟨_, hat, by simp only []; omega, fun e => ?_⟩
  have e1 : blk'.ver = 0 := by
    simp only [nver, ltN_eq, hlt, decide_true, cond_true, e0] at e
    cases hv : blk'.ver with
    | zero => rfl
    | succ k => rw [hv] at e; cases e
  obtain ⟨r1, r2, r3⟩ := h3 (by omega)
  exact ⟨r1, by simpa only [BC.zer_len] using r2, r3⟩
theorem TR.zer [Fb : Forb] {ρ : List Nat} {H : Heap} {w : World} {t : List AVal} {a : Array Value} (n : Nat) (h : TR ρ H w t a) : TR ρ (zerB n H 0 H) w (AVal.zer.zers n H t) a := by
  rw [zers_eq]
  refine ⟨by simp [h.1], fun i v hv => ?_, h.gl⟩
  simp only [List.getElem?_map, Option.map_eq_some_iff] at hv
  obtain ⟨u, hu, rfl⟩ := hv
  exact (h.2 i u hu).zer n

end Go.Proofs.YtjhofofieiiplaaGreatDoor.Ab
