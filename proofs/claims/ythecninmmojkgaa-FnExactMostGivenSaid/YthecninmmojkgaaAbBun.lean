/-
  The abstract machine: slices that are held as wholes ('bundles'): what makes them, what reads them, what writes into them.
-/
import Derived.Test.YthecninmmojkgaaAbReW
import Derived.Test.YthecninmmojkgaaAbLaw
namespace Go.Proofs.Ythecninmmojkgaa.Ab
open Go
set_option linter.unusedVariables false
set_option linter.unusedSimpArgs false

def AVal.mapB (g : Nat → Cont → Nat → AVal) : AVal → AVal
  | .bun i c len => g i c len
  | .rom vs off => .rom (mapBs g vs) off
  | .ros vs len z => .ros (mapBs g vs) len z
  | .agg vs => .agg (mapBs g vs)
  | .tup vs => .tup (mapBs g vs)
  | .fn f vs => .fn f (mapBs g vs)
  | v => v
where mapBs (g : Nat → Cont → Nat → AVal) : List AVal → List AVal
  | [] => []
  | v :: vs => v.mapB g :: mapBs g vs
theorem mapBs_eq (g : Nat → Cont → Nat → AVal) (vs : List AVal) : AVal.mapB.mapBs g vs = vs.map (AVal.mapB g) := by
  induction vs with
  | nil => rfl
  | cons v vs ih => simp [AVal.mapB.mapBs, ih]
def BC.mapB (g : Nat → Cont → Nat → AVal) : BC → BC
  | .typ c => .typ c
  | .cells vs => .cells (AVal.mapB.mapBs g vs)
theorem BC.mapB_len (g : Nat → Cont → Nat → AVal) (c : BC) : (c.mapB g).len = c.len := by
  cases c with
  | typ c => rfl
  | cells vs => simp [BC.mapB, BC.len, hlen_eq, mapBs_eq]
def mapBH (g : Nat → Cont → Nat → AVal) : Heap → Heap
  | [] => []
  | b :: r => ⟨b.c.mapB g, b.ver⟩ :: mapBH g r
theorem mapBH_eq (g : Nat → Cont → Nat → AVal) (H : Heap) : mapBH g H = H.map fun b => ⟨b.c.mapB g, b.ver⟩ := by
  induction H with
  | nil => rfl
  | cons b r ih => simp [mapBH, ih]
def mapBS (g : Nat → Cont → Nat → AVal) (s : State) : State := ⟨AVal.mapB.mapBs g s.t, mapBH g s.h⟩
/-- Nothing to read that is somebody else's. -/
def AVal.noRo : AVal → Bool
  | .ro .. => false
  | .rop .. => false
  | .rom .. => false
  | .ros .. => false
  | .agg vs => noRos vs
  | .tup vs => noRos vs
  | .fn _ vs => noRos vs
  | _ => true
where noRos : List AVal → Bool
  | [] => true
  | v :: vs => v.noRo && noRos vs
theorem noRos_get {vs : List AVal} (h : AVal.noRo.noRos vs = true) : ∀ (i : Nat) (v : AVal), vs[i]? = some v → v.noRo = true := by
  induction vs with
  | nil => intro i v hi; simp at hi
  | cons x r ih =>
    simp only [AVal.noRo.noRos, Bool.and_eq_true] at h
    intro i v hi
    cases i with
    | zero => simp at hi; subst hi; exact h.1
    | succ i => exact ih h.2 i v (by simpa using hi)
mutual
theorem mapB_id : ∀ v : AVal, v.mapB AVal.bun = v
  | .own .. => rfl
  | .ptr .. => rfl
  | .rom vs off => by simp only [AVal.mapB, mapBs_id vs]
  | .ros vs len z => by simp only [AVal.mapB, mapBs_id vs]
  | .agg vs => by simp only [AVal.mapB, mapBs_id vs]
  | .tup vs => by simp only [AVal.mapB, mapBs_id vs]
  | .fn g vs => by simp only [AVal.mapB, mapBs_id vs]
  | .top => rfl
  | .undef => rfl
  | .bool _ => rfl
  | .int _ _ => rfl
  | .flt _ _ => rfl
  | .cpx _ _ _ => rfl
  | .str _ => rfl
  | .nils => rfl
  | .emp => rfl
  | .ro _ _ _ => rfl
  | .rop _ _ => rfl
  | .nilf => rfl
  | .bun _ _ _ => rfl
theorem mapBs_id : ∀ vs : List AVal, AVal.mapB.mapBs AVal.bun vs = vs
  | [] => rfl
  | v :: vs => by simp only [AVal.mapB.mapBs, mapB_id v, mapBs_id vs]
end
mutual
theorem mapB_free (g : Nat → Cont → Nat → AVal) : ∀ v : AVal, v.free = true → v.mapB g = v
  | .own .., h => by cases h
  | .ptr .., h => by cases h
  | .bun .., h => by cases h
  | .rom vs off, h => by simp only [AVal.mapB]; rw [mapBs_free g vs h]
  | .ros vs len z, h => by simp only [AVal.mapB]; rw [mapBs_free g vs h]
  | .agg vs, h => by simp only [AVal.mapB]; rw [mapBs_free g vs h]
  | .tup vs, h => by simp only [AVal.mapB]; rw [mapBs_free g vs h]
  | .fn f vs, h => by simp only [AVal.mapB]; rw [mapBs_free g vs h]
  | .top, _ => rfl
  | .undef, _ => rfl
  | .bool _, _ => rfl
  | .int _ _, _ => rfl
  | .flt _ _, _ => rfl
  | .cpx _ _ _, _ => rfl
  | .str _, _ => rfl
  | .nils, _ => rfl
  | .emp, _ => rfl
  | .ro _ _ _, _ => rfl
  | .rop _ _, _ => rfl
  | .nilf, _ => rfl
theorem mapBs_free (g : Nat → Cont → Nat → AVal) : ∀ vs : List AVal, AVal.free.frees vs = true → AVal.mapB.mapBs g vs = vs
  | [], _ => rfl
  | v :: vs, h => by
    simp only [AVal.free.frees, Bool.and_eq_true] at h
    simp only [AVal.mapB.mapBs, mapB_free g v h.1, mapBs_free g vs h.2]
end

theorem CR.mono2 {F1 F2 : Forb} {ρ ρ' : List Nat} {w w' : World} (hs : ∀ b, @Stb F1 ρ w b → @Stb F2 ρ' w' b ∧ w'.heap[b]? = w.heap[b]?) {c : Cont} {off : Nat} {p : Addr} (h : @CR F1 ρ w c off p) : @CR F2 ρ' w' c off p := by
  have e : ∀ (q : Addr) i, @Stb F1 ρ w q.block → w'.cell? (q.add i) = w.cell? (q.add i) := fun q i h => cell?_of_heap (by rw [add_block]; exact (hs _ h).2)
  cases c with
  | ints k xs => intro i n hi; obtain ⟨h1, h2⟩ := h i n hi; exact ⟨(hs _ h1).1, (e p i h1).trans h2⟩
  | flts k xs => intro i n hi; obtain ⟨h1, n', h2, h3⟩ := h i n hi; exact ⟨(hs _ h1).1, n', (e p i h1).trans h2, h3⟩
  | cpxs k xs => intro i n hi; obtain ⟨h1, a, b, h2, h3⟩ := h i n hi; exact ⟨(hs _ h1).1, a, b, (e p i h1).trans h2, h3⟩
  | bools xs => intro i n hi; obtain ⟨h1, h2⟩ := h i n hi; exact ⟨(hs _ h1).1, (e p i h1).trans h2⟩
  | rows k xs =>
    intro i r hi
    obtain ⟨h1, a, cap, h2, h4, h3⟩ := h i r hi
    refine ⟨(hs _ h1).1, a, cap, (e p i h1).trans h2, h4, h3.1, fun q hq j n hj => ?_⟩
    obtain ⟨g1, g2⟩ := h3.2 q hq j n hj
    exact ⟨(hs _ g1).1, (e q j g1).trans g2⟩
  | recs sh fs =>
    intro i f hi
    obtain ⟨h1, v, h2, h3⟩ := h i f hi
    exact ⟨(hs _ h1).1, v, (e p i h1).trans h2, h3.map (fun b hb => (hs b hb).1) fun q i hq => e q i hq⟩
theorem BunR.cr {B ρ : List Nat} {w : World} {c : Cont} {cap : Nat} {a : Addr} (h : BunR B ρ w c cap a) : @CR noF ρ w c 0 a := by
  cases c with
  | ints k r =>
    obtain ⟨b, cs, e, rfl, _, h3, h4, _, h6⟩ := h
    intro i n hi
    rw [Nat.zero_add] at hi
    refine ⟨⟨heap_lt h4, h3, List.not_mem_nil⟩, ?_⟩
    rw [add_lit]
    simp [World.cell?, h4, h6 i n hi]
  | rows k xss =>
    obtain ⟨b, cs, e, bs, rfl, _, h3, h4, _, _, h7, h8⟩ := h
    intro i r hi
    rw [Nat.zero_add] at hi
    have hlt : i < bs.length := by rw [h7]; exact (List.getElem?_eq_some_iff.1 hi).1
    obtain ⟨_, g2, capj, csj, ej, g3, g4, g5, _, g7⟩ := h8 i r bs[i] hi (List.getElem?_eq_getElem hlt)
    refine ⟨⟨heap_lt h4, h3, List.not_mem_nil⟩, some ⟨bs[i], 0, none⟩, capj, ?_, g4, fun h => (by cases h), fun q hq j n hj => ?_⟩
    · rw [add_lit]
      simp [World.cell?, h4, g3]
    · simp only [Option.some.injEq] at hq
      subst hq
      refine ⟨⟨heap_lt g5, g2, List.not_mem_nil⟩, ?_⟩
      rw [add_lit]
      simp [World.cell?, g5, g7 j n hj]
  | _ => exact h.elim

theorem BunR.cr0 {B ρ : List Nat} {w : World} {c : Cont} {cap : Nat} {a : Addr} (h : BunR B ρ w c cap a) : @CR noF [] w c 0 a := (h.thin (ρ' := []) fun _ h => by cases h).cr
theorem VR.mapB {F1 F2 : Forb} {ρ ρ' : List Nat} {H H' : Heap} {w w' : World} (g : Nat → Cont → Nat → AVal)
    (hown : ∀ l off len ver z a cap, OwnR ρ H w l off len ver z a cap → OwnR ρ' H' w' l off len ver z a cap) (hptr : ∀ l off ver a, PtrR ρ H l off ver a → PtrR ρ' H' l off ver a)
    (hb : ∀ (i : Nat) (c : Cont) (len : Nat) (x : Value) (B : List Nat), F1.bun[i]? = some (x, B) → BunV B ρ w c len x → @VR F2 ρ' H' w' (g i c len) x)
    {v : AVal} {c : Value} (h : @VR F1 ρ H w v c) (hs : (∀ b, @Stb F1 ρ w b → @Stb F2 ρ' w' b ∧ w'.heap[b]? = w.heap[b]?) ∨ v.noRo = true) : @VR F2 ρ' H' w' (v.mapB g) c := by
  induction h with
  | top c => exact .top c
  | undef => exact .undef
  | bool b => exact .bool b
  | int k n => exact .int k n
  | flt k a b h => exact .flt k a b h
  | cpx k a b c d h h' => exact .cpx k a b c d h h'
  | str s => exact .str s
  | nils => exact .nils
  | emp a => exact .emp a
  | ro c len z a cap h0 h hm hl =>
    rcases hs with hs | hs
    · exact .ro c len z a cap h0 (fun p hp => (h p hp).mono2 hs) hm hl
    · cases hs
  | own l off len ver z a cap h hm => exact .own l off len ver z a cap (hown _ _ _ _ _ _ _ h) hm
  | rop c off p h =>
    rcases hs with hs | hs
    · exact .rop c off p (h.mono2 hs)
    · cases hs
  | rom vs off p cs hl hm _ ih =>
    rcases hs with hs | hs
    · simp only [AVal.mapB, mapBs_eq]
      refine .rom _ off p cs (by simp [hl]) (fun i x hx => ⟨(hs _ (hm i x hx).1).1, (cell?_of_heap (by rw [add_block]; exact (hs _ (hm i x hx).1).2)).trans (hm i x hx).2⟩) fun i v hi => ?_
      simp only [List.getElem?_map, Option.map_eq_some_iff] at hi
      obtain ⟨u, hu, rfl⟩ := hi
      exact ih i u hu (.inl hs)
    · cases hs
  | ros vs len z a cap cs hl h0 hm hc hz _ ih =>
    rcases hs with hs | hs
    · simp only [AVal.mapB, mapBs_eq]
      refine .ros _ len z a cap cs (by simp [hl]) h0 (fun p hp i x hx => ⟨(hs _ (hm p hp i x hx).1).1, (cell?_of_heap (by rw [add_block]; exact (hs _ (hm p hp i x hx).1).2)).trans (hm p hp i x hx).2⟩) hc (by simpa using hz) fun i v hi => ?_
      simp only [List.getElem?_map, Option.map_eq_some_iff] at hi
      obtain ⟨u, hu, rfl⟩ := hi
      exact ih i u hu (.inl hs)
    · cases hs
  | ptr l off ver a h => exact .ptr l off ver a (hptr _ _ _ _ h)
  | agg vs cs hl _ ih =>
    simp only [AVal.mapB, mapBs_eq]
    refine .agg _ cs (by simp [hl]) fun i v hi => ?_
    simp only [List.getElem?_map, Option.map_eq_some_iff] at hi
    obtain ⟨u, hu, rfl⟩ := hi
    exact ih i u hu (hs.imp id fun h => noRos_get h i u hu)
  | tup vs cs hl _ ih =>
    simp only [AVal.mapB, mapBs_eq]
    refine .tup _ cs (by simp [hl]) fun i v hi => ?_
    simp only [List.getElem?_map, Option.map_eq_some_iff] at hi
    obtain ⟨u, hu, rfl⟩ := hi
    exact ih i u hu (hs.imp id fun h => noRos_get h i u hu)
  | fn f vs cs hl _ ih =>
    simp only [AVal.mapB, mapBs_eq]
    refine .fn f _ cs (by simp [hl]) fun i v hi => ?_
    simp only [List.getElem?_map, Option.map_eq_some_iff] at hi
    obtain ⟨u, hu, rfl⟩ := hi
    exact ih i u hu (hs.imp id fun h => noRos_get h i u hu)
  | nilf => exact .nilf
  | bun i c len x B he h => exact hb i c len x B he h

/-! ### What is held is read by a call -/

def lentB : Nat → Cont → Nat → AVal := fun _ c len => match c with
  | .recs sh fs => .ro (.recs sh fs) len (lenN sh)
  | c => bif c.isMap then .top else .ro c len 1
theorem FldR.val {B ρ : List Nat} {w : World} {f : Fld} {v : Value} (h : FldR B ρ w f v) : @FldV noF [] w f v := by
  cases f with
  | num n => exact h
  | list xs =>
    obtain ⟨a, cap, rfl, h1, h2⟩ := h
    exact ⟨some a, cap, rfl, h2, fun h => by (cases h), fun q hq j n hj => by simp only [Option.some.injEq] at hq; subst hq; exact h1.cr0 j n (by rwa [Nat.zero_add])⟩
  | rows xs =>
    obtain ⟨a, cap, rfl, h1, h2⟩ := h
    exact ⟨some a, cap, rfl, h2, fun h => by (cases h), fun q hq j n hj => by simp only [Option.some.injEq] at hq; subst hq; exact h1.cr0 j n (by rwa [Nat.zero_add])⟩
theorem RecR.lent {B ρ : List Nat} {w : World} {sh : List Nat} {fs : List Fld} {len : Nat} {x : Value} (h : RecR B ρ w sh.length fs len x) : @VR noF [] [] w (.ro (.recs sh fs) len (lenN sh)) x := by
  rw [lenN_eq]
  obtain ⟨b, cap, cs, e, Bs, rfl, h2, h3, h4, h5, h6, h7, h8, h9, h10⟩ := h
  refine @VR.ro noF [] [] w (.recs sh fs) len sh.length (some ⟨b, 0, none⟩) cap (fun h => by cases h) (fun p hp i f hi => ?_) h2 h3
  simp only [Option.some.injEq] at hp
  subst hp
  rw [Nat.zero_add] at hi
  have hlt : i < fs.length := (List.getElem?_eq_some_iff.1 hi).1
  obtain ⟨_, v, g2, g3⟩ := h9 i f Bs[i] hi (List.getElem?_eq_getElem (by omega))
  refine ⟨⟨heap_lt h6, List.not_mem_nil, List.not_mem_nil⟩, v, ?_, g3.val⟩
  rw [add_lit]
  simp [World.cell?, h6, g2]
def AVal.unB (v : AVal) : AVal := v.mapB lentB
def lendU (H : Heap) (args : List AVal) : List AVal := AVal.mapB.mapBs lentB (lend0 H args)
theorem own_nil {w : World} {l off len ver z : Nat} {a : Addr} {cap : Nat} (h : OwnR [] [] w l off len ver z a cap) : False := by
  obtain ⟨blk, h1, _⟩ := h; simp at h1
theorem ptr_nil {l off ver : Nat} {a : Addr} (h : PtrR [] [] l off ver a) : False := by
  obtain ⟨blk, h1, _⟩ := h; simp at h1
theorem VR.unB {F2 : Forb} {w : World} {v : AVal} {c : Value} (h : @VR F2 [] [] w v c) : @VR noF [] [] w v.unB c :=
  VR.mapB (F1 := F2) (F2 := noF) _ (fun _ _ _ _ _ _ _ h => (own_nil h).elim) (fun _ _ _ _ h => (ptr_nil h).elim)
    (fun i c len x B _ h => by
      by_cases hr : c.isRec = true
      · rcases h with ⟨_, a, cap, _, h', _⟩ | ⟨hm, _⟩ | ⟨z, fs, rfl, h'⟩
        · cases c <;> first | (exact h'.elim) | (cases hr; done)
        · cases c <;> first | (cases hr; done) | (cases hm; done)
        · exact h'.lent
      have hr : c.isRec = false := by simpa using hr
      have el : lentB i c len = bif c.isMap then .top else .ro c len 1 := by cases c <;> first | rfl | (cases hr; done)
      rw [el]
      cases hc : c.isMap with
      | true => exact @VR.top noF [] [] w x
      | false =>
        obtain ⟨a, cap, rfl, h, hm, hl⟩ := h.slice hc hr
        exact @VR.ro noF [] [] w c len 1 (some a) cap (fun h => by cases h) (fun p hp => by simp only [Option.some.injEq] at hp; subst hp; exact h.cr) hm (by simpa using hl)) h
    (.inl fun b hb => ⟨⟨hb.1, hb.2.1, List.not_mem_nil⟩, rfl⟩)
theorem lendU_VRs {F2 : Forb} {ρ : List Nat} {H : Heap} {w : World} (S : @Sim F2 ρ H w) {args : List AVal} {cs : List Value} (h : @VRs F2 ρ H w args cs) : @VRs noF [] [] w (lendU H args) cs := by
  rw [lendU, mapBs_eq, lend0, mapL_eq]
  refine ⟨by simpa using h.1, fun i u x hu hx => ?_⟩
  simp only [List.getElem?_map, Option.map_eq_some_iff] at hu
  obtain ⟨u1, ⟨u0, hu0, rfl⟩, rfl⟩ := hu
  exact VR.unB (F2 := F2) (@VR.lentD F2 ρ H w 0 S dep3 u0 x (h.2 i u0 x hu0 hx))
theorem lendU_free (H : Heap) (args : List AVal) (h : AVal.free.frees args = true) : lendU H args = args := by
  rw [lendU, lend0_free H args h, mapBs_free _ args h]

def orcU (es : List Ent) : OrcK := fun f args H => match findE es f with
  | some R => match R (lendU H args) with
    | some (b, v, new) => some (b && (AVal.free.frees args || (v.clean && cleanB new)), v.shift (hlen H), .ext (shiftB (hlen H) new))
    | none => none
  | none => none
instance orcU_loc (es : List Ent) : OrcLoc (orcU es) := by
  refine ⟨?_⟩
  intro f args H H' b v h l hl hn
  unfold orcU at h
  split at h
  · split at h
    · simp at h
    · cases h
  · cases h
instance orcU_ren (es : List Ent) : OrcRen (orcU es) := by
  refine ⟨?_⟩
  intro f G H H2 r g args b v n h
  unfold orcU at h ⊢
  split at h
  · rename_i R hR
    rw [lendU, lend0_ren r args]
    rw [lendU] at h
    split at h
    · rename_i b1 v1 new hv
      simp only [Option.some.injEq, Prod.mk.injEq, Eff.ext.injEq] at h
      obtain ⟨rfl, rfl, rfl⟩ := h
      have hn : ∀ i, f (hlen H + i) = hlen H2 + i := by rw [hlen_eq, hlen_eq]; exact r.new
      simp only [shift_ren hn, shiftB_ren hn, ← rens_eq, frees_ren]
    · cases h
  · cases h
theorem ACalls.liftU {P : Program} {f : FuncId} {args : List AVal} {v : AVal} {new : List Blk} {H : Heap} (h : ACalls P f (lendU H args) [] v new)
    (hc : AVal.free.frees args = true ∨ (v.clean = true ∧ cleanB new = true)) : ACalls P f args H (v.shift H.length) (H ++ shiftB H.length new) := by
  rcases hc with hf | hc
  · refine ACalls.lift ?_ (.inl hf)
    rw [lendU_free H args hf] at h
    rw [lend0_free H args hf]; exact h
  · intro F2 ρ w cargs S hargs
    have S1 : @Sim noF [] [] w := @Sim.mk noF [] [] w rfl List.nodup_nil (fun b hb => by cases hb) (fun l b blk h => by simp at h)
    refine (@h noF [] w cargs S1 (lendU_VRs S hargs)).mono fun e w' ⟨c, he, hg⟩ => ⟨c, he, ?_⟩
    exact lift_G (F1 := noF) S hg (.inr hc)
theorem orcU_ok {P : Program} {es : List Ent} (h : ∀ e ∈ es, EntOk P e) : OrcOk P (orcU es).plain := by
  intro f args H v H' hh
  have find : ∀ (es : List Ent), (∀ e ∈ es, EntOk P e) → ∀ R, findE es f = some R → EntOk P ⟨f, R⟩ := by
    intro es
    induction es with
    | nil => intro _ R hR; cases hR
    | cons e r ih =>
      intro he R hR
      simp only [findE, eqN_eq] at hR
      cases hb : e.f == f with
      | true =>
        simp only [hb, cond_true, Option.some.injEq] at hR
        have hf : e.f = f := by simpa using hb
        subst hR hf
        exact he e List.mem_cons_self
      | false =>
        simp only [hb, cond_false] at hR
        exact ih (fun e' he' => he e' (List.mem_cons_of_mem _ he')) R hR
  simp only [OrcK.plain, orcU] at hh
  split at hh
  · rename_i b u e hr
    split at hr
    · rename_i R hR
      obtain ⟨h1, h2⟩ := find es h R hR
      split at hr
      · rename_i b0 v0 new hnew
        simp only [Option.some.injEq, Prod.mk.injEq] at hr
        obtain ⟨rfl, rfl, rfl⟩ := hr
        cases b0 with
        | false => simp at hh
        | true =>
          simp only [Bool.true_and] at hh
          cases hcl : AVal.free.frees args || (v0.clean && cleanB new) with
          | false => simp [hcl] at hh
          | true =>
            simp only [hcl, cond_true, Option.some.injEq, Prod.mk.injEq] at hh
            obtain ⟨rfl, hH⟩ := hh
            have hH' : H' = H ++ shiftB H.length new := by
              rw [← hH, hlen_eq]
              cases hs : shiftB H.length new with
              | nil => simp [Eff.heap]
              | cons b r => simp [Eff.heap, app_eq]
            rw [hH', hlen_eq]
            have hA : ACalls P f args H (v0.shift H.length) (H ++ shiftB H.length new) := ACalls.liftU (h2 _ _ _ hnew) (by simpa using hcl)
            exact .enter h1 hA
      · cases hr
    · cases hr
  · cases hh
def orcWU (ws : List EntW) (es : List Ent) : OrcK := fun f args H => match findW ws f with
  | some R => callW R args H (reachD H dep3 args [])
  | none => orcU es f args H
instance orcWU_loc (ws : List EntW) (es : List Ent) : OrcLoc (orcWU ws es) := by
  refine ⟨?_⟩
  intro f args H H' b v h l hl hn
  unfold orcWU at h
  split at h
  · exact callW_loc h hl hn
  · exact (orcU_loc es).loc h l hl hn
instance orcWU_ren (ws : List EntW) (es : List Ent) : OrcRen (orcWU ws es) := by
  refine ⟨?_⟩
  intro f G H H2 r g args b v n h
  unfold orcWU at h ⊢
  split at h
  · exfalso
    simp only [callW] at h
    split at h <;> simp at h
  · exact (orcU_ren es).ren r h
theorem orcWU_ok {P : Program} {ws : List EntW} {es : List Ent} (hw : ∀ e ∈ ws, EntWOk P e) (h : ∀ e ∈ es, EntOk P e) : OrcOk P (orcWU ws es).plain := by
  intro f args H v H' hh
  cases hfw : findW ws f with
  | none =>
    refine orcU_ok h f args H v H' ?_
    simp only [OrcK.plain, orcWU, hfw] at hh
    exact hh
  | some R =>
    refine orcW_ok (es := []) hw (fun e he => by cases he) f args H v H' ?_
    simp only [OrcK.plain, orcWU, hfw] at hh
    simp only [OrcK.plain, orcW, hfw]
    exact hh

/-! ### What is known of a frame and a world in which slices are held -/

/-- From 'w' to 'w'' no block that was there has changed, but those of 'X'. -/
structure MvX (X : List Nat) (w w' : World) : Prop where
  os : w'.os = w.os
  tape : w'.tape = w.tape
  output : w'.output = w.output
  size : w.heap.size ≤ w'.heap.size
  frame : ∀ b : Nat, b < w.heap.size → b ∉ X → w'.heap[b]? = w.heap[b]?
theorem MvX.refl (X : List Nat) (w : World) : MvX X w w := ⟨rfl, rfl, rfl, Nat.le_refl _, fun _ _ _ => rfl⟩
theorem MvX.then {X Y : List Nat} {w w1 w2 : World} (a : MvX X w w1) (b : MvX Y w1 w2) (h : ∀ y ∈ Y, w.heap.size ≤ y ∨ y ∈ X) : MvX X w w2 := by
  refine ⟨b.os.trans a.os, b.tape.trans a.tape, b.output.trans a.output, Nat.le_trans a.size b.size, fun x hx hn => ?_⟩
  refine (b.frame x (Nat.lt_of_lt_of_le hx a.size) fun hy => ?_).trans (a.frame x hx hn)
  rcases h x hy with h | h
  · omega
  · exact hn h
structure EnvOk (Fb : Forb) : Prop where
  sub : ∀ (i : Nat) (v : Value) (B : List Nat), Fb.bun[i]? = some (v, B) → ∀ b ∈ B, b ∈ Fb.l
  dis : ∀ (i j : Nat) (v v' : Value) (B B' : List Nat), i ≠ j → Fb.bun[i]? = some (v, B) → Fb.bun[j]? = some (v', B') → ∀ b ∈ B, b ∉ B'
/-- Slices that are held from the start: they stay what they are. -/
class Pin where
  l : List (Value × List Nat)
instance (priority := low) noPin : Pin := ⟨[]⟩
/-- What is known of the memory, with a value. -/
structure Kept [Pin] (X : List Nat) (w0 : World) (Fb : Forb) (ρ : List Nat) (m : Nat) (w : World) : Prop where
  env : EnvOk Fb
  len : Fb.bun.length = m
  mv : MvX X w0 w
  ow : ∀ b ∈ ρ, w0.heap.size ≤ b ∨ b ∈ X
  fb : ∀ b ∈ Fb.l, w0.heap.size ≤ b ∨ b ∈ X
  pin : Pin.l <+: Fb.bun
def RelX [Pin] (X : List Nat) (w0 : World) (s : State) (m : Nat) (a : Act) (w : World) : Prop :=
  ∃ (Fb : Forb) (ρ : List Nat), @TR Fb ρ s.h w s.t a.tmps ∧ @Sim Fb ρ s.h w ∧ Kept X w0 Fb ρ m w ∧ a.defers = []
def RelV [Pin] (X : List Nat) (w0 : World) (v : AVal) (H : Heap) (m : Nat) (c : Value) (w : World) : Prop :=
  ∃ (Fb : Forb) (ρ : List Nat), @VR Fb ρ H w v c ∧ @Sim Fb ρ H w ∧ Kept X w0 Fb ρ m w

theorem Kept.mv' [Pin] {X : List Nat} {w0 : World} {Fb : Forb} {ρ ρ' : List Nat} {H H' : Heap} {m : Nat} {w w' : World} (k : Kept X w0 Fb ρ m w) (M : Mv ρ H w ρ' H' w') : Kept X w0 Fb ρ' m w' := by
  refine ⟨k.env, k.len, k.mv.then (Y := ρ) ⟨M.os, M.tape, M.output, M.size, fun b h1 h2 => (M.frame b h1 h2).1⟩ k.ow, fun b hb => ?_, k.fb, k.pin⟩
  by_cases h1 : b < w.heap.size
  · by_cases h2 : b ∈ ρ
    · exact k.ow b h2
    · exact absurd hb (M.frame b h1 h2).2
  · have := k.mv.size; left; omega
theorem RelX.of_St [Pin] {X : List Nat} {w0 : World} {Fb : Forb} {ρ : List Nat} {H : Heap} {m : Nat} {w w' : World} {s1 : State} {a' : Act} (k : Kept X w0 Fb ρ m w) (h : @St Fb ρ H w s1 a' w') : RelX X w0 s1 m a' w' := by
  obtain ⟨⟨ρ', T, S, M⟩, hd⟩ := h
  exact ⟨Fb, ρ', T, S, k.mv' M, hd⟩

/-! ### Contracts -/

/-- What makes slices that are held. -/
structure KEnt where
  f : FuncId
  R : List AVal → Option (Bool × AVal × Nat)
def KOk (P : Program) (e : KEnt) : Prop := Enters P e.f ∧ ∀ args u n, e.R args = some (true, u, n) → ∀ (w : World) (cargs : Array Value), @VRs noF [] [] w args cargs.toList →
  Calls P e.f cargs w fun en w' => ∃ c, en = .returned c ∧ ∃ F1 : Forb, EnvOk F1 ∧ F1.bun.length = n ∧ (∀ b ∈ F1.l, w.heap.size ≤ b ∧ b < w'.heap.size) ∧ @VR F1 [] [] w' u c ∧ MvX [] w w'
/-- What writes into slices that are held. -/
structure MEnt where
  f : FuncId
  ix : AVal → List Nat
  R : AVal → Int → Option (Bool × Int)
def blksOf (Fb : Forb) (ix : List Nat) : List Nat := ix.flatMap fun i => match Fb.bun[i]? with
  | some (_, B) => B
  | none => []
theorem blksOf_mem {Fb : Forb} {ix : List Nat} {b : Nat} (h : b ∈ blksOf Fb ix) : ∃ i v B, i ∈ ix ∧ Fb.bun[i]? = some (v, B) ∧ b ∈ B := by
  unfold blksOf at h
  obtain ⟨i, h1, h2⟩ := List.mem_flatMap.1 h
  split at h2
  · rename_i v B hB; exact ⟨i, v, B, h1, hB, h2⟩
  · cases h2
def MOk (P : Program) (e : MEnt) : Prop := Enters P e.f ∧ ∀ x k r, e.R x k = some (true, r) → ∀ (Fb : Forb) (ρ : List Nat) (H : Heap) (w : World) (c : Value), @Sim Fb ρ H w → EnvOk Fb → @VR Fb ρ H w x c →
  Calls P e.f #[c, .int .i64 k] w fun en w' => en = .returned (.int .i64 r) ∧ MvX (blksOf Fb (e.ix x)) w w'
/-- What writes into a slice that is held, where it is known what it holds then: check, result, which one, its content and length. -/
structure GEnt where
  f : FuncId
  R : AVal → Int → Option (Bool × Int × Nat × Cont × Nat)
def GOk (P : Program) (e : GEnt) : Prop := Enters P e.f ∧ ∀ x k r i c' m, e.R x k = some (true, r, i, c', m) → ∀ (Fb : Forb) (ρ : List Nat) (H : Heap) (w : World) (c : Value), @Sim Fb ρ H w → EnvOk Fb → @VR Fb ρ H w x c →
  Calls P e.f #[c, .int .i64 k] w fun en w' => en = .returned (.int .i64 r) ∧ MvX (blksOf Fb [i]) w w' ∧ @VR Fb ρ H w' (.bun i c' m) c
structure XC where
  kk : List KEnt
  mw : List MEnt
  gw : List GEnt
structure XCok (P : Program) (C : XC) : Prop where
  kk : ∀ e ∈ C.kk, KOk P e
  mw : ∀ e ∈ C.mw, MOk P e
  gw : ∀ e ∈ C.gw, GOk P e
def findG : List GEnt → FuncId → Option GEnt
  | [], _ => none
  | e :: r, f => bif eqN e.f f then some e else findG r f
theorem findG_ok {P : Program} {f : FuncId} {e : GEnt} : ∀ {l : List GEnt}, (∀ e ∈ l, GOk P e) → findG l f = some e → GOk P e ∧ e.f = f
  | [], _, h => by cases h
  | x :: r, he, h => by
    simp only [findG, eqN_eq] at h
    cases hb : x.f == f with
    | true =>
      simp only [hb, cond_true, Option.some.injEq] at h
      have hf : x.f = f := by simpa using hb
      subst h
      exact ⟨he x List.mem_cons_self, hf⟩
    | false =>
      simp only [hb, cond_false] at h
      exact findG_ok (fun e' he' => he e' (List.mem_cons_of_mem _ he')) h
def findK : List KEnt → FuncId → Option (List AVal → Option (Bool × AVal × Nat))
  | [], _ => none
  | e :: r, f => bif eqN e.f f then some e.R else findK r f
def findM : List MEnt → FuncId → Option MEnt
  | [], _ => none
  | e :: r, f => bif eqN e.f f then some e else findM r f
theorem findK_ok {P : Program} {f : FuncId} {R : List AVal → Option (Bool × AVal × Nat)} : ∀ {l : List KEnt}, (∀ e ∈ l, KOk P e) → findK l f = some R → KOk P ⟨f, R⟩
  | [], _, h => by cases h
  | e :: r, he, h => by
    simp only [findK, eqN_eq] at h
    cases hb : e.f == f with
    | true =>
      simp only [hb, cond_true, Option.some.injEq] at h
      have hf : e.f = f := by simpa using hb
      subst h hf
      exact he e List.mem_cons_self
    | false =>
      simp only [hb, cond_false] at h
      exact findK_ok (fun e' he' => he e' (List.mem_cons_of_mem _ he')) h
theorem findM_ok {P : Program} {f : FuncId} {e : MEnt} : ∀ {l : List MEnt}, (∀ e ∈ l, MOk P e) → findM l f = some e → MOk P e ∧ e.f = f
  | [], _, h => by cases h
  | x :: r, he, h => by
    simp only [findM, eqN_eq] at h
    cases hb : x.f == f with
    | true =>
      simp only [hb, cond_true, Option.some.injEq] at h
      have hf : x.f = f := by simpa using hb
      subst h
      exact ⟨he x List.mem_cons_self, hf⟩
    | false =>
      simp only [hb, cond_false] at h
      exact findM_ok (fun e' he' => he e' (List.mem_cons_of_mem _ he')) h

def shI (m : Nat) : Nat → Cont → Nat → AVal := fun i c len => .bun (m + i) c len
def drp (ix : List Nat) : Nat → Cont → Nat → AVal := fun i c len => bif hasN ix i then .top else .bun i c len
def specX (C : XC) (s : State) (m : Nat) (o : Oper) : Option (Option (Bool × State × Nat)) :=
  match o.guard with
  | some _ => none
  | none => match o.op with
    | .call { callee := .value f, args, .. } => match s.ev f with
      | .fn g [] => match findK C.kk g with
        | some R => match R (lendU s.h (mapL s.ev args.toList)) with
          | some (b, u, n) => some (some (b && u.noRo, s.put o.dst (u.mapB (shI m)), m + n))
          | none => some none
        | none => match findM C.mw g with
          | some e => match mapL s.ev args.toList with
            | [x, .int .i64 k] => match e.R x k with
              | some (b, r) => some (some (b, (mapBS (drp (e.ix x)) s).put o.dst (.int .i64 r), m))
              | none => some none
            | _ => some none
          | none => none
      | _ => none
    | _ => none

theorem hasN_mem : ∀ {l : List Nat} {i : Nat}, hasN l i = false → i ∉ l
  | [], i, _ => List.not_mem_nil
  | j :: r, i, h => by
    simp only [hasN, eqN_eq, Bool.cond_eq_ite] at h
    split at h
    · cases h
    · rename_i hn
      have hn' : i ≠ j := by simpa using hn
      simp only [List.mem_cons, not_or]
      exact ⟨hn', hasN_mem h⟩

/-- The heap, when slices that are held come to be known, or are no longer known. -/
theorem Sim.mapB {F1 F2 : Forb} {ρ : List Nat} {H : Heap} {w w' : World} (g : Nat → Cont → Nat → AVal) (S : @Sim F1 ρ H w) (hsame : ∀ b ∈ ρ, w'.heap[b]? = w.heap[b]?) (hforb : ∀ b, b ∈ F2.l → b < w'.heap.size ∧ b ∉ ρ)
    (hb : ∀ (i : Nat) (c : Cont) (len : Nat) (x : Value) (B : List Nat), F1.bun[i]? = some (x, B) → BunV B ρ w c len x → @VR F2 ρ (mapBH g H) w' (g i c len) x)
    (hs : ∀ b, @Stb F1 ρ w b → @Stb F2 ρ w' b ∧ w'.heap[b]? = w.heap[b]?) :
    @Sim F2 ρ (mapBH g H) w' ∧ ∀ {v : AVal} {c : Value}, @VR F1 ρ H w v c → @VR F2 ρ (mapBH g H) w' (v.mapB g) c := by
  have hat : ∀ {l : Nat} {blk : Blk}, H[l]? = some blk → (mapBH g H)[l]? = some ⟨blk.c.mapB g, blk.ver⟩ := fun h => by rw [mapBH_eq, List.getElem?_map, h]; rfl
  have hown : ∀ l off len ver z a cap, OwnR ρ H w l off len ver z a cap → OwnR ρ (mapBH g H) w' l off len ver z a cap := by
    intro l off len ver z a cap ⟨blk, h1, h2, h3⟩
    refine ⟨_, hat h1, h2, fun e => ?_⟩
    obtain ⟨b, cs, t, r1, r2, r3, r4, r5⟩ := h3 e
    exact ⟨b, cs, t, r1, r2, by simpa only [BC.mapB_len] using r3, (hsame b (List.mem_of_getElem? r1)).trans r4, r5⟩
  have hptr : ∀ l off ver a, PtrR ρ H l off ver a → PtrR ρ (mapBH g H) l off ver a := by
    intro l off ver a ⟨blk, h1, h2, h3⟩
    exact ⟨_, hat h1, h2, h3⟩
  have conv : ∀ {v : AVal} {c : Value}, @VR F1 ρ H w v c → @VR F2 ρ (mapBH g H) w' (v.mapB g) c := fun h => VR.mapB g hown hptr hb h (.inl hs)
  refine ⟨@Sim.mk F2 ρ (mapBH g H) w' (by rw [mapBH_eq, List.length_map]; exact @Sim.len F1 _ _ _ S) (@Sim.nodup F1 _ _ _ S) hforb (fun l b blk hl hbl => ?_), conv⟩
  rw [mapBH_eq, List.getElem?_map, Option.map_eq_some_iff] at hl
  obtain ⟨blk0, hl0, rfl⟩ := hl
  obtain ⟨cs, e, h1, h2, h3⟩ := @Sim.blk F1 _ _ _ S l b blk0 hl0 hbl
  refine ⟨cs, e, (hsame b (List.mem_of_getElem? hbl)).trans h1, by simpa only [BC.mapB_len] using h2, fun i u hu => ?_⟩
  obtain ⟨bc, ver⟩ := blk0
  cases bc with
  | typ c0 =>
    simp only [BC.mapB, BC.get?] at hu
    obtain ⟨x, hx, hvr⟩ := h3 i u hu
    have e2 : u.mapB g = u := by
      cases c0 <;> simp only [Cont.get?] at hu <;> split at hu <;> simp only [Option.some.injEq, reduceCtorEq] at hu <;> subst hu <;> first | rfl | (rename_i f _; cases f <;> rfl)
    exact ⟨x, hx, e2 ▸ conv hvr⟩
  | cells vs =>
    simp only [BC.mapB, BC.get?, nth_eq, mapBs_eq, List.getElem?_map, Option.map_eq_some_iff] at hu
    obtain ⟨u0, hu0, rfl⟩ := hu
    obtain ⟨x, hx, hvr⟩ := h3 i u0 (by simpa [BC.get?, nth_eq] using hu0)
    exact ⟨x, hx, conv hvr⟩

theorem callee_run {P : Program} {a : Act} {w : World} {o : Oper} {f : Operand} {args : Array Operand} {ts : Array TypeId} {g : FuncId} (hop : o.op = .call { callee := .value f, args := args, argTypes := ts }) (hf : a.eval f = .func (.func g) #[] #[]) (he : Enters P g) :
    (execOp a.eval o).run P w = .ok (.enter g (args.map a.eval)) w := by
  obtain ⟨dst, op, ty, pos, after, guard⟩ := o
  simp only [] at hop
  subst hop
  obtain ⟨fn, e1, e2, e3⟩ := he
  have e2' : ¬ fn.body = none := by intro hb; simp [hb] at e2
  have e3' : ¬ fn.name = "runtime.NumGoroutine" := by simpa using e3
  simp [execOp, resolve, hf, Deferred.ofValue, invoke, callFunc, program, Sem.run, e1, e2', e3']

end Go.Proofs.Ythecninmmojkgaa.Ab
