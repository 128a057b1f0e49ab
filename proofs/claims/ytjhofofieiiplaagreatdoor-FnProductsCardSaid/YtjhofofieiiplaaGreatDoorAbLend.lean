/-
  The abstract machine: what is owned is lent to a call, or laid down to be read alone.
-/
import Derived.Test.YtjhofofieiiplaaGreatDoorAbHeap
namespace Go.Proofs.YtjhofofieiiplaaGreatDoor.Ab
open Go
set_option linter.unusedVariables false
set_option linter.unusedSimpArgs false

def ltN : Nat → Nat → Bool
  | _, 0 => false
  | 0, _ + 1 => true
  | l + 1, n + 1 => ltN l n
theorem ltN_eq (l n : Nat) : ltN l n = decide (l < n) := by
  induction n generalizing l with
  | zero => simp [ltN]
  | succ n ih => cases l with
    | zero => simp [ltN]
    | succ l => simp [ltN, ih]

def Cont.fromC (c : Cont) : Nat → Cont
  | 0 => c
  | n + 1 => c.drop (n + 1)
/-- What is owned in the blocks from 'n' on becomes something to read; what can't be read so is forgotten. -/
def AVal.lent (n : Nat) (H : Heap) : AVal → AVal
  | .own l off len ver z => bif ltN l n then .own l off len ver z else match nth H l with
    | some ⟨.typ c, ver'⟩ => bif eqN ver ver' then .ro (c.fromC off) len z else .top
    | _ => .top
  | .ptr l off ver => bif ltN l n then .ptr l off ver else match nth H l with
    | some ⟨.typ c, ver'⟩ => bif eqN ver ver' then .rop c off else .top
    | _ => .top
  | .rom vs off => .rom (lents n H vs) off
  | .ros vs len z => .ros (lents n H vs) len z
  | .agg vs => .agg (lents n H vs)
  | .tup vs => .tup (lents n H vs)
  | .fn f vs => .fn f (lents n H vs)
  | v => v
  where lents (n : Nat) (H : Heap) : List AVal → List AVal
  | [] => []
  | v :: vs => v.lent n H :: lents n H vs
theorem lents_eq (n : Nat) (H : Heap) (vs : List AVal) : AVal.lent.lents n H vs = vs.map (AVal.lent n H) := by
  induction vs with
  | nil => rfl
  | cons v vs ih => simp [AVal.lent.lents, ih]

theorem block_CR [Fb : Forb] {ρ ρ' : List Nat} {H : Heap} {w : World} (S : Sim ρ H w) (K : Keeps ρ w ρ' w) {c : Cont} {ver l b : Nat} (hH : H[l]? = some ⟨.typ c, ver⟩) (hb : ρ[l]? = some b) (hs : b ∉ ρ') (off : Nat) :
    CR ρ' w c off ⟨b, off, none⟩ := by
  obtain ⟨cs, e, hc, hbr⟩ := S.blk l b _ hH hb
  have hst : Stb ρ' w b := ⟨heap_lt hc, hs, fun hF => (S.forb b hF).2 (List.mem_of_getElem? hb)⟩
  have get : ∀ (i : Nat) (v : AVal), c.get? (off + i) = some v → ∃ x, w.cell? ((⟨b, off, none⟩ : Addr).add i) = some x ∧ VR ρ H w v x := by
    intro i v hv
    obtain ⟨x, hx, hvr⟩ := hbr.2 (off + i) v hv
    refine ⟨x, ?_, hvr⟩
    rw [add_lit]
    simp [World.cell?, hc, hx]
  cases c with
  | ints k xs =>
    intro i n hi
    obtain ⟨x, hx, hv⟩ := get i (.int k n) (by simp [Cont.get?, hi])
    cases hv; exact ⟨hst, hx⟩
  | flts k xs =>
    intro i n hi
    obtain ⟨x, hx, hv⟩ := get i (.flt k n) (by simp [Cont.get?, hi])
    cases hv; rename_i n' h'; exact ⟨hst, n', hx, h'⟩
  | cpxs k xs =>
    intro i n hi
    obtain ⟨x, hx, hv⟩ := get i (.cpx k n.1 n.2) (by simp [Cont.get?, hi])
    cases hv; rename_i a b' h1 h2; exact ⟨hst, a, b', hx, h1, h2⟩
  | bools xs =>
    intro i n hi
    obtain ⟨x, hx, hv⟩ := get i (.bool n) (by simp [Cont.get?, hi])
    cases hv; exact ⟨hst, hx⟩
  | strs xs =>
    intro i n hi
    obtain ⟨x, hx, hv⟩ := get i (.str n) (by simp [Cont.get?, hi])
    cases hv; exact ⟨hst, hx⟩
  | rows k xs =>
    intro i r hi
    obtain ⟨x, hx, hv⟩ := get i (.ro (.ints k r) r.length 1) (by simp [Cont.get?, hi])
    cases hv
    rename_i a cap h h0 hm hl
    refine ⟨hst, a, cap, hx, hm, ⟨h0, fun q hq j n hj => ?_⟩⟩
    have := (h q hq).mono K j n (by simpa using hj)
    exact this
  | recs sh fs =>
    intro i f hi
    obtain ⟨x, hx, hv⟩ := get i f.lent (by simp [Cont.get?, hi])
    refine ⟨hst, x, hx, ?_⟩
    cases f with
    | num n => cases hv; rfl
    | list xs =>
      cases hv
      rename_i a cap h h0 hm hl
      exact ⟨a, cap, rfl, hm, h0, fun q hq j n hj => (h q hq).mono K j n (by simpa using hj)⟩
    | rows xs =>
      cases hv
      rename_i a cap h h0 hm hl
      exact ⟨a, cap, rfl, hm, h0, fun q hq j n hj => (h q hq).mono K j n (by simpa using hj)⟩

theorem CR.fromC [Fb : Forb] {ρ : List Nat} {w : World} {c : Cont} {off : Nat} {p : Addr} (h : CR ρ w c off p) : CR ρ w (c.fromC off) 0 p := by
  cases off with
  | zero => exact h
  | succ off => cases c <;> (intro i n hi; simp only [Cont.fromC, Cont.drop, List.getElem?_drop, Nat.zero_add] at hi; exact h i n hi)

theorem VR.lent [Fb : Forb] {ρ : List Nat} {H : Heap} {w : World} {v : AVal} {c : Value} (n : Nat) (S : Sim ρ H w) (h : VR ρ H w v c) : VR (ρ.take n) (H.take n) w (v.lent n H) c := by
  have K : Keeps ρ w (ρ.take n) w := fun b ⟨h1, h2, h3⟩ => ⟨⟨h1, fun hm => h2 (List.mem_of_mem_take hm), h3⟩, rfl⟩
  have ht : ∀ {l : Nat} {b : Nat}, l < n → ρ[l]? = some b → (ρ.take n)[l]? = some b := fun hl hb => by rw [List.getElem?_take, if_pos hl]; exact hb
  have out : ∀ {l b : Nat}, ¬ l < n → ρ[l]? = some b → b ∉ ρ.take n := by
    intro l b hl hb hm
    obtain ⟨i, hi⟩ := List.getElem?_of_mem hm
    rw [List.getElem?_take] at hi
    split at hi
    · rename_i hin
      have hlen : i < ρ.length := (List.getElem?_eq_some_iff.1 hi).1
      have := (List.getElem?_inj hlen S.nodup).1 (hi.trans hb.symm)
      omega
    · cases hi
  induction h with
  | top c => exact .top c
  | undef => exact .undef
  | bool b => exact .bool b
  | int k n => exact .int k n
  | flt k a b h => exact .flt k a b h
  | cpx k a b c d h h' => exact .cpx k a b c d h h'
  | str s => exact .str s
  | nils => exact .nils
  | emp a => exact .emp a
  | ro c len z a cap h0 h hm hl => exact .ro c len z a cap h0 (fun p hp => (h p hp).mono K) hm hl
  | own l off len ver z a cap h hm =>
    simp only [AVal.lent, ltN_eq, Bool.cond_decide, nth_eq, eqN_eq]
    split
    · rename_i hl
      obtain ⟨blk, h1, h2, h3⟩ := h
      refine .own l off len ver z a cap ⟨blk, by rw [List.getElem?_take, if_pos hl]; exact h1, h2, fun e => ?_⟩ hm
      obtain ⟨b, cs, t, r1, r⟩ := h3 e
      exact ⟨b, cs, t, ht hl r1, r⟩
    · rename_i hl
      split
      · rename_i c0 ver' hH
        by_cases hv : ver = ver'
        · subst hv
          simp only [beq_self_eq_true, cond_true]
          obtain ⟨blk, h1, h2, h3⟩ := h
          rw [hH] at h1
          simp only [Option.some.injEq] at h1; subst h1
          obtain ⟨b, cs, t, r1, rfl, r3, r4, r5⟩ := h3 rfl
          refine .ro _ len z (some ⟨b, off, none⟩) cap (fun h => by cases h) (fun p hp => ?_) hm ?_
          · simp only [Option.some.injEq] at hp; subst hp
            exact CR.fromC (block_CR S K hH r1 (out hl r1) off)
          · simp only [BC.len] at r3
            cases off with
            | zero => simpa [Cont.fromC] using r3
            | succ off => simp only [Cont.fromC]; rw [Cont.len_drop]; omega
        · have : (ver == ver') = false := by simpa using hv
          simp only [this, cond_false]; exact .top _
      · exact .top _
  | rop c off p h => exact .rop c off p (h.mono K)
  | ptr l off ver a h =>
    simp only [AVal.lent, ltN_eq, Bool.cond_decide, nth_eq, eqN_eq]
    split
    · rename_i hl
      obtain ⟨blk, h1, h2, h3⟩ := h
      refine .ptr l off ver a ⟨blk, by rw [List.getElem?_take, if_pos hl]; exact h1, h2, fun e => ?_⟩
      obtain ⟨b, r1, r⟩ := h3 e
      exact ⟨b, ht hl r1, r⟩
    · rename_i hl
      split
      · rename_i c0 ver' hH
        by_cases hv : ver = ver'
        · subst hv
          simp only [beq_self_eq_true, cond_true]
          obtain ⟨blk, h1, h2, h3⟩ := h
          rw [hH] at h1
          simp only [Option.some.injEq] at h1; subst h1
          obtain ⟨b, r1, rfl⟩ := h3 rfl
          exact .rop c0 off _ (block_CR S K hH r1 (out hl r1) off)
        · have : (ver == ver') = false := by simpa using hv
          simp only [this, cond_false]; exact .top _
      · exact .top _
  | rom vs off p cs hl hm _ ih =>
    simp only [AVal.lent, lents_eq]
    exact .rom _ off p cs (by simp [hl]) (fun i x hx => ⟨(K _ (hm i x hx).1).1, (hm i x hx).2⟩) fun i v hi => by
      simp only [List.getElem?_map, Option.map_eq_some_iff] at hi
      obtain ⟨u, hu, rfl⟩ := hi
      exact ih i u hu
  | ros vs len z a cap cs hl h0 hm hc hz _ ih =>
    simp only [AVal.lent, lents_eq]
    exact .ros _ len z a cap cs (by simp [hl]) h0 (fun p hp i x hx => ⟨(K _ (hm p hp i x hx).1).1, (hm p hp i x hx).2⟩) hc (by simpa using hz) fun i v hi => by
      simp only [List.getElem?_map, Option.map_eq_some_iff] at hi
      obtain ⟨u, hu, rfl⟩ := hi
      exact ih i u hu
  | agg vs cs hl _ ih =>
    simp only [AVal.lent, lents_eq]
    exact .agg _ cs (by simp [hl]) fun i v hi => by
      simp only [List.getElem?_map, Option.map_eq_some_iff] at hi
      obtain ⟨u, hu, rfl⟩ := hi
      exact ih i u hu
  | tup vs cs hl _ ih =>
    simp only [AVal.lent, lents_eq]
    exact .tup _ cs (by simp [hl]) fun i v hi => by
      simp only [List.getElem?_map, Option.map_eq_some_iff] at hi
      obtain ⟨u, hu, rfl⟩ := hi
      exact ih i u hu
  | fn f vs cs hl _ ih =>
    simp only [AVal.lent, lents_eq]
    exact .fn f _ cs (by simp [hl]) fun i v hi => by
      simp only [List.getElem?_map, Option.map_eq_some_iff] at hi
      obtain ⟨u, hu, rfl⟩ := hi
      exact ih i u hu
  | nilf => exact .nilf
  | nili => exact .nili
  | fex k b => exact .fex k b
  | bun i c len x B he h => exact .bun i c len x B he (h.thin fun b hb => List.mem_of_mem_take hb)

/-- The same, and cells of all kinds too, so many steps deep. -/
inductive Dep where
  | z
  | s (d : Dep)
def AVal.lentD (n : Nat) (H : Heap) : Dep → AVal → AVal
  | .z, v => v.lent n H
  | .s d, v => match v with
    | .own l off len ver z => bif ltN l n then .own l off len ver z else match nth H l with
      | some ⟨.typ c, ver'⟩ => bif eqN ver ver' then .ro (c.fromC off) len z else .top
      | some ⟨.cells vs, ver'⟩ => match off with
        | 0 => bif eqN ver ver' then .ros (mapL (AVal.lentD n H d) vs) len z else .top
        | _ + 1 => .top
      | none => .top
    | .ptr l off ver => bif ltN l n then .ptr l off ver else match nth H l with
      | some ⟨.typ c, ver'⟩ => bif eqN ver ver' then .rop c off else .top
      | some ⟨.cells vs, ver'⟩ => bif eqN ver ver' then .rom (mapL (AVal.lentD n H d) vs) off else .top
      | none => .top
    | .agg vs => .agg (mapL (AVal.lentD n H d) vs)
    | .tup vs => .tup (mapL (AVal.lentD n H d) vs)
    | .fn f vs => .fn f (mapL (AVal.lentD n H d) vs)
    | v => v.lent n H

theorem VR.lentD [Fb : Forb] {ρ : List Nat} {H : Heap} {w : World} (n : Nat) (S : Sim ρ H w) : ∀ (d : Dep) {v : AVal} {c : Value}, VR ρ H w v c → VR (ρ.take n) (H.take n) w (v.lentD n H d) c
  | .z, v, c, h => h.lent n S
  | .s d, v, c, h => by
    have K : Keeps ρ w (ρ.take n) w := fun b ⟨h1, h2, h3⟩ => ⟨⟨h1, fun hm => h2 (List.mem_of_mem_take hm), h3⟩, rfl⟩
    have out : ∀ {l b : Nat}, ¬ l < n → ρ[l]? = some b → b ∉ ρ.take n := by
      intro l b hl hb hm
      obtain ⟨i, hi⟩ := List.getElem?_of_mem hm
      rw [List.getElem?_take] at hi
      split at hi
      · rename_i hin
        have hlen : i < ρ.length := (List.getElem?_eq_some_iff.1 hi).1
        have := (List.getElem?_inj hlen S.nodup).1 (hi.trans hb.symm)
        omega
      · cases hi
    -- the cells of a block
    have cells : ∀ {l b ver : Nat} {vs : List AVal}, ¬ l < n → H[l]? = some ⟨.cells vs, ver⟩ → ρ[l]? = some b → ∃ cs : Array Value, (mapL (AVal.lentD n H d) vs).length = cs.size ∧
        (∀ (i : Nat) (x : Value), cs[i]? = some x → Stb (ρ.take n) w b ∧ ∀ off, off ≤ i → w.cell? ((⟨b, off, none⟩ : Addr).add (i - off)) = some x) ∧
        ∀ (i : Nat) (v : AVal), (mapL (AVal.lentD n H d) vs)[i]? = some v → VR (ρ.take n) (H.take n) w v (cs.getD i Go.undef) := by
      intro l b ver vs hl hH hb
      obtain ⟨cs, e, h1, h2, h3⟩ := S.blk l b _ hH hb
      simp only [BC.len, hlen_eq] at h2
      refine ⟨cs.extract 0 vs.length, by simp [mapL_eq]; omega, fun i x hx => ⟨⟨heap_lt h1, out hl hb, fun hF => (S.forb b hF).2 (List.mem_of_getElem? hb)⟩, fun off ho => ?_⟩, fun i u hu => ?_⟩
      · rw [add_lit]
        have hx' : cs[i]? = some x := by
          rw [Array.getElem?_extract] at hx
          split at hx
          · simpa using hx
          · cases hx
        simp only [World.cell?, h1]
        have : off + (i - off) = i := by omega
        rw [this]; simpa using hx'
      · simp only [mapL_eq, List.getElem?_map, Option.map_eq_some_iff] at hu
        obtain ⟨u0, hu0, rfl⟩ := hu
        obtain ⟨x, hx, hv⟩ := h3 i u0 (by simpa [BC.get?, nth_eq] using hu0)
        have hlt : i < vs.length := (List.getElem?_eq_some_iff.1 hu0).1
        have hlt2 : i < cs.size := by omega
        have : (cs.extract 0 vs.length).getD i Go.undef = x := by
          have : (cs.extract 0 vs.length)[i]? = some x := by
            rw [Array.getElem?_extract, if_pos (by omega), Nat.zero_add]; exact hx
          simp [Array.getD_eq_getD_getElem?, this]
        rw [this]
        exact VR.lentD n S d hv
    have list : ∀ {vs : List AVal} {cs : Array Value}, (∀ (i : Nat) (v : AVal), vs[i]? = some v → VR ρ H w v (cs.getD i Go.undef)) → ∀ (i : Nat) (v : AVal), (mapL (AVal.lentD n H d) vs)[i]? = some v → VR (ρ.take n) (H.take n) w v (cs.getD i Go.undef) := by
      intro vs cs hh i u hu
      simp only [mapL_eq, List.getElem?_map, Option.map_eq_some_iff] at hu
      obtain ⟨u0, hu0, rfl⟩ := hu
      exact VR.lentD n S d (hh i u0 hu0)
    have flat := h.lent n S
    cases h with
    | own l off len ver z a cap h hm =>
      have hin := VR.own (H := H) l off len ver z a cap h hm
      obtain ⟨blk, h1, h2, h3⟩ := h
      simp only [AVal.lent, ltN_eq, Bool.cond_decide, nth_eq, eqN_eq] at flat
      simp only [AVal.lentD, ltN_eq, Bool.cond_decide, nth_eq, eqN_eq]
      by_cases hl : l < n
      · simpa [hl] using flat
      · simp only [hl, if_false] at flat ⊢
        rw [h1] at flat ⊢
        obtain ⟨bc, bver⟩ := blk
        cases bc with
        | typ c0 => exact flat
        | cells vs =>
          cases off with
          | succ o => exact .top _
          | zero =>
            simp only []
            by_cases hv : ver = bver
            · subst hv
              simp only [beq_self_eq_true, cond_true]
              obtain ⟨b, cs0, t, r1, rfl, r3, r4, r5⟩ := h3 rfl
              obtain ⟨cs, k1, k2, k3⟩ := cells hl h1 r1
              simp only [BC.len, hlen_eq] at r3
              refine .ros _ len z (some ⟨b, 0, none⟩) cap cs k1 (fun h => by cases h) (fun p hp i x hx => ?_) hm (by simp [mapL_eq]; omega) k3
              simp only [Option.some.injEq] at hp; subst hp
              have := k2 i x hx
              exact ⟨this.1, by simpa using this.2 0 (Nat.zero_le _)⟩
            · have : (ver == bver) = false := by simpa using hv
              simp only [this, cond_false]; exact .top _
    | ptr l off ver a h =>
      obtain ⟨blk, h1, h2, h3⟩ := h
      simp only [AVal.lent, ltN_eq, Bool.cond_decide, nth_eq, eqN_eq] at flat
      simp only [AVal.lentD, ltN_eq, Bool.cond_decide, nth_eq, eqN_eq]
      by_cases hl : l < n
      · simpa [hl] using flat
      · simp only [hl, if_false] at flat ⊢
        rw [h1] at flat ⊢
        obtain ⟨bc, bver⟩ := blk
        cases bc with
        | typ c0 => exact flat
        | cells vs =>
          simp only []
          by_cases hv : ver = bver
          · subst hv
            simp only [beq_self_eq_true, cond_true]
            obtain ⟨b, r1, rfl⟩ := h3 rfl
            obtain ⟨cs, k1, k2, k3⟩ := cells hl h1 r1
            refine .rom _ off _ cs k1 (fun i x hx => ?_) k3
            have := k2 (off + i) x hx
            exact ⟨this.1, by simpa [Nat.add_sub_cancel_left] using this.2 off (Nat.le_add_right _ _)⟩
          · have : (ver == bver) = false := by simpa using hv
            simp only [this, cond_false]; exact .top _
    | agg vs cs hl hh => exact .agg _ cs (by simp [mapL_eq, hl]) (list hh)
    | tup vs cs hl hh => exact .tup _ cs (by simp [mapL_eq, hl]) (list hh)
    | fn f vs cs hl hh => exact .fn f _ cs (by simp [mapL_eq, hl]) (list hh)
    | _ => exact flat

/-! ### Behind a call that was lent all it has -/

/-- Nothing in it is there to be read alone. -/
def AVal.clean : AVal → Bool
  | .ro .. => false
  | .rop .. => false
  | .bun .. => false
  | .rom .. => false
  | .ros .. => false
  | .agg vs => cleans vs
  | .tup vs => cleans vs
  | .fn _ vs => cleans vs
  | _ => true
  where cleans : List AVal → Bool
  | [] => true
  | v :: vs => v.clean && cleans vs
def BC.clean : BC → Bool
  | .typ (.rows ..) => false
  | .typ (.recs ..) => false
  | .typ _ => true
  | .cells vs => AVal.clean.cleans vs
def cleanB : List Blk → Bool
  | [] => true
  | b :: r => b.c.clean && cleanB r
theorem cleans_get {vs : List AVal} (h : AVal.clean.cleans vs = true) : ∀ (i : Nat) (v : AVal), vs[i]? = some v → v.clean = true := by
  induction vs with
  | nil => intro i v hi; simp at hi
  | cons x r ih =>
    simp only [AVal.clean.cleans, Bool.and_eq_true] at h
    intro i v hi
    cases i with
    | zero => simp at hi; subst hi; exact h.1
    | succ i => exact ih h.2 i v (by simpa using hi)
theorem cleanB_get {new : List Blk} (h : cleanB new = true) : ∀ (i : Nat) (b : Blk), new[i]? = some b → b.c.clean = true := by
  induction new with
  | nil => intro i v hi; simp at hi
  | cons x r ih =>
    simp only [cleanB, Bool.and_eq_true] at h
    intro i v hi
    cases i with
    | zero => simp at hi; subst hi; exact h.1
    | succ i => exact ih h.2 i v (by simpa using hi)
theorem shifts_eq (n : Nat) (vs : List AVal) : AVal.shift.shifts n vs = vs.map (AVal.shift n) := by
  induction vs with
  | nil => rfl
  | cons v vs ih => simp [AVal.shift.shifts, ih]
def shiftB (n : Nat) (new : List Blk) : List Blk := mapL (Blk.shift n) new

theorem Cont.get_shift {c : Cont} {i : Nat} {v : AVal} (h : c.get? i = some v) (hc : (BC.typ c).clean = true) (n : Nat) : v.clean = true ∧ v.shift n = v := by
  cases c <;> simp only [Cont.get?, BC.clean] at h hc <;> first | (cases hc; done) | (split at h <;> simp only [Option.some.injEq, reduceCtorEq] at h <;> subst h <;> exact ⟨rfl, rfl⟩)

theorem CR.reforb {F1 F2 : Forb} {ρ1 ρ2 : List Nat} {w : World} (hs : ∀ b, @Stb F1 ρ1 w b → @Stb F2 ρ2 w b) {c : Cont} {off : Nat} {p : Addr} (h : @CR F1 ρ1 w c off p) : @CR F2 ρ2 w c off p := by
  cases c with
  | ints k xs => intro i n hi; exact ⟨hs _ (h i n hi).1, (h i n hi).2⟩
  | flts k xs => intro i n hi; exact ⟨hs _ (h i n hi).1, (h i n hi).2⟩
  | cpxs k xs => intro i n hi; exact ⟨hs _ (h i n hi).1, (h i n hi).2⟩
  | bools xs => intro i n hi; exact ⟨hs _ (h i n hi).1, (h i n hi).2⟩
  | strs xs => intro i n hi; exact ⟨hs _ (h i n hi).1, (h i n hi).2⟩
  | rows k xs =>
    intro i r hi
    obtain ⟨h1, a, cap, h2, h4, h3⟩ := h i r hi
    exact ⟨hs _ h1, a, cap, h2, h4, h3.1, fun q hq j n hj => ⟨hs _ (h3.2 q hq j n hj).1, (h3.2 q hq j n hj).2⟩⟩
  | recs sh fs =>
    intro i f hi
    obtain ⟨h1, v, h2, h3⟩ := h i f hi
    exact ⟨hs _ h1, v, h2, h3.map hs fun _ _ _ => rfl⟩

theorem VR.shift {F1 F2 : Forb} {ρ ρ' : List Nat} {H new : Heap} {w : World} {v : AVal} {c : Value} (hlen : ρ.length = H.length) (h : @VR F1 ρ' new w v c)
    (hc : ((∀ b, @Stb F1 ρ' w b → @Stb F2 (ρ ++ ρ') w b) ∧ F1.bun = []) ∨ v.clean = true) : @VR F2 (ρ ++ ρ') (H ++ shiftB H.length new) w (v.shift H.length) c := by
  have hn : ∀ {l : Nat} {blk : Blk}, new[l]? = some blk → (H ++ shiftB H.length new)[H.length + l]? = some (blk.shift H.length) := by
    intro l blk hb
    rw [List.getElem?_append_right (by omega)]
    simp [shiftB, mapL_eq, hb]
  have hr : ∀ {l b : Nat}, ρ'[l]? = some b → (ρ ++ ρ')[H.length + l]? = some b := by
    intro l b hb
    rw [List.getElem?_append_right (by omega), hlen, Nat.add_sub_cancel_left]; exact hb
  have hbl : ∀ blk : Blk, (blk.shift H.length).c.len = blk.c.len := by
    intro blk
    obtain ⟨c, ver⟩ := blk
    cases c with
    | typ c => rfl
    | cells vs => simp [Blk.shift, BC.shift, BC.len, hlen_eq, shifts_eq]
  induction h with
  | top c => exact .top c
  | undef => exact .undef
  | bool b => exact .bool b
  | int k n => exact .int k n
  | flt k a b h => exact .flt k a b h
  | cpx k a b c d h h' => exact .cpx k a b c d h h'
  | str s => exact .str s
  | nils => exact .nils
  | emp a => exact .emp a
  | ro c len z a cap h0 h hm hl =>
    rcases hc with ⟨hs, hb0⟩ | hc
    · exact .ro c len z a cap h0 (fun p hp => (h p hp).reforb hs) hm hl
    · cases hc
  | own l off len ver z a cap h hm =>
    obtain ⟨blk, h1, h2, h3⟩ := h
    refine .own _ off len ver z a cap ⟨blk.shift H.length, hn h1, h2, fun e => ?_⟩ hm
    obtain ⟨b, cs, t, r1, r2, r3, r4, r5⟩ := h3 e
    exact ⟨b, cs, t, hr r1, r2, by rw [hbl]; exact r3, r4, r5⟩
  | rop c off p h =>
    rcases hc with ⟨hs, hb0⟩ | hc
    · exact .rop c off p (h.reforb hs)
    · cases hc
  | ptr l off ver a h =>
    obtain ⟨blk, h1, h2, h3⟩ := h
    refine .ptr _ off ver a ⟨blk.shift H.length, hn h1, h2, fun e => ?_⟩
    obtain ⟨b, r1, r2⟩ := h3 e
    exact ⟨b, hr r1, r2⟩
  | rom vs off p cs hl hm _ ih =>
    rcases hc with ⟨hs, hb0⟩ | hc
    · simp only [AVal.shift, shifts_eq]
      exact .rom _ off p cs (by simp [hl]) (fun i x hx => ⟨hs _ (hm i x hx).1, (hm i x hx).2⟩) fun i v hi => by
        simp only [List.getElem?_map, Option.map_eq_some_iff] at hi
        obtain ⟨u, hu, rfl⟩ := hi
        exact ih i u hu (.inl ⟨hs, hb0⟩)
    · cases hc
  | ros vs len z a cap cs hl h0 hm hcc hz _ ih =>
    rcases hc with ⟨hs, hb0⟩ | hc
    · simp only [AVal.shift, shifts_eq]
      exact .ros _ len z a cap cs (by simp [hl]) h0 (fun p hp i x hx => ⟨hs _ (hm p hp i x hx).1, (hm p hp i x hx).2⟩) hcc (by simpa using hz) fun i v hi => by
        simp only [List.getElem?_map, Option.map_eq_some_iff] at hi
        obtain ⟨u, hu, rfl⟩ := hi
        exact ih i u hu (.inl ⟨hs, hb0⟩)
    · cases hc
  | agg vs cs hl _ ih =>
    simp only [AVal.shift, shifts_eq]
    exact .agg _ cs (by simp [hl]) fun i v hi => by
      simp only [List.getElem?_map, Option.map_eq_some_iff] at hi
      obtain ⟨u, hu, rfl⟩ := hi
      exact ih i u hu (hc.imp id fun hc => cleans_get hc i u hu)
  | tup vs cs hl _ ih =>
    simp only [AVal.shift, shifts_eq]
    exact .tup _ cs (by simp [hl]) fun i v hi => by
      simp only [List.getElem?_map, Option.map_eq_some_iff] at hi
      obtain ⟨u, hu, rfl⟩ := hi
      exact ih i u hu (hc.imp id fun hc => cleans_get hc i u hu)
  | fn f vs cs hl _ ih =>
    simp only [AVal.shift, shifts_eq]
    exact .fn f _ cs (by simp [hl]) fun i v hi => by
      simp only [List.getElem?_map, Option.map_eq_some_iff] at hi
      obtain ⟨u, hu, rfl⟩ := hi
      exact ih i u hu (hc.imp id fun hc => cleans_get hc i u hu)
  | nilf => exact .nilf
  | nili => exact .nili
  | fex k b => exact .fex k b
  | bun i c len x B he h => 
    rcases hc with ⟨hs, hb0⟩ | hc
    · rw [hb0] at he; cases he
    · cases hc

theorem lift_G {F1 F2 : Forb} {ρ : List Nat} {H new : Heap} {w w' : World} {v : AVal} {c : Value} (S : @Sim F2 ρ H w) (h : @G F1 [] [] w v new c w')
    (hc : F1 = ⟨F2.l ++ ρ, []⟩ ∨ (v.clean = true ∧ cleanB new = true)) : @G F2 ρ H w (v.shift H.length) (H ++ shiftB H.length new) c w' := by
  obtain ⟨ρ', V, S', M⟩ := h
  have hfr : ∀ b, b < w.heap.size → w'.heap[b]? = w.heap[b]? ∧ b ∉ ρ' := fun b hb => M.frame b hb (by simp)
  have old : ∀ {l b : Nat}, ρ[l]? = some b → b < w.heap.size := by
    intro l b hb
    obtain ⟨blk, cs, e, h1, h2, _⟩ := S.lt hb
    exact heap_lt h2
  have hst : F1 = ⟨F2.l ++ ρ, []⟩ → (∀ b, @Stb F1 ρ' w' b → @Stb F2 (ρ ++ ρ') w' b) ∧ F1.bun = [] := by
    intro e
    subst e
    refine ⟨fun b hb => ?_, rfl⟩
    obtain ⟨h1, h2, h3⟩ := hb
    simp only [List.mem_append, not_or] at h3
    exact ⟨h1, by simp only [List.mem_append, not_or]; exact ⟨h3.2, h2⟩, h3.1⟩
  have M' : Mv ρ H w (ρ ++ ρ') (H ++ shiftB H.length new) w' := by
    refine ⟨M.os, M.tape, M.output, M.size, fun b hb hn => ⟨(hfr b hb).1, ?_⟩, fun l blk hl => ?_⟩
    · simp only [List.mem_append, not_or]; exact ⟨hn, (hfr b hb).2⟩
    · have hlt := (List.getElem?_eq_some_iff.1 hl).1
      refine ⟨blk, by rw [List.getElem?_append_left hlt]; exact hl, Nat.le_refl _, fun _ => ⟨?_, rfl, fun b cs e hb hh => ⟨cs, ?_, rfl⟩⟩⟩
      · rw [List.getElem?_append_left (by rw [S.len]; exact hlt)]
      · rw [(hfr b (heap_lt hh)).1]; exact hh
  refine ⟨ρ ++ ρ', V.shift S.len (hc.imp hst fun h => h.1), ⟨?_, ?_, S.forbMv M', ?_⟩, M'⟩
  · simp [S.len, @Sim.len F1 _ _ _ S', shiftB, mapL_eq]
  · rw [List.nodup_append]
    refine ⟨S.nodup, @Sim.nodup F1 _ _ _ S', fun a ha b hb he => ?_⟩
    subst he
    obtain ⟨l, hl⟩ := List.getElem?_of_mem ha
    exact (hfr a (old hl)).2 hb
  · intro l b blk hl hb
    rcases Nat.lt_or_ge l H.length with hlt | hge
    · rw [List.getElem?_append_left hlt] at hl
      rw [List.getElem?_append_left (by rw [S.len]; exact hlt)] at hb
      obtain ⟨cs, e, h1, h2⟩ := S.blk l b blk hl hb
      exact ⟨cs, e, by rw [(hfr b (heap_lt h1)).1]; exact h1, h2.mv M'⟩
    · rw [List.getElem?_append_right hge] at hl
      rw [List.getElem?_append_right (by rw [S.len]; exact hge), S.len] at hb
      simp only [shiftB, mapL_eq, List.getElem?_map, Option.map_eq_some_iff] at hl
      obtain ⟨blk0, hl0, rfl⟩ := hl
      obtain ⟨cs, e, h1, h2, h3⟩ := @Sim.blk F1 _ _ _ S' _ b blk0 hl0 hb
      refine ⟨cs, e, h1, ?_⟩
      obtain ⟨bc, ver⟩ := blk0
      cases bc with
      | typ c0 =>
        refine ⟨h2, fun i u hu => ?_⟩
        obtain ⟨x, hx, hvr⟩ := h3 i u hu
        have e2 : u.shift H.length = u := by
          simp only [Blk.shift, BC.shift, BC.get?] at hu
          cases c0 <;> simp only [Cont.get?] at hu <;> split at hu <;> simp only [Option.some.injEq, reduceCtorEq] at hu <;> subst hu <;> first | rfl | (rename_i f _; cases f <;> rfl)
        exact ⟨x, hx, e2 ▸ hvr.shift S.len (hc.imp hst fun h => (Cont.get_shift hu (cleanB_get h.2 _ _ hl0) H.length).1)⟩
      | cells vs =>
        refine ⟨by simpa [Blk.shift, BC.shift, BC.len, hlen_eq, shifts_eq] using h2, fun i u hu => ?_⟩
        simp only [Blk.shift, BC.shift, BC.get?, nth_eq, shifts_eq, List.getElem?_map, Option.map_eq_some_iff] at hu
        obtain ⟨u0, hu0, rfl⟩ := hu
        obtain ⟨x, hx, hvr⟩ := h3 i u0 (by simpa [BC.get?, nth_eq] using hu0)
        exact ⟨x, hx, hvr.shift S.len (hc.imp hst fun h => cleans_get (cleanB_get h.2 _ _ hl0) i u0 hu0)⟩

/-! ### What is not owned at all -/

def AVal.free : AVal → Bool
  | .own .. => false
  | .ptr .. => false
  | .bun .. => false
  | .rom vs _ => frees vs
  | .ros vs _ _ => frees vs
  | .agg vs => frees vs
  | .tup vs => frees vs
  | .fn _ vs => frees vs
  | _ => true
  where frees : List AVal → Bool
  | [] => true
  | v :: vs => v.free && frees vs
theorem frees_get {vs : List AVal} (h : AVal.free.frees vs = true) : ∀ (i : Nat) (v : AVal), vs[i]? = some v → v.free = true := by
  induction vs with
  | nil => intro i v hi; simp at hi
  | cons x r ih =>
    simp only [AVal.free.frees, Bool.and_eq_true] at h
    intro i v hi
    cases i with
    | zero => simp at hi; subst hi; exact h.1
    | succ i => exact ih h.2 i v (by simpa using hi)
theorem VR.freed {F2 F1 : Forb} {ρ : List Nat} {H : Heap} {w : World} (hs : ∀ b, @Stb F2 ρ w b → @Stb F1 [] w b) {v : AVal} {c : Value} (h : @VR F2 ρ H w v c) (hf : v.free = true) : @VR F1 [] [] w v c := by
  induction h with
  | top c => exact .top c
  | undef => exact .undef
  | bool b => exact .bool b
  | int k n => exact .int k n
  | flt k a b h => exact .flt k a b h
  | cpx k a b c d h h' => exact .cpx k a b c d h h'
  | str s => exact .str s
  | nils => exact .nils
  | emp a => exact .emp a
  | ro c len z a cap h0 h hm hl => exact .ro c len z a cap h0 (fun p hp => (h p hp).reforb hs) hm hl
  | own => cases hf
  | rop c off p h => exact .rop c off p (h.reforb hs)
  | ptr => cases hf
  | rom vs off p cs hl hm _ ih => exact .rom vs off p cs hl (fun i x hx => ⟨hs _ (hm i x hx).1, (hm i x hx).2⟩) fun i v hi => ih i v hi (frees_get hf i v hi)
  | ros vs len z a cap cs hl h0 hm hc hz _ ih => exact .ros vs len z a cap cs hl h0 (fun p hp i x hx => ⟨hs _ (hm p hp i x hx).1, (hm p hp i x hx).2⟩) hc hz fun i v hi => ih i v hi (frees_get hf i v hi)
  | agg vs cs hl _ ih => exact .agg vs cs hl fun i v hi => ih i v hi (frees_get hf i v hi)
  | tup vs cs hl _ ih => exact .tup vs cs hl fun i v hi => ih i v hi (frees_get hf i v hi)
  | fn f vs cs hl _ ih => exact .fn f vs cs hl fun i v hi => ih i v hi (frees_get hf i v hi)
  | nilf => exact .nilf
  | nili => exact .nili
  | fex k b => exact .fex k b
  | bun i c len x B he h => cases hf
mutual
theorem lent_free (n : Nat) (H : Heap) : ∀ (v : AVal), v.free = true → v.lent n H = v
  | .top, _ => rfl
  | .undef, _ => rfl
  | .bool _, _ => rfl
  | .int .., _ => rfl
  | .flt .., _ => rfl
  | .cpx .., _ => rfl
  | .str _, _ => rfl
  | .nils, _ => rfl
  | .emp, _ => rfl
  | .ro .., _ => rfl
  | .own .., h => by cases h
  | .rop .., _ => rfl
  | .ptr .., h => by cases h
  | .bun .., h => by cases h
  | .rom vs off, h => by simp only [AVal.lent]; rw [lents_free n H vs h]
  | .ros vs len z, h => by simp only [AVal.lent]; rw [lents_free n H vs h]
  | .agg vs, h => by simp only [AVal.lent]; rw [lents_free n H vs h]
  | .tup vs, h => by simp only [AVal.lent]; rw [lents_free n H vs h]
  | .fn f vs, h => by simp only [AVal.lent]; rw [lents_free n H vs h]
  | .nilf, _ => rfl
  | .nili, _ => rfl
  | .fex .., _ => rfl
theorem lents_free (n : Nat) (H : Heap) : ∀ (vs : List AVal), AVal.free.frees vs = true → AVal.lent.lents n H vs = vs
  | [], _ => rfl
  | v :: vs, h => by
    simp only [AVal.free.frees, Bool.and_eq_true] at h
    simp only [AVal.lent.lents]
    rw [lent_free n H v h.1, lents_free n H vs h.2]
end

theorem lentD_free (n : Nat) (H : Heap) : ∀ (d : Dep) (v : AVal), v.free = true → v.lentD n H d = v
  | .z, v, h => lent_free n H v h
  | .s d, v, h => by
    have list : ∀ vs : List AVal, AVal.free.frees vs = true → mapL (AVal.lentD n H d) vs = vs := by
      intro vs hv
      rw [mapL_eq]
      apply List.ext_getElem?
      intro i
      rw [List.getElem?_map]
      cases hi : vs[i]? with
      | none => rfl
      | some u => simp [lentD_free n H d u (frees_get hv i u hi)]
    cases v with
    | own => cases h
    | ptr => cases h
    | agg vs => simp only [AVal.lentD]; rw [list vs h]
    | tup vs => simp only [AVal.lentD]; rw [list vs h]
    | fn f vs => simp only [AVal.lentD]; rw [list vs h]
    | rom vs off => exact lent_free n H _ h
    | ros vs len z => exact lent_free n H _ h
    | _ => rfl
def dep3 : Dep := .s (.s (.s .z))
def lend0 (H : Heap) (args : List AVal) : List AVal := mapL (AVal.lentD 0 H dep3) args
theorem lend0_free (H : Heap) (args : List AVal) (h : AVal.free.frees args = true) : lend0 H args = args := by
  unfold lend0
  rw [mapL_eq]
  apply List.ext_getElem?
  intro i
  rw [List.getElem?_map]
  cases hi : args[i]? with
  | none => rfl
  | some u => simp [lentD_free 0 H dep3 u (frees_get h i u hi)]

end Go.Proofs.YtjhofofieiiplaaGreatDoor.Ab
