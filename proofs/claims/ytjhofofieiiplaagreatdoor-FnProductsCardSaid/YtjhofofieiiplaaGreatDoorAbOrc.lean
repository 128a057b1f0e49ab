/-
  The abstract machine: what is called, by its contracts.
-/
import Derived.Test.YtjhofofieiiplaaGreatDoorAbCode
import Derived.Test.YtjhofofieiiplaaGreatDoorAbGc
namespace Go.Proofs.YtjhofofieiiplaaGreatDoor.Ab
open Go
set_option linter.unusedVariables false
set_option linter.unusedSimpArgs false

/-- A function and what it comes to on arguments of which it owns nothing: the check, the value, the memory that is new. -/
structure Ent where
  f : FuncId
  R : List AVal → Option (Bool × AVal × List Blk)
def EntOk (P : Program) (e : Ent) : Prop := Enters P e.f ∧ ∀ args v new, e.R args = some (true, v, new) → ACalls P e.f args [] v new
def findE : List Ent → FuncId → Option (List AVal → Option (Bool × AVal × List Blk))
  | [], _ => none
  | e :: r, f => bif eqN e.f f then some e.R else findE r f
def orc (es : List Ent) : OrcK := fun f args H => match findE es f with
  | some R => match R (lend0 H args) with
    | some (b, v, new) => some (b && (AVal.free.frees args || (v.clean && cleanB new)), v.shift (hlen H), .ext (shiftB (hlen H) new))
    | none => none
  | none => none

instance orc_loc (es : List Ent) : OrcLoc (orc es) := by
  refine ⟨?_⟩
  intro f args H H' b v h
  unfold orc at h
  split at h
  · split at h
    · simp at h
    · cases h
  · cases h
instance orc_ren (es : List Ent) : OrcRen (orc es) := by
  refine ⟨?_⟩
  intro f G H H2 r g args b v n h
  unfold orc at h ⊢
  split at h
  · rename_i R hR
    rw [lend0_ren r args]
    split at h
    · rename_i b1 v1 new hv
      simp only [Option.some.injEq, Prod.mk.injEq, Eff.ext.injEq] at h
      obtain ⟨rfl, rfl, rfl⟩ := h
      have hn : ∀ i, f (hlen H + i) = hlen H2 + i := by rw [hlen_eq, hlen_eq]; exact r.new
      simp only [shift_ren hn, shiftB_ren hn, ← rens_eq, frees_ren]
    · cases h
  · cases h

theorem ACalls.lift {P : Program} {f : FuncId} {args : List AVal} {v : AVal} {new : List Blk} {H : Heap} (h : ACalls P f (lend0 H args) [] v new)
    (hc : AVal.free.frees args = true ∨ (v.clean = true ∧ cleanB new = true)) : ACalls P f args H (v.shift H.length) (H ++ shiftB H.length new) := by
  intro F2 ρ w cargs S hargs gl
  rcases hc with hf | hc
  · have old : ∀ b, b ∈ ρ → b < w.heap.size := by
      intro b hb
      obtain ⟨l, hl⟩ := List.getElem?_of_mem hb
      obtain ⟨blk, cs, e, h1, h2, _⟩ := S.lt hl
      exact heap_lt h2
    rw [lend0_free H args hf] at h
    let F1 : Forb := ⟨F2.l ++ ρ, []⟩
    have S1 : @Sim F1 [] [] w := @Sim.mk F1 [] [] w rfl List.nodup_nil (fun b hb => ⟨by
      rcases List.mem_append.1 hb with hb | hb
      · exact (@Sim.forb F2 _ _ _ S b hb).1
      · exact old b hb, by simp⟩) (fun l b blk h => by simp at h)
    have A1 : @VRs F1 [] [] w args cargs.toList := ⟨hargs.1, fun i u x hu hx => @VR.freed F2 F1 ρ H w (fun b hb => ⟨hb.1, by simp, by
      show b ∉ F2.l ++ ρ
      simp only [List.mem_append, not_or]; exact ⟨hb.2.2, hb.2.1⟩⟩) u x (hargs.2 i u x hu hx) (frees_get hf i u hu)⟩
    refine (@h F1 [] w cargs S1 A1 (gl.thin fun b hb => ⟨hb.1, by simp, fun hm => by
      rcases List.mem_append.1 hm with hm | hm
      · exact hb.2.2 hm
      · exact hb.2.1 hm⟩)).mono fun e w' ⟨c, he, hg⟩ => ⟨c, he, ?_⟩
    exact lift_G (F1 := F1) S hg (.inl rfl)
  · have S1 : @Sim F2 [] [] w := @Sim.mk F2 [] [] w rfl List.nodup_nil (fun b hb => ⟨(S.forb b hb).1, by simp⟩) (fun l b blk h => by simp at h)
    have A1 : @VRs F2 [] [] w (lend0 H args) cargs.toList := by
      rw [lend0, mapL_eq]
      refine ⟨by simpa using hargs.1, fun i u x hu hx => ?_⟩
      simp only [List.getElem?_map, Option.map_eq_some_iff] at hu
      obtain ⟨u0, hu0, rfl⟩ := hu
      exact (hargs.2 i u0 x hu0 hx).lentD 0 S dep3
    refine (@h F2 [] w cargs S1 A1 (gl.thin fun b hb => ⟨hb.1, by simp, hb.2.2⟩)).mono fun e w' ⟨c, he, hg⟩ => ⟨c, he, ?_⟩
    exact lift_G (F1 := F2) S hg (.inr hc)

theorem orc_ok {P : Program} {es : List Ent} (h : ∀ e ∈ es, EntOk P e) : OrcOk P (orc es).plain := by
  intro f args H v H' hh
  have find : ∀ (es : List Ent), (∀ e ∈ es, EntOk P e) → ∀ R, findE es f = some R → EntOk P ⟨f, R⟩ := by
    intro es
    induction es with
    | nil => intro _ R hR; cases hR
    | cons e r ih =>
      intro he R hR
      simp only [findE, eqN_eq] at hR
      cases hb : e.f == f with
      | true =>
        simp only [hb, cond_true, Option.some.injEq] at hR
        have hf : e.f = f := by simpa using hb
        subst hR hf
        exact he e List.mem_cons_self
      | false =>
        simp only [hb, cond_false] at hR
        exact ih (fun e' he' => he e' (List.mem_cons_of_mem _ he')) R hR
  simp only [OrcK.plain, orc] at hh
  split at hh
  · rename_i b u e hr
    split at hr
    · rename_i R hR
      obtain ⟨h1, h2⟩ := find es h R hR
      split at hr
      · rename_i b0 v0 new hnew
        simp only [Option.some.injEq, Prod.mk.injEq] at hr
        obtain ⟨rfl, rfl, rfl⟩ := hr
        cases b0 with
        | false => simp at hh
        | true =>
          simp only [Bool.true_and] at hh
          cases hcl : AVal.free.frees args || (v0.clean && cleanB new) with
          | false => simp [hcl] at hh
          | true =>
            simp only [hcl, cond_true, Option.some.injEq, Prod.mk.injEq] at hh
            obtain ⟨rfl, hH⟩ := hh
            have hH' : H' = H ++ shiftB H.length new := by
              rw [← hH, hlen_eq]
              cases hs : shiftB H.length new with
              | nil => simp [Eff.heap]
              | cons b r => simp [Eff.heap, app_eq]
            rw [hH', hlen_eq]
            have hA : ACalls P f args H (v0.shift H.length) (H ++ shiftB H.length new) := ACalls.lift (h2 _ _ _ hnew) (by simpa using hcl)
            exact .enter h1 hA
      · cases hr
    · cases hr
  · cases hh

/-- A contract of a body. -/
theorem ent_ok {P : Program} (hm : P.follows .mixedOrders = true) {es : List Ent} (hes : ∀ e ∈ es, EntOk P e) {f : FuncId} {fn : Func} {R : List AVal → Option (Bool × AVal × List Blk)} {hd : Nat → Head} {dr : Nat → Dr} {cut : Option Nat} {n : Nat} {ts : List ResultVar}
    (hf : P.funcs[f]? = some fn) (hbn : fn.body.isNone = false) (hname : (fn.name == "runtime.NumGoroutine") = false) (hn : fn.ntmps = n) (hr : fn.results = ts.toArray) (hc : drawChk dr (bodyOf fn) = true)
    (h : ∀ args v new, R args = some (true, v, new) → ∃ fuel, runFn P (orc es) hd dr cut fuel (bodyOf fn) n ts args [] = some (v, new)) : EntOk P ⟨f, R⟩ :=
  ⟨⟨fn, hf, hbn, hname⟩, fun args v new hR => by obtain ⟨fuel, hh⟩ := h args v new hR; exact fn_sound hm (orc_ok hes) hf hbn hn hr hc hh⟩

theorem ACalls.re {P : Program} {f : FuncId} {args : List AVal} {v v' : AVal} {new new' : List Blk} {ks : List Nat} (h : ACalls P f args [] v new) (hg : regc ks (some (v, new)) = some (v', new')) : ACalls P f args [] v' new' := by
  intro Fb ρ w cargs S hargs gl
  have hρ : ρ = [] := List.eq_nil_of_length_eq_zero S.len
  subst hρ
  exact (h [] w cargs S hargs gl).mono fun e w' ⟨c, he, hG⟩ => ⟨c, he, hG.re hg⟩
theorem ent_okG {P : Program} (hm : P.follows .mixedOrders = true) {es : List Ent} (hes : ∀ e ∈ es, EntOk P e) {f : FuncId} {fn : Func} {R : List AVal → Option (Bool × AVal × List Blk)} {hd : Nat → Head} {dr : Nat → Dr} {cut : Option Nat} {ks : List Nat} {n : Nat} {ts : List ResultVar}
    (hf : P.funcs[f]? = some fn) (hbn : fn.body.isNone = false) (hname : (fn.name == "runtime.NumGoroutine") = false) (hn : fn.ntmps = n) (hr : fn.results = ts.toArray) (hc : drawChk dr (bodyOf fn) = true)
    (h : ∀ args v new, R args = some (true, v, new) → ∃ fuel, regc ks (runFn P (orc es) hd dr cut fuel (bodyOf fn) n ts args []) = some (v, new)) : EntOk P ⟨f, R⟩ :=
  ⟨⟨fn, hf, hbn, hname⟩, fun args v new hR => by
    obtain ⟨fuel, hh⟩ := h args v new hR
    cases hrun : runFn P (orc es) hd dr cut fuel (bodyOf fn) n ts args [] with
    | none => rw [hrun] at hh; cases hh
    | some r =>
      obtain ⟨v0, new0⟩ := r
      rw [hrun] at hh
      exact ACalls.re (fn_sound hm (orc_ok hes) hf hbn hn hr hc hrun) hh⟩

/-! ### A new block may be said to hold less than it holds -/

def AVal.fits (n : Nat) : AVal → Bool
  | .own l off len _ z => !(l == 0) || decide (off + len * z ≤ n)
  | .rom vs _ => fitss n vs
  | .ros vs _ _ => fitss n vs
  | .agg vs => fitss n vs
  | .tup vs => fitss n vs
  | .fn _ vs => fitss n vs
  | _ => true
  where fitss (n : Nat) : List AVal → Bool
  | [] => true
  | v :: vs => v.fits n && fitss n vs
theorem fitss_get {n : Nat} : ∀ {vs : List AVal}, AVal.fits.fitss n vs = true → ∀ (i : Nat) (v : AVal), vs[i]? = some v → v.fits n = true
  | [], _, i, v, h => by simp at h
  | x :: r, h, i, v, hi => by
    simp only [AVal.fits.fitss, Bool.and_eq_true] at h
    cases i with
    | zero => simp at hi; subst hi; exact h.1
    | succ i => exact fitss_get h.2 i v (by simpa using hi)
theorem VR.trim [Fb : Forb] {ρ : List Nat} {w : World} {k : IntKind} {xs : List Int} {n : Nat} (hn : n ≤ xs.length) {v : AVal} {c : Value} (h : VR ρ [⟨.typ (.ints k xs), 0⟩] w v c) (hf : v.fits n = true) :
    VR ρ [⟨.typ (.ints k (xs.take n)), 0⟩] w v c := by
  induction h with
  | top c => exact .top c
  | undef => exact .undef
  | bool b => exact .bool b
  | int k n => exact .int k n
  | flt k a b h => exact .flt k a b h
  | cpx k a b c d h h' => exact .cpx k a b c d h h'
  | str s => exact .str s
  | nils => exact .nils
  | emp a => exact .emp a
  | ro c len z a cap h0 h hm hl => exact .ro c len z a cap h0 h hm hl
  | own l off len ver z a cap h hm =>
    obtain ⟨blk, h1, h2, h3⟩ := h
    cases l with
    | succ l => simp at h1
    | zero =>
      simp only [List.getElem?_cons_zero, Option.some.injEq] at h1
      subst h1
      simp only [AVal.fits, beq_self_eq_true, Bool.not_true, Bool.false_or, decide_eq_true_eq] at hf
      refine .own 0 off len ver z a cap ⟨_, rfl, h2, fun e => ?_⟩ hm
      obtain ⟨b, cs, t, r1, r2, r3, r4, r5⟩ := h3 e
      exact ⟨b, cs, t, r1, r2, by simp only [BC.len, Cont.len, List.length_take]; omega, r4, r5⟩
  | rop c off p h => exact .rop c off p h
  | rom vs off p cs hl hm _ ih => exact .rom vs off p cs hl hm fun i v hi => ih i v hi (fitss_get (by simpa only [AVal.fits] using hf) i v hi)
  | ros vs len z a cap cs hl h0 hm hc hz _ ih => exact .ros vs len z a cap cs hl h0 hm hc hz fun i v hi => ih i v hi (fitss_get (by simpa only [AVal.fits] using hf) i v hi)
  | ptr l off ver a h =>
    obtain ⟨blk, h1, h2, h3⟩ := h
    cases l with
    | succ l => simp at h1
    | zero =>
      simp only [List.getElem?_cons_zero, Option.some.injEq] at h1
      subst h1
      exact .ptr 0 off ver a ⟨_, rfl, h2, h3⟩
  | agg vs cs hl _ ih => exact .agg vs cs hl fun i v hi => ih i v hi (fitss_get (by simpa only [AVal.fits] using hf) i v hi)
  | tup vs cs hl _ ih => exact .tup vs cs hl fun i v hi => ih i v hi (fitss_get (by simpa only [AVal.fits] using hf) i v hi)
  | fn f vs cs hl _ ih => exact .fn f vs cs hl fun i v hi => ih i v hi (fitss_get (by simpa only [AVal.fits] using hf) i v hi)
  | nilf => exact .nilf
  | nili => exact .nili
  | fex k b => exact .fex k b
  | bun i c len x B he h => exact .bun i c len x B he h
theorem G.trim [Fb : Forb] {w0 w : World} {v : AVal} {c : Value} {k : IntKind} {xs : List Int} {n : Nat} (hn : n ≤ xs.length) (hf : v.fits n = true) (h : G [] [] w0 v [⟨.typ (.ints k xs), 0⟩] c w) :
    G [] [] w0 v [⟨.typ (.ints k (xs.take n)), 0⟩] c w := by
  obtain ⟨ρ, V, S, M⟩ := h
  refine ⟨ρ, V.trim hn hf, ⟨S.len, S.nodup, S.forb, fun l b blk hl hb => ?_⟩, ⟨M.os, M.tape, M.output, M.size, M.frame, fun l blk hl => by simp at hl⟩⟩
  cases l with
  | succ l => simp at hl
  | zero =>
    simp only [List.getElem?_cons_zero, Option.some.injEq] at hl
    subst hl
    obtain ⟨cs, e, h1, h2, h3⟩ := S.blk 0 b _ rfl hb
    refine ⟨cs, e, h1, ?_, fun i u hu => ?_⟩
    · simp only [BC.len, Cont.len, List.length_take] at h2 ⊢; omega
    · simp only [BC.get?, Cont.get?] at hu
      split at hu
      · rename_i y hy
        simp only [Option.some.injEq] at hu; subst hu
        rw [List.getElem?_take] at hy
        split at hy
        · obtain ⟨x, hx, hv⟩ := h3 i (.int k y) (by simp only [BC.get?, Cont.get?, hy])
          exact ⟨x, hx, hv.trim hn rfl⟩
        · cases hy
      · cases hu
theorem EntOk.trim {P : Program} {f : FuncId} {R R' : List AVal → Option (Bool × AVal × List Blk)} (h : EntOk P ⟨f, R⟩)
    (hR : ∀ args v new, R' args = some (true, v, new) → ∃ k xs n, R args = some (true, v, [⟨.typ (.ints k xs), 0⟩]) ∧ new = [⟨.typ (.ints k (xs.take n)), 0⟩] ∧ v.fits n = true ∧ n ≤ xs.length) : EntOk P ⟨f, R'⟩ :=
  ⟨h.1, fun args v new hr => by
    obtain ⟨k, xs, n, h1, rfl, h2, h3⟩ := hR args v new hr
    intro Fb ρ w cargs S hargs gl
    have hρ : ρ = [] := List.eq_nil_of_length_eq_zero S.len
    subst hρ
    exact (h.2 args v _ h1 [] w cargs S hargs gl).mono fun e w' ⟨c, he, hG⟩ => ⟨c, he, hG.trim h3 h2⟩⟩

end Go.Proofs.YtjhofofieiiplaaGreatDoor.Ab
