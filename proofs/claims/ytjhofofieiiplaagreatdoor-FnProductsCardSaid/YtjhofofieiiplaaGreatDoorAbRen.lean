/-
  The abstract machine: blocks may be renamed; operations that touch no memory do not mind.
-/
import Derived.Test.YtjhofofieiiplaaGreatDoorAbK
namespace Go.Proofs.YtjhofofieiiplaaGreatDoor.Ab
open Go
set_option linter.unusedVariables false
set_option linter.unusedSimpArgs false

def AVal.ren (f : Nat → Nat) : AVal → AVal
  | .own l off len ver z => .own (f l) off len ver z
  | .ptr l off ver => .ptr (f l) off ver
  | .rom vs off => .rom (rens f vs) off
  | .ros vs len z => .ros (rens f vs) len z
  | .agg vs => .agg (rens f vs)
  | .tup vs => .tup (rens f vs)
  | .fn g vs => .fn g (rens f vs)
  | v => v
  where rens (f : Nat → Nat) : List AVal → List AVal
  | [] => []
  | v :: vs => v.ren f :: rens f vs
theorem rens_eq (f : Nat → Nat) (vs : List AVal) : AVal.ren.rens f vs = vs.map (AVal.ren f) := by
  induction vs with
  | nil => rfl
  | cons v vs ih => simp [AVal.ren.rens, ih]
theorem ofCell_ren (f : Nat → Nat) (c : Value) : (ofCell c).ren f = ofCell c := by
  unfold ofCell
  split <;> try rfl
  split <;> rfl
theorem ofConst_ren (f : Nat → Nat) (c : Value) : (ofConst c).ren f = ofConst c := by
  unfold ofConst
  split
  · simp only [AVal.ren, rens_eq, mapL_eq, List.map_map]
    congr 1
    exact List.map_congr_left fun x _ => ofCell_ren f x
  · exact ofCell_ren f _
theorem glFind_ren (f : Nat → Nat) : ∀ (l : List (Nat × List Int)) (g : Nat), (glFind l g).ren f = glFind l g
  | [], g => rfl
  | (k, xs) :: r, g => by
    simp only [glFind]
    cases eqN k g with
    | false => exact glFind_ren f r g
    | true =>
      simp only [cond_true, AVal.ren]
      congr 1
      induction xs with
      | nil => rfl
      | cons x xs ih => simp only [mapL, AVal.ren.rens, AVal.ren, ih]
theorem ev_ren (f : Nat → Nat) (t : List AVal) (h h' : Heap) (x : Operand) : State.ev ⟨t.map (AVal.ren f), h'⟩ x = (State.ev ⟨t, h⟩ x).ren f := by
  cases x with
  | tmp i =>
    simp only [State.ev, nth_eq, List.getElem?_map]
    cases t[i]? <;> rfl
  | const v => exact (ofConst_ren f v).symm
  | global g => exact (glFind_ren _ _ _).symm
  | func g => rfl

theorem abin_ren (f : Nat → Nat) {P : Program} {t : TypeId} {op : BinOp} {x y v : AVal} (h : abin P t op x y = some v) : abin P t op (x.ren f) (y.ren f) = some (v.ren f) := by
  have hv : v.ren f = v := by
    unfold abin at h
    split at h
    · cases op <;> simp only [Bool.cond_eq_ite] at h <;> (repeat' split at h) <;> simp only [Option.some.injEq, reduceCtorEq] at h <;> subst h <;> rfl
    · split at h
      · cases op <;> simp only [Option.some.injEq, reduceCtorEq] at h <;> subst h <;> rfl
      · cases h
    · simp only [Bool.cond_eq_ite] at h
      split at h
      · cases op <;> simp only [Option.some.injEq, reduceCtorEq] at h <;> subst h <;> rfl
      · cases h
    · split at h
      · cases op <;> simp only [Bool.cond_eq_ite] at h <;> (repeat' split at h) <;> simp only [Option.some.injEq, reduceCtorEq] at h <;> subst h <;> rfl
      · cases h
    all_goals first
      | (cases op <;> simp only [Bool.cond_eq_ite] at h <;> (repeat' split at h) <;> simp only [Option.some.injEq, reduceCtorEq] at h <;> subst h <;> rfl; done)
      | (simp only [Bool.cond_eq_ite] at h
         split at h
         · cases op <;> simp only [Option.some.injEq, reduceCtorEq] at h <;> subst h <;> rfl
         · cases h)
      | cases h
  rw [hv]
  cases x <;> cases y <;> first | exact h | (simp [abin] at h)
theorem aun_ren (f : Nat → Nat) {op : UnOp} {x v : AVal} (h : aun op x = some v) : aun op (x.ren f) = some (v.ren f) := by
  unfold aun at h
  split at h <;> simp only [Option.some.injEq, reduceCtorEq] at h <;> subst h <;> rfl
theorem aconv_ren (f : Nat → Nat) {P : Program} {a b : TypeId} {x v : AVal} (h : aconv P a b x = some v) : aconv P a b (x.ren f) = some (v.ren f) := by
  unfold aconv at h ⊢
  split at h
  · cases h
  · split at h <;> first
      | (simp only [Option.some.injEq, reduceCtorEq] at h; subst h; simp_all [AVal.ren]; done)
      | (rw [Bool.cond_eq_ite] at h
         split at h
         · simp only [Option.some.injEq] at h; subst h; simp_all [AVal.ren]
         · cases h)
      | cases h
theorem aconvK_ren (f : Nat → Nat) {P : Program} {a b : TypeId} {x v : AVal} {c : Bool} (h : aconvK P a b x = some (c, v)) : aconvK P a b (x.ren f) = some (c, v.ren f) := by
  unfold aconvK at h ⊢
  split at h
  · cases h
  · split at h <;> first
      | (simp only [Option.some.injEq, Prod.mk.injEq] at h; obtain ⟨rfl, rfl⟩ := h; simp_all [AVal.ren]; done)
      | cases h
theorem recC_ren (f : Nat → Nat) (k : Nat) (fs : List Fld) (p : Nat) : (recC k fs p).ren f = recC k fs p := by
  unfold recC
  split <;> rfl
theorem recCs_ren (f : Nat → Nat) (fs : List Fld) (b : Nat) : ∀ (sh : List Nat) (j : Nat), AVal.ren.rens f (recCsK fs b sh j) = recCsK fs b sh j
  | [], _ => rfl
  | k :: r, j => by rw [recCsK, AVal.ren.rens, recC_ren, recCs_ren f fs b r]
theorem roIdxK_ren (f : Nat → Nat) (c : Cont) (len z sz : Nat) (n : Int) : (roIdxK c len z sz n).2.ren f = (roIdxK c len z sz n).2 := by
  cases c <;> simp only [roIdxK, AVal.ren, recCs_ren]
theorem aindexK_ren (f : Nat → Nat) {P : Program} {t : TypeId} {x i v : AVal} {b : Bool} (h : aindexK P t x i = some (b, v)) : aindexK P t (x.ren f) (i.ren f) = some (b, v.ren f) := by
  unfold aindexK at h ⊢
  split at h
  · rename_i e hu
    try simp only [hu]
    split at h
    · rename_i sz c len z k n hz
      simp only [Option.some.injEq] at h
      simp only [AVal.ren, hz, Option.some.injEq]
      have := roIdxK_ren f c len z sz n
      rw [h] at this
      rw [h]
      exact congrArg (Prod.mk b) this.symm
    all_goals
      first
        | (simp only [Option.some.injEq, Prod.mk.injEq] at h; obtain ⟨rfl, rfl⟩ := h; simp_all [AVal.ren]; done)
        | cases h
  · rename_i len e hu
    try simp only [hu]
    split at h <;> simp only [Option.some.injEq, Prod.mk.injEq, reduceCtorEq] at h <;> obtain ⟨rfl, rfl⟩ := h <;> simp_all [AVal.ren]
  · cases h
theorem afield_ren (f : Nat → Nat) {P : Program} {t : TypeId} {x v : AVal} {i : Nat} (h : afield P t x i = some v) : afield P t (x.ren f) i = some (v.ren f) := by
  unfold afield at h ⊢
  split at h
  · rename_i fs hu
    try simp only [hu]
    split at h
    · rename_i fl hf
      try simp only [hf]
      split at h <;> simp only [Option.some.injEq, reduceCtorEq] at h <;> subst h <;> simp_all [AVal.ren]
    · cases h
  · cases h

theorem aboundK_ren (f : Nat → Nat) (x : Option AVal) (d h : Nat) : aboundK (x.map (AVal.ren f)) d h = aboundK x d h := by
  cases x with
  | none => rfl
  | some v => cases v <;> rfl
theorem asliceK_ren (f : Nat → Nat) {P : Program} {t : TypeId} {x v : AVal} {lo hi : Option AVal} {b : Bool} (h : asliceK P t x lo hi = some (b, v)) : asliceK P t (x.ren f) (lo.map (AVal.ren f)) (hi.map (AVal.ren f)) = some (b, v.ren f) := by
  unfold asliceK at h
  split at h
  · rename_i e hu
    split at h
    · rename_i sz c len z hz
      split at h
      · rename_i b1 hh h1
        split at h
        · rename_i b2 l h2
          simp only [Option.some.injEq, Prod.mk.injEq] at h; obtain ⟨rfl, rfl⟩ := h
          simp only [asliceK, hu, hz, AVal.ren, aboundK_ren, h1, h2]
        · cases h
      · cases h
    · rename_i sz b0 off len ver z hz
      split at h
      · rename_i b1 hh h1
        split at h
        · rename_i b2 l h2
          simp only [Option.some.injEq, Prod.mk.injEq] at h; obtain ⟨rfl, rfl⟩ := h
          simp only [asliceK, hu, hz, AVal.ren, aboundK_ren, h1, h2]
        · cases h
      · cases h
    · cases h
  · rename_i hu
    split at h
    · split at h
      · rename_i b1 hh h1
        split at h
        · rename_i b2 l h2
          simp only [Option.some.injEq, Prod.mk.injEq] at h; obtain ⟨rfl, rfl⟩ := h
          simp only [asliceK, hu, AVal.ren, aboundK_ren, h1, h2]
        · cases h
      · cases h
    · cases h
  · cases h
theorem cells_ren (f : Nat → Nat) {v : AVal} {vs : List AVal} (h : v.cells? = some vs) : (v.ren f).cells? = some (vs.map (AVal.ren f)) := by
  cases v <;> simp only [AVal.cells?, Option.some.injEq, reduceCtorEq] at h <;> subst h <;> simp [AVal.ren, AVal.cells?, rens_eq]

theorem ren_int {f : Nat → Nat} {x : AVal} {k : IntKind} {n : Int} (h : x.ren f = .int k n) : x = .int k n := by
  cases x <;> simp [AVal.ren] at h <;> simp [h]
theorem ren_str {f : Nat → Nat} {x : AVal} {a : ByteArray} (h : x.ren f = .str a) : x = .str a := by
  cases x <;> simp [AVal.ren] at h <;> simp [h]
theorem ren_cpx {f : Nat → Nat} {x : AVal} {k : FloatKind} {a b : Nat} (h : x.ren f = .cpx k a b) : x = .cpx k a b := by
  cases x <;> simp [AVal.ren] at h <;> simp [h]
theorem abinK_ren (f : Nat → Nat) {P : Program} {t : TypeId} {op : BinOp} {x y v : AVal} {b : Bool} (h : abinK P t op x y = some (b, v)) : abinK P t op (x.ren f) (y.ren f) = some (b, v.ren f) := by
  unfold abinK at h
  split at h
  · simp only [Option.some.injEq, Prod.mk.injEq] at h; obtain ⟨rfl, rfl⟩ := h; rfl
  · simp only [Option.some.injEq, Prod.mk.injEq] at h; obtain ⟨rfl, rfl⟩ := h; rfl
  · split at h
    · rename_i hk; subst hk
      simp only [Option.some.injEq, Prod.mk.injEq] at h; obtain ⟨rfl, rfl⟩ := h
      simp only [AVal.ren, abinK, if_true]
    · cases h
  · split at h
    · rename_i hk; subst hk
      simp only [Option.some.injEq, Prod.mk.injEq] at h; obtain ⟨rfl, rfl⟩ := h
      simp only [AVal.ren, abinK, if_true]
    · cases h
  · simp only [Option.some.injEq, Prod.mk.injEq] at h; obtain ⟨rfl, rfl⟩ := h; rfl
  · split at h
    · rename_i hk; subst hk
      simp only [Option.some.injEq, Prod.mk.injEq] at h; obtain ⟨rfl, rfl⟩ := h
      simp only [AVal.ren, abinK, if_true]
    · cases h
  · rename_i n1 n2 n3 n4 n5 n6
    split at h
    · rename_i u hu
      simp only [Option.some.injEq, Prod.mk.injEq] at h; obtain ⟨rfl, rfl⟩ := h
      have hu2 := abin_ren f hu
      unfold abinK
      split
      · rename_i e1 e2; exact (n1 _ _ _ _ rfl (ren_int e1) (ren_int e2)).elim
      · rename_i e1 e2; exact (n2 _ _ _ _ rfl (ren_int e1) (ren_int e2)).elim
      · rename_i e1 e2; exact (n3 _ _ _ _ rfl (ren_int e1) (ren_int e2)).elim
      · rename_i e1 e2; exact (n4 _ _ _ _ rfl (ren_int e1) (ren_int e2)).elim
      · rename_i e1 e2; exact (n5 _ _ rfl (ren_str e1) (ren_str e2)).elim
      · rename_i e1 e2; exact (n6 _ _ _ _ _ _ rfl (ren_cpx e1) (ren_cpx e2)).elim
      · rw [hu2]
    · cases h
theorem updL_ren (f : Nat → Nat) : ∀ (us vs : List AVal) (off : Nat), (updL vs off us).map (AVal.ren f) = updL (vs.map (AVal.ren f)) off (us.map (AVal.ren f))
  | [], _, _ => rfl
  | u :: r, vs, off => by rw [List.map_cons, updL, updL, updL_ren f r, upd_eq, upd_eq, List.map_set]
theorem longer_ren (f : Nat → Nat) (vs : List AVal) (k : Nat) : longer (vs.map (AVal.ren f)) k = longer vs k := by
  rw [Bool.eq_iff_iff, longer_le, longer_le, List.length_map]
theorem afill_ren (f : Nat → Nat) {pl : List (Nat × Nat)} {ev : Operand → AVal} : ∀ {l : List (Nat × Operand)} {vs vs' : List AVal}, afill pl ev vs l = some vs' → afill pl (fun x => (ev x).ren f) (vs.map (AVal.ren f)) l = some (vs'.map (AVal.ren f))
  | [], vs, vs', h => by simp only [afill, Option.some.injEq] at h; subst h; rfl
  | (i, x) :: r, vs, vs', h => by
    simp only [afill] at h
    split at h
    · rename_i off n hn
      split at h
      · rename_i us hu
        cases h1 : eqN (hlen us) n && longer vs (off + n)
        · rw [h1] at h; simp at h
        · rw [h1, cond_true] at h
          have hrec := afill_ren f h
          rw [updL_ren] at hrec
          have e1 : (eqN (hlen (us.map (AVal.ren f))) n && longer (vs.map (AVal.ren f)) (off + n)) = true := by rw [longer_ren, hlen_eq, List.length_map, ← hlen_eq]; exact h1
          simp only [afill, hn, cells_ren f hu, e1, cond_true]
          exact hrec
      · cases h
    · cases h
theorem abuildS_ren (f : Nat → Nat) {P : Program} {ev : Operand → AVal} {t : TypeId} {l : List (Nat × Operand)} {v : AVal} (h : abuildS P ev t l = some v) : abuildS P (fun x => (ev x).ren f) t l = some (v.ren f) := by
  unfold abuildS at h
  split at h
  · rename_i fs hu
    split at h
    · rename_i i hi
      split at h
      · rename_i z hz
        split at h
        · rename_i pl hpl
          split at h
          · rename_i vs hvs
            simp only [Option.some.injEq] at h; subst h
            have hr := afill_ren f hvs
            have e : (mapL ofCell z.cells.toList).map (AVal.ren f) = mapL ofCell z.cells.toList := by
              rw [mapL_eq, List.map_map]
              exact List.map_congr_left fun x _ => ofCell_ren f x
            rw [e] at hr
            simp only [abuildS, hu, hi, hz, hpl, hr, AVal.ren, rens_eq]
          · cases h
        · cases h
      · cases h
    · cases h
  · rename_i n e hu
    split at h
    · rename_i i1 hi he
      split at h
      · rename_i z hz
        split at h
        · rename_i vs hvs
          simp only [Option.some.injEq] at h; subst h
          have hr := afill_ren f hvs
          have e : (mapL ofCell z.cells.toList).map (AVal.ren f) = mapL ofCell z.cells.toList := by
            rw [mapL_eq, List.map_map]
            exact List.map_congr_left fun x _ => ofCell_ren f x
          rw [e] at hr
          simp only [abuildS, hu, hi, he, hz, hr, AVal.ren, rens_eq]
        · cases h
      · cases h
    · cases h
  · cases h
theorem alen_ren (f : Nat → Nat) {x v : AVal} (h : alen x = some v) : alen (x.ren f) = some (v.ren f) := by
  cases x <;> simp only [alen, Option.some.injEq, reduceCtorEq] at h <;> subst h <;> rfl
theorem amax2_ren (f : Nat → Nat) {x y v : AVal} (h : amax2 x y = some v) : amax2 (x.ren f) (y.ren f) = some (v.ren f) := by
  unfold amax2 at h
  split at h
  · simp only [Option.some.injEq] at h; subst h; rfl
  · split at h
    · rename_i hk
      subst hk
      rw [Bool.cond_eq_ite] at h
      split at h
      · rename_i ho
        simp only [Option.some.injEq] at h; subst h
        simp only [AVal.ren, amax2, if_true, ho, cond_true]
      · cases h
    · cases h
  · cases h
theorem afmaxK_ren (f : Nat → Nat) {k : FloatKind} : ∀ (r : List AVal) (b c : Bool) (a : Nat) (v : AVal), afmaxK k b a r = some (c, v) → afmaxK k b a (r.map (AVal.ren f)) = some (c, v.ren f) := by
  intro r
  induction r with
  | nil =>
    intro b c a v h
    simp only [afmaxK, Option.some.injEq, Prod.mk.injEq] at h
    obtain ⟨rfl, rfl⟩ := h
    rfl
  | cons x r ih =>
    intro b c a v h
    cases x <;> simp only [afmaxK, reduceCtorEq] at h
    rename_i k' d
    split at h
    · rename_i hk
      subst hk
      simp only [List.map_cons, AVal.ren, afmaxK, if_true]
      exact ih _ _ _ _ h
    · cases h
theorem amin2_ren (f : Nat → Nat) {x y v : AVal} (h : amin2 x y = some v) : amin2 (x.ren f) (y.ren f) = some (v.ren f) := by
  unfold amin2 at h
  split at h
  · simp only [Option.some.injEq] at h; subst h; rfl
  · split at h
    · rename_i hk
      subst hk
      rw [Bool.cond_eq_ite] at h
      split at h
      · rename_i ho
        simp only [Option.some.injEq] at h; subst h
        simp only [AVal.ren, amin2, if_true, ho, cond_true]
      · cases h
    · cases h
  · cases h
theorem afminK_ren (f : Nat → Nat) {k : FloatKind} : ∀ (r : List AVal) (b c : Bool) (a : Nat) (v : AVal), afminK k b a r = some (c, v) → afminK k b a (r.map (AVal.ren f)) = some (c, v.ren f) := by
  intro r
  induction r with
  | nil =>
    intro b c a v h
    simp only [afminK, Option.some.injEq, Prod.mk.injEq] at h
    obtain ⟨rfl, rfl⟩ := h
    rfl
  | cons x r ih =>
    intro b c a v h
    cases x <;> simp only [afminK, reduceCtorEq] at h
    rename_i k' d
    split at h
    · rename_i hk
      subst hk
      simp only [List.map_cons, AVal.ren, afminK, if_true]
      exact ih _ _ _ _ h
    · cases h
theorem afold_ren (f : Nat → Nat) {g : AVal → AVal → Option AVal} (hg : ∀ x y v, g x y = some v → g (x.ren f) (y.ren f) = some (v.ren f)) : ∀ {l : List AVal} {a v : AVal}, afold g a l = some v → afold g (a.ren f) (l.map (AVal.ren f)) = some (v.ren f)
  | [], a, v, h => by simp only [afold, Option.some.injEq] at h; subst h; rfl
  | b :: r, a, v, h => by
    simp only [afold] at h
    split at h
    · rename_i c hc
      simp only [List.map_cons, afold, hg _ _ _ hc]
      exact afold_ren f hg h
    · cases h

theorem abuiltin_ren (f : Nat → Nat) {P : Program} {b : Builtin} {ts : List TypeId} {args : List AVal} {v : AVal} (h : abuiltin P b ts args = some v) : abuiltin P b ts (args.map (AVal.ren f)) = some (v.ren f) := by
  unfold abuiltin at h
  split at h
  · rename_i t r x
    cases hs : isSliceT P t
    · rw [hs, cond_false] at h
      cases hs2 : isStrT P t
      · rw [hs2] at h; simp at h
      · rw [hs2, cond_true] at h
        simp only [List.map_cons, List.map_nil, abuiltin, hs, hs2, cond_true, cond_false]
        split at h
        · simp only [Option.some.injEq] at h; subst h; rfl
        · cases h
    · rw [hs, cond_true] at h
      simp only [List.map_cons, List.map_nil, abuiltin, hs, cond_true]
      exact alen_ren f h
  · simp only [List.map_cons, abuiltin]; exact afold_ren (g := amax2) f (fun _ _ _ hh => amax2_ren f hh) h
  · simp only [List.map_cons, abuiltin]; exact afold_ren (g := amin2) f (fun _ _ _ hh => amin2_ren f hh) h
  · simp only [Option.some.injEq] at h; subst h; rfl
  · simp only [Option.some.injEq] at h; subst h; rfl
  · split at h
    · rename_i hk; subst hk
      simp only [Option.some.injEq] at h; subst h
      simp [abuiltin, AVal.ren]
    · cases h
  · cases h
theorem aslice0_ren (f : Nat → Nat) {P : Program} {t : TypeId} {x v mx : AVal} {lo hi : Option AVal} (h : aslice0 P t x lo hi mx = some v) : aslice0 P t (x.ren f) (lo.map (AVal.ren f)) (hi.map (AVal.ren f)) (mx.ren f) = some (v.ren f) := by
  unfold aslice0 at h
  split at h
  · rename_i e hu
    split at h
    · rename_i sz k0 k1 hz
      split at h <;> simp only [Option.some.injEq, reduceCtorEq] at h <;> subst h <;> simp [aslice0, hu, hz, AVal.ren]
    · cases h
  · cases h
theorem aat_ren (f : Nat → Nat) {P : Program} {t : TypeId} {x i v : AVal} (h : aat P t x i = some v) : aat P t (x.ren f) (i.ren f) = some (v.ren f) := by
  unfold aat at h
  split at h
  · rename_i s k n hu
    simp only [Bool.cond_eq_ite, Bool.and_eq_true, decide_eq_true_eq] at h
    split at h
    · rename_i hn
      simp only [Option.some.injEq] at h; subst h
      simp only [aat, hu, AVal.ren, hn.1, hn.2, decide_true, Bool.and_self, cond_true]
    · cases h
  · cases h
theorem aatK_ren (f : Nat → Nat) {P : Program} {t : TypeId} {x i v : AVal} {b : Bool} (h : aatK P t x i = some (b, v)) : aatK P t (x.ren f) (i.ren f) = some (b, v.ren f) := by
  unfold aatK at h
  split at h
  · rename_i s k n hu
    simp only [Option.some.injEq, Prod.mk.injEq] at h
    obtain ⟨rfl, rfl⟩ := h
    simp only [aatK, hu, AVal.ren]
  · cases h
theorem apure_ren (f : Nat → Nat) {P : Program} {ev : Operand → AVal} {o : Op} {v : AVal} (h : apure P ev o = some v) (h0 : ∀ op t x y yt, o ≠ .binOp op t x y yt) (h1 : ∀ t x i, o ≠ .indexAddr t x i) (h2 : ∀ t x lo hi, o ≠ .slice t x lo hi none) : apure P (fun x => (ev x).ren f) o = some (v.ren f) := by
  unfold apure at h
  split at h
  · simp only [Option.some.injEq] at h; subst h; rfl
  · simp only [Option.some.injEq] at h; subst h; rfl
  · exact (h0 _ _ _ _ _ rfl).elim
  · exact aun_ren f h
  · exact aconv_ren f h
  · rename_i t i
    split at h
    · rename_i vs hvs
      rw [nth_eq] at h
      simp only [apure, hvs, AVal.ren, rens_eq, nth_eq, List.getElem?_map, h, Option.map_some]
    · cases h
  · exact afield_ren f h
  · exact (h1 _ _ _ rfl).elim
  · exact (h2 _ _ _ _ rfl).elim
  · rename_i t x lo hi mx
    have := aslice0_ren f h
    simp only [Option.map_map] at this
    exact this
  · rename_i x
    split at h <;> simp only [Option.some.injEq, reduceCtorEq] at h
    all_goals (subst h; simp_all [apure, AVal.ren])
  · exact abuildS_ren f h
  · rename_i g first caps
    split at h
    · rename_i hf
      simp only [Option.some.injEq] at h; subst h
      simp only [apure, hf, AVal.ren, rens_eq, mapL_eq, List.map_map]
      rfl
    · cases h
  · rename_i b args ts
    have := abuiltin_ren f h
    rw [mapL_eq, List.map_map] at this
    simp only [apure, mapL_eq]
    exact this
  · exact aat_ren f h
  · cases h
theorem apureK_ren (f : Nat → Nat) {P : Program} {ev : Operand → AVal} {o : Op} {v : AVal} {b : Bool} (h : apureK P ev o = some (b, v)) : apureK P (fun x => (ev x).ren f) o = some (b, v.ren f) := by
  unfold apureK at h
  split at h
  · rename_i op t x y yt
    simp only [apureK]
    cases hn : nilC y with
    | true =>
      simp only [hn, cond_true] at h ⊢
      split at h
      · rename_i u hu
        simp only [Option.some.injEq, Prod.mk.injEq] at h
        obtain ⟨rfl, rfl⟩ := h
        unfold anil at hu
        rw [Bool.cond_eq_ite] at hu
        split at hu
        · rename_i ht
          split at hu
          · rename_i he; simp only [Option.some.injEq] at hu; subst hu; simp [he, AVal.ren, anil, ht]
          · rename_i he; simp only [Option.some.injEq] at hu; subst hu; simp [he, AVal.ren, anil, ht]
          · cases hu
        · cases hu
      · cases h
    | false =>
      simp only [hn, cond_false] at h ⊢
      exact abinK_ren f h
  · exact aindexK_ren f h
  · rename_i t x lo hi
    have := asliceK_ren f h
    cases lo <;> cases hi <;> exact this
  · exact aconvK_ren f h
  · exact aatK_ren f h
  · rename_i args ts
    have em : mapL (fun x => (ev x).ren f) args.toList = (mapL ev args.toList).map (AVal.ren f) := by rw [mapL_eq, mapL_eq, List.map_map]; rfl
    split at h
    · rename_i r hr
      simp only [Option.some.injEq] at h
      subst h
      unfold amaxK at hr
      split at hr
      · rename_i k a rest he
        have h2 := afmaxK_ren f _ _ _ _ _ hr
        simp only [apureK, em, he, List.map_cons, AVal.ren, amaxK, h2]
      · cases hr
    · rename_i hr
      split at h
      · rename_i u hu
        simp only [Option.some.injEq, Prod.mk.injEq] at h
        obtain ⟨rfl, rfl⟩ := h
        have hn : amaxK (mapL (fun x => (ev x).ren f) args.toList) = none := by
          rw [em]
          cases he : mapL ev args.toList with
          | nil => rfl
          | cons y l =>
            rw [he] at hr
            cases y <;> first
              | rfl
              | (rename_i k a
                 exfalso
                 simp only [apure, he, abuiltin] at hu
                 have key : ∀ (l : List AVal) (b : Bool) (a : Nat), (afold amax2 (.flt k a) l).isSome = true → (afmaxK k b a l).isSome = true := by
                   intro l
                   induction l with
                   | nil => intro b a _; rfl
                   | cons z l ih =>
                     intro b a h
                     cases z <;> simp only [afold, amax2, Option.isSome_none, Bool.false_eq_true] at h
                     rename_i k' d
                     by_cases hk : k = k'
                     · subst hk
                       simp only [if_true] at h
                       cases ho : ord.sp k a d
                       · simp [ho] at h
                       · simp only [ho, cond_true] at h
                         simp only [afmaxK, if_true]
                         exact ih _ _ h
                     · simp [hk] at h
                 have := key l true a (by rw [hu]; rfl)
                 simp only [amaxK] at hr
                 rw [hr] at this
                 cases this)
        have := apure_ren f hu (fun _ _ _ _ _ e => by cases e) (fun _ _ _ e => by cases e) (fun _ _ _ _ e => by cases e)
        simp only [apureK, hn, this]
      · cases h
  · rename_i args ts
    have em : mapL (fun x => (ev x).ren f) args.toList = (mapL ev args.toList).map (AVal.ren f) := by rw [mapL_eq, mapL_eq, List.map_map]; rfl
    split at h
    · rename_i r hr
      simp only [Option.some.injEq] at h
      subst h
      unfold aminK at hr
      split at hr
      · rename_i k a rest he
        have h2 := afminK_ren f _ _ _ _ _ hr
        simp only [apureK, em, he, List.map_cons, AVal.ren, aminK, h2]
      · cases hr
    · rename_i hr
      split at h
      · rename_i u hu
        simp only [Option.some.injEq, Prod.mk.injEq] at h
        obtain ⟨rfl, rfl⟩ := h
        have hn : aminK (mapL (fun x => (ev x).ren f) args.toList) = none := by
          rw [em]
          cases he : mapL ev args.toList with
          | nil => rfl
          | cons y l =>
            rw [he] at hr
            cases y <;> first
              | rfl
              | (rename_i k a
                 exfalso
                 simp only [apure, he, abuiltin] at hu
                 have key : ∀ (l : List AVal) (b : Bool) (a : Nat), (afold amin2 (.flt k a) l).isSome = true → (afminK k b a l).isSome = true := by
                   intro l
                   induction l with
                   | nil => intro b a _; rfl
                   | cons z l ih =>
                     intro b a h
                     cases z <;> simp only [afold, amin2, Option.isSome_none, Bool.false_eq_true] at h
                     rename_i k' d
                     by_cases hk : k = k'
                     · subst hk
                       simp only [if_true] at h
                       cases ho : ord.sp k a d
                       · simp [ho] at h
                       · simp only [ho, cond_true] at h
                         simp only [afminK, if_true]
                         exact ih _ _ h
                     · simp [hk] at h
                 have := key l true a (by rw [hu]; rfl)
                 simp only [aminK] at hr
                 rw [hr] at this
                 cases this)
        have := apure_ren f hu (fun _ _ _ _ _ e => by cases e) (fun _ _ _ e => by cases e) (fun _ _ _ _ e => by cases e)
        simp only [apureK, hn, this]
      · cases h
  · rename_i n1 n2 n3 n4 n6 n5 n7
    split at h
    · rename_i u hu
      simp only [Option.some.injEq, Prod.mk.injEq] at h
      obtain ⟨rfl, rfl⟩ := h
      have := apure_ren f hu (fun _ _ _ _ _ e => n1 _ _ _ _ _ e) (fun _ _ _ e => n2 _ _ _ e) (fun _ _ _ _ e => n3 _ _ _ _ e)
      unfold apureK
      split
      · exact (n1 _ _ _ _ _ rfl).elim
      · exact (n2 _ _ _ rfl).elim
      · exact (n3 _ _ _ _ rfl).elim
      · exact (n4 _ _ _ rfl).elim
      · exact (n6 _ _ _ rfl).elim
      · exact (n5 _ _ rfl).elim
      · exact (n7 _ _ rfl).elim
      · rw [this]
    · cases h

/-! Memory. -/
def BC.ren (f : Nat → Nat) : BC → BC
  | .typ c => .typ c
  | .cells vs => .cells (AVal.ren.rens f vs)
theorem Cont.getK_ren (f : Nat → Nat) (c : Cont) (i : Nat) : (c.getK i).2.ren f = (c.getK i).2 := by cases c <;> rfl
theorem gaK_ren (f : Nat → Nat) : ∀ (vs : List AVal) (i : Nat), gaK (AVal.ren.rens f vs) i = ((gaK vs i).1, (gaK vs i).2.ren f)
  | [], i => by cases i <;> rfl
  | v :: r, 0 => rfl
  | v :: r, i + 1 => gaK_ren f r i
theorem BC.getK_ren (f : Nat → Nat) {c : BC} {i : Nat} {b : Bool} {v : AVal} (h : c.getK i = some (b, v)) : (c.ren f).getK i = some (b, v.ren f) := by
  cases c with
  | typ c =>
    simp only [BC.getK, Option.some.injEq] at h
    have := Cont.getK_ren f c i
    rw [h] at this
    simp only [BC.ren, BC.getK, h, this]
  | cells vs =>
    simp only [BC.getK, Option.some.injEq, Prod.mk.injEq] at h
    obtain ⟨rfl, rfl⟩ := h
    simp only [BC.ren, BC.getK, gaK_ren f vs i]
/-- The heap 'H2' holds what 'H' holds, the blocks renamed. -/
def RenH (f : Nat → Nat) (H H2 : Heap) : Prop := ∀ (i : Nat) (blk : Blk), H[i]? = some blk → H2[f i]? = some ⟨blk.c.ren f, blk.ver⟩
theorem acellK_ren {f : Nat → Nat} {H H2 : Heap} (hr : RenH f H H2) {x v : AVal} {i : Nat} {b : Bool} (h : acellK H x i = some (b, v)) : acellK H2 (x.ren f) i = some (b, v.ren f) := by
  unfold acellK at h
  split at h
  · rename_i c off
    simp only [Option.some.injEq] at h
    have := Cont.getK_ren f c (addR off i)
    rw [h] at this
    simp only [AVal.ren, acellK, h, this]
  · rename_i vs off
    simp only [Option.some.injEq, Prod.mk.injEq] at h
    have := gaK_ren f vs (addR off i)
    rw [h.1, h.2] at this
    simp only [AVal.ren, acellK, this]
  · rename_i l off ver
    split at h
    · rename_i blk hb
      split at h
      · rename_i b' u hu
        simp only [Option.some.injEq, Prod.mk.injEq] at h
        obtain ⟨rfl, rfl⟩ := h
        rw [nth_eq] at hb
        simp only [AVal.ren, acellK, nth_eq, hr l blk hb, BC.getK_ren f hu]
      · cases h
    · cases h
  · cases h
theorem acellsK_ren {f : Nat → Nat} {H H2 : Heap} (hr : RenH f H H2) {x : AVal} : ∀ {n i : Nat} {b : Bool} {vs : List AVal}, acellsK H x i n = some (b, vs) → acellsK H2 (x.ren f) i n = some (b, vs.map (AVal.ren f))
  | 0, i, b, vs, h => by simp only [acellsK, Option.some.injEq, Prod.mk.injEq] at h; obtain ⟨rfl, rfl⟩ := h; rfl
  | n + 1, i, b, vs, h => by
    simp only [acellsK] at h
    split at h
    · rename_i b1 v hv
      split at h
      · rename_i b2 r hrr
        simp only [Option.some.injEq, Prod.mk.injEq] at h
        obtain ⟨rfl, rfl⟩ := h
        simp only [acellsK, acellK_ren hr hv, acellsK_ren hr hrr, List.map_cons]
      · cases h
    · cases h
theorem aloadK_ren {f : Nat → Nat} {P : Program} {H H2 : Heap} (hr : RenH f H H2) {t : TypeId} {x v : AVal} {b : Bool} (h : aloadK P H t x = some (b, v)) : aloadK P H2 t (x.ren f) = some (b, v.ren f) := by
  unfold aloadK at h
  split at h
  · rename_i d hd
    cases hag : isAggD d
    · simp only [hag, cond_false] at h
      simp only [aloadK, hd, hag, cond_false]
      exact acellK_ren hr h
    · simp only [hag, cond_true] at h
      split at h
      · rename_i n hz
        split at h
        · rename_i b1 vs hvs
          simp only [Option.some.injEq, Prod.mk.injEq] at h
          obtain ⟨rfl, rfl⟩ := h
          simp only [aloadK, hd, hag, cond_true, hz, acellsK_ren hr hvs, AVal.ren, rens_eq]
        · cases h
      · cases h
  · cases h

/-- A renaming of blocks, for these heaps and all that is made later. -/
structure RenOk (f : Nat → Nat) (G H H2 : Heap) : Prop where
  inj : ∀ a b, f a = f b → a = b
  held : RenH f H H2
  new : ∀ i, f (H.length + i) = H2.length + i
  keep : ∀ l b, (∀ i, f i ≠ l) → G[l]? = some b → H2[l]? = some b
variable {G : Heap}
def Blk.ren (f : Nat → Nat) (b : Blk) : Blk := ⟨b.c.ren f, b.ver⟩
theorem RenOk.snoc {f : Nat → Nat} {H H2 : Heap} (r : RenOk f G H H2) (blk : Blk) : RenOk f G (snoc H blk) (Ab.snoc H2 (blk.ren f)) := by
  refine ⟨r.inj, fun i b hb => ?_, fun i => ?_, fun l b hl hb => ?_⟩
  · rw [snoc_eq, List.getElem?_append] at hb
    rw [snoc_eq]
    split at hb
    · have h1 := r.held i b hb
      have h2 : f i < H2.length := (List.getElem?_eq_some_iff.1 h1).1
      rw [List.getElem?_append_left h2]; exact h1
    · rename_i hi
      have h0 : i - H.length = 0 := by
        have := (List.getElem?_eq_some_iff.1 hb).1
        simp at this; omega
      rw [h0] at hb
      simp only [List.getElem?_cons_zero, Option.some.injEq] at hb; subst hb
      have e : i = H.length + 0 := by omega
      rw [e, r.new 0, Nat.add_zero, List.getElem?_append_right (Nat.le_refl _)]
      simp [Blk.ren]
  · rw [snoc_eq, snoc_eq, List.length_append, List.length_append]
    simp only [List.length_cons, List.length_nil, Nat.zero_add]
    have := r.new (1 + i)
    rw [← Nat.add_assoc] at this
    rw [this]; omega
  · have h1 := r.keep l b hl hb
    rw [snoc_eq, List.getElem?_append_left (List.getElem?_eq_some_iff.1 h1).1]; exact h1
theorem RenOk.upd {f : Nat → Nat} {H H2 : Heap} (r : RenOk f G H H2) {l : Nat} {old : Blk} (hl : H[l]? = some old) (blk : Blk) : RenOk f G (upd H l blk) (Ab.upd H2 (f l) (blk.ren f)) := by
  have h0 : f l < H2.length := (List.getElem?_eq_some_iff.1 (r.held l old hl)).1
  have h1 : l < H.length := (List.getElem?_eq_some_iff.1 hl).1
  refine ⟨r.inj, fun i b hb => ?_, fun i => ?_, fun l2 b hl2 hb => ?_⟩
  · rw [upd_eq, List.getElem?_set] at hb
    rw [upd_eq, List.getElem?_set]
    by_cases e : l = i
    · subst e
      simp only [h1, if_true, Option.some.injEq] at hb; subst hb
      simp [h0, Blk.ren]
    · simp only [e, if_false] at hb
      have e2 : f l ≠ f i := fun hh => e (r.inj _ _ hh)
      simp only [e2, if_false]
      exact r.held i b hb
  · rw [upd_eq, upd_eq, List.length_set, List.length_set]; exact r.new i
  · rw [upd_eq, List.getElem?_set_ne (hl2 l)]; exact r.keep l2 b hl2 hb
theorem isCell_ren (f : Nat → Nat) (v : AVal) : (v.ren f).isCell = v.isCell := by cases v <;> rfl
theorem setC_ren (f : Nat → Nat) {c c' : Cont} {i : Nat} {v : AVal} {b : Bool} (h : c.setK i v = some (b, c')) : c.setK i (v.ren f) = some (b, c') := by
  cases c <;> cases v <;> first | exact h | (simp [Cont.setK] at h)
theorem BC.setK_ren (f : Nat → Nat) {c c' : BC} {i : Nat} {v : AVal} {b : Bool} (h : c.setK i v = some (b, c')) : (c.ren f).setK i (v.ren f) = some (b, c'.ren f) := by
  cases c with
  | typ c =>
    simp only [BC.setK] at h
    split at h
    · rename_i b1 c1 h1
      simp only [Option.some.injEq, Prod.mk.injEq] at h
      obtain ⟨rfl, rfl⟩ := h
      simp only [BC.ren, BC.setK, setC_ren f h1]
    · cases h
  | cells vs =>
    simp only [BC.setK, Option.some.injEq, Prod.mk.injEq] at h
    obtain ⟨rfl, rfl⟩ := h
    have hl : hlen (AVal.ren.rens f vs) = hlen vs := by rw [rens_eq, hlen_eq, hlen_eq, List.length_map]
    simp only [BC.ren, BC.setK, isCell_ren, hl]
    rw [rens_eq, rens_eq, upd_eq, upd_eq, List.map_set]
theorem absetK_ren (f : Nat → Nat) : ∀ {vs : List AVal} {c c' : BC} {off : Nat} {b : Bool}, absetK c off vs = some (b, c') → absetK (c.ren f) off (vs.map (AVal.ren f)) = some (b, c'.ren f)
  | [], c, c', off, b, h => by simp only [absetK, Option.some.injEq, Prod.mk.injEq] at h; obtain ⟨rfl, rfl⟩ := h; rfl
  | v :: r, c, c', off, b, h => by
    simp only [absetK] at h
    split at h
    · rename_i b1 c1 h1
      split at h
      · rename_i b2 c2 h2
        simp only [Option.some.injEq, Prod.mk.injEq] at h
        obtain ⟨rfl, rfl⟩ := h
        simp only [List.map_cons, absetK, BC.setK_ren f h1, absetK_ren f h2]
      · cases h
    · cases h
theorem astoreK_ren {f : Nat → Nat} {P : Program} {H H' H2 : Heap} (r : RenOk f G H H2) {t : TypeId} {x v : AVal} {b : Bool} (h : astoreK P H t x v = some (b, H')) : ∃ H2', astoreK P H2 t (x.ren f) (v.ren f) = some (b, H2') ∧ RenOk f G H' H2' := by
  unfold astoreK at h
  split at h
  · rename_i sz l off ver vs hz hvs
    split at h
    · rename_i blk hb
      split at h
      · rename_i b1 c1 h1
        simp only [Option.some.injEq, Prod.mk.injEq] at h
        obtain ⟨rfl, rfl⟩ := h
        rw [nth_eq] at hb
        have hl : hlen (vs.map (AVal.ren f)) = hlen vs := by rw [hlen_eq, hlen_eq, List.length_map]
        refine ⟨_, ?_, r.upd hb ⟨c1, blk.ver⟩⟩
        simp only [astoreK, AVal.ren, hz, cells_ren f hvs, nth_eq, r.held l blk hb, absetK_ren f h1, hl]
        rfl
      · cases h
    · cases h
  · cases h

theorem RenOk.tip {f : Nat → Nat} {H H2 : Heap} (r : RenOk f G H H2) : f (hlen H) = hlen H2 := by rw [hlen_eq, hlen_eq]; exact r.new 0
theorem ofCells_ren (f : Nat → Nat) (l : List Value) : AVal.ren.rens f (mapL ofCell l) = mapL ofCell l := by
  rw [rens_eq, mapL_eq, List.map_map]
  exact List.map_congr_left fun x _ => ofCell_ren f x
theorem azcells_ren (f : Nat → Nat) (cs : List Value) : (azcells cs).ren f = azcells cs := by
  unfold azcells
  cases longer (mapL ofCell cs) 17 with
  | false => simp only [cond_false, BC.ren, ofCells_ren]
  | true =>
    simp only [cond_true]
    split
    · rfl
    · simp only [BC.ren, ofCells_ren]
theorem asliceMK_ren {f : Nat → Nat} {P : Program} {H H2 : Heap} (hr : RenH f H H2) {t : TypeId} {x v : AVal} {lo : Option AVal} {b : Bool} (h : asliceMK P H t x lo = some (b, v)) : asliceMK P H2 t (x.ren f) (lo.map (AVal.ren f)) = some (b, v.ren f) := by
  unfold asliceMK at h
  split at h
  · rename_i n e hu
    split at h
    · rename_i l ver hz
      split at h
      · rename_i k xs ver' hb
        split at h
        · rename_i b1 j h1
          simp only [Option.some.injEq, Prod.mk.injEq] at h; obtain ⟨rfl, rfl⟩ := h
          rw [nth_eq] at hb
          have h2 := hr l _ hb
          simp only [asliceMK, hu, hz, AVal.ren, nth_eq, h2, BC.ren, aboundK_ren, h1]
        · cases h
      · cases h
    · cases h
  · cases h
theorem aalloc_ren {f : Nat → Nat} {P : Program} {H H' H2 : Heap} (r : RenOk f G H H2) {e : TypeId} {v : AVal} (h : aalloc P H e = some (v, H')) : ∃ H2', aalloc P H2 e = some (v.ren f, H2') ∧ RenOk f G H' H2' := by
  unfold aalloc at h
  split at h
  · rename_i i hi
    split at h
    · rename_i z hz
      simp only [Option.some.injEq, Prod.mk.injEq] at h
      obtain ⟨rfl, rfl⟩ := h
      refine ⟨_, ?_, r.snoc _⟩
      simp only [aalloc, hi, hz, AVal.ren, r.tip, Blk.ren, azcells_ren]
    · cases h
  · cases h
theorem abox_ren {f : Nat → Nat} {H H' H2 : Heap} (r : RenOk f G H H2) {x v : AVal} (h : abox H x = some (v, H')) : ∃ H2', abox H2 (x.ren f) = some (v.ren f, H2') ∧ RenOk f G H' H2' := by
  unfold abox at h
  split at h
  · rename_i vs hvs
    simp only [Option.some.injEq, Prod.mk.injEq] at h
    obtain ⟨rfl, rfl⟩ := h
    refine ⟨_, ?_, r.snoc _⟩
    simp only [abox, cells_ren f hvs, AVal.ren, r.tip, Blk.ren, BC.ren, rens_eq]
  · cases h
theorem amakeK_ren {f : Nat → Nat} {P : Program} {H H' H2 : Heap} (r : RenOk f G H H2) {t : TypeId} {x y v : AVal} {b : Bool} (h : amakeK P H t x y = some (b, v, H')) : ∃ H2', amakeK P H2 t (x.ren f) (y.ren f) = some (b, v.ren f, H2') ∧ RenOk f G H' H2' := by
  unfold amakeK at h
  split at h
  · rename_i e k n k' m hu
    split at h
    · rename_i i hi
      split at h
      · rename_i z hz
        split at h
        · rename_i c hc
          simp only [Option.some.injEq, Prod.mk.injEq] at h
          obtain ⟨rfl, rfl, rfl⟩ := h
          refine ⟨_, ?_, r.snoc _⟩
          simp only [amakeK, hu, hi, hz, hc, AVal.ren, r.tip, Blk.ren, BC.ren]
        · cases h
      · cases h
    · cases h
  · cases h
theorem setQ_ren (f : Nat → Nat) {c c' : Cont} {i : Nat} {v : AVal} (h : c.set? i v = some c') : c.set? i (v.ren f) = some c' := by
  cases c <;> cases v <;> first | exact h | (simp [Cont.set?] at h)
theorem BC.setQ_ren (f : Nat → Nat) {c c' : BC} {i : Nat} {v : AVal} (h : c.set? i v = some c') : (c.ren f).set? i (v.ren f) = some (c'.ren f) := by
  cases c with
  | typ c =>
    simp only [BC.set?] at h
    split at h
    · rename_i c1 h1
      simp only [Option.some.injEq] at h; subst h
      simp only [BC.ren, BC.set?, Ab.setQ_ren f h1]
    · cases h
  | cells vs =>
    simp only [BC.set?] at h
    cases hc : v.isCell && decide (i < hlen vs)
    · rw [hc] at h; simp at h
    · rw [hc, cond_true] at h
      simp only [Option.some.injEq] at h; subst h
      have hl : hlen (AVal.ren.rens f vs) = hlen vs := by rw [rens_eq, hlen_eq, hlen_eq, List.length_map]
      simp only [BC.ren, BC.set?, isCell_ren, hl, hc, cond_true]
      rw [rens_eq, rens_eq, upd_eq, upd_eq, List.map_set]
theorem bfill_ren (f : Nat → Nat) {ev : Operand → AVal} : ∀ {l : List (Nat × Operand)} {c c' : BC}, abuild.fill ev c l = some c' → abuild.fill (fun x => (ev x).ren f) (c.ren f) l = some (c'.ren f)
  | [], c, c', h => by simp only [abuild.fill, Option.some.injEq] at h; subst h; rfl
  | (i, x) :: l, c, c', h => by
    simp only [abuild.fill] at h
    split at h
    · rename_i c1 h1
      simp only [abuild.fill, BC.setQ_ren f h1]
      exact bfill_ren f h
    · cases h
theorem abuild_ren {f : Nat → Nat} {P : Program} {ev : Operand → AVal} {H H' H2 : Heap} (r : RenOk f G H H2) {t : TypeId} {n : Nat} {l : List (Nat × Operand)} {v : AVal} (h : abuild P ev H t n l = some (v, H')) : ∃ H2', abuild P (fun x => (ev x).ren f) H2 t n l = some (v.ren f, H2') ∧ RenOk f G H' H2' := by
  unfold abuild at h
  split at h
  · rename_i e hu
    split at h
    · rename_i i hi
      split at h
      · rename_i z hz
        cases hb : i.size == 1 && decide (n ≤ 1000000)
        · rw [hb] at h; simp at h
        · rw [hb, cond_true] at h
          split at h
          · rename_i c hc
            split at h
            · rename_i c1 h1
              simp only [Option.some.injEq, Prod.mk.injEq] at h
              obtain ⟨rfl, rfl⟩ := h
              have this : abuild.fill (fun x => (ev x).ren f) (.typ c) l = some (c1.ren f) := bfill_ren f h1
              refine ⟨_, ?_, r.snoc _⟩
              simp only [abuild, hu, hi, hz, hb, cond_true, hc, this, AVal.ren, r.tip, Blk.ren]
            · cases h
          · cases h
      · cases h
    · cases h
  · cases h
theorem abcells_ren (f : Nat → Nat) {ev : Operand → AVal} {sz : Nat} : ∀ {l : List (Nat × Operand)} {i : Nat} {us : List AVal}, abcells ev sz i l = some us → abcells (fun x => (ev x).ren f) sz i l = some (us.map (AVal.ren f))
  | [], i, us, h => by simp only [abcells, Option.some.injEq] at h; subst h; rfl
  | (j, x) :: l, i, us, h => by
    simp only [abcells] at h
    cases hb : eqN i j
    · rw [hb] at h; simp at h
    · rw [hb, cond_true] at h
      split at h
      · rename_i vs hvs
        cases hc : eqN (hlen vs) sz
        · rw [hc] at h; simp at h
        · rw [hc, cond_true] at h
          split at h
          · rename_i us' hus
            simp only [Option.some.injEq] at h; subst h
            have h2 := cells_ren f hvs
            have hl : hlen (vs.map (AVal.ren f)) = hlen vs := by rw [hlen_eq, hlen_eq, List.length_map]
            simp only [abcells, hb, cond_true, h2, hl, hc, abcells_ren f hus, app_eq, List.map_append]
          · cases h
      · cases h
theorem abuildC_ren {f : Nat → Nat} {P : Program} {ev : Operand → AVal} {H H' H2 : Heap} (r : RenOk f G H H2) {t : TypeId} {n : Nat} {l : List (Nat × Operand)} {v : AVal} (h : abuildC P ev H t n l = some (v, H')) : ∃ H2', abuildC P (fun x => (ev x).ren f) H2 t n l = some (v.ren f, H2') ∧ RenOk f G H' H2' := by
  unfold abuildC at h
  split at h
  · rename_i e hu
    split at h
    · rename_i i hi
      split at h
      · rename_i z hz
        cases hb : decide (2 ≤ i.size) && (decide (n * i.size ≤ 1000000) && (eqN (hlen l) n && decide (2 ≤ n)))
        · rw [hb] at h; simp at h
        · rw [hb, cond_true] at h
          split at h
          · rename_i vs hvs
            simp only [Option.some.injEq, Prod.mk.injEq] at h
            obtain ⟨rfl, rfl⟩ := h
            have this := abcells_ren f hvs
            refine ⟨_, ?_, r⟩
            simp only [abuildC, hu, hi, hz, hb, cond_true, this, AVal.ren, rens_eq]
          · cases h
      · cases h
    · cases h
  · cases h
theorem abuildA_none (f : Nat → Nat) {P : Program} {ev : Operand → AVal} {H H2 : Heap} {t : TypeId} {n : Nat} {l : List (Nat × Operand)} {r : AVal × Heap} (h : abuild P ev H t n l = none) (hc : abuildC P ev H t n l = some r) : abuild P (fun x => (ev x).ren f) H2 t n l = none := by
  unfold abuildC at hc
  split at hc
  · rename_i e hu
    split at hc
    · rename_i i hi
      split at hc
      · rename_i z hz
        cases hb : decide (2 ≤ i.size) && (decide (n * i.size ≤ 1000000) && (eqN (hlen l) n && decide (2 ≤ n)))
        · rw [hb] at hc; simp at hc
        · simp only [Bool.and_eq_true, decide_eq_true_eq] at hb
          have hs : (i.size == 1 && decide (n ≤ 1000000)) = false := by
            have : (i.size == 1) = false := by rw [beq_eq_false_iff_ne]; omega
            rw [this, Bool.false_and]
          unfold abuild
          simp only [hu, hi, hz, hs, cond_false]
      · cases hc
    · cases hc
  · cases hc
theorem abuildA_ren {f : Nat → Nat} {P : Program} {ev : Operand → AVal} {H H' H2 : Heap} (r : RenOk f G H H2) {t : TypeId} {n : Nat} {l : List (Nat × Operand)} {v : AVal} (h : abuildA P ev H t n l = some (v, H')) : ∃ H2', abuildA P (fun x => (ev x).ren f) H2 t n l = some (v.ren f, H2') ∧ RenOk f G H' H2' := by
  unfold abuildA at h
  split at h
  · rename_i q hq
    simp only [Option.some.injEq] at h; subst h
    obtain ⟨H2', h1, h2⟩ := abuild_ren r hq
    exact ⟨H2', by simp only [abuildA, h1], h2⟩
  · rename_i hn
    obtain ⟨H2', h1, h2⟩ := abuildC_ren r h
    exact ⟨H2', by simp only [abuildA, abuildA_none f hn h, h1], h2⟩
theorem areadK_ren {f : Nat → Nat} {H H2 : Heap} (r : RenOk f G H H2) {x : AVal} {c : Cont} {b : Bool} (h : areadK H x = some (b, c)) : areadK H2 (x.ren f) = some (b, c) := by
  unfold areadK at h
  split at h
  · exact h
  · rename_i l off len ver z
    split at h
    · rename_i c1 ver1 hb
      rw [nth_eq] at hb
      simp only [AVal.ren, areadK, nth_eq, r.held l _ hb, BC.ren]
      exact h
    · cases h
  · cases h
theorem aappendK_ren {f : Nat → Nat} {P : Program} {H H' H2 : Heap} (r : RenOk f G H H2) {t : TypeId} {s x v : AVal} {b : Bool} (h : aappendK P H t s x = some (b, v, H')) : ∃ H2', aappendK P H2 t (s.ren f) (x.ren f) = some (b, v.ren f, H2') ∧ RenOk f G H' H2' := by
  unfold aappendK at h
  split at h
  · rename_i e hu
    split at h
    · rename_i i hi
      split at h
      · rename_i z hz
        split at h
        · rename_i l off len ver z1 b1 news hx
          split at h
          · rename_i c ver1 hb
            split at h
            · rename_i c1 hc
              simp only [Option.some.injEq, Prod.mk.injEq] at h
              obtain ⟨rfl, rfl, rfl⟩ := h
              rw [nth_eq] at hb
              refine ⟨_, ?_, r.upd hb _⟩
              simp only [aappendK, hu, hi, hz, areadK_ren r hx, AVal.ren, nth_eq, r.held l _ hb, BC.ren, hc, Blk.ren]
            · cases h
          · cases h
        · rename_i b1 news hx
          have hx2 := areadK_ren r hx
          split at h
          · simp only [Option.some.injEq, Prod.mk.injEq] at h
            obtain ⟨rfl, rfl, rfl⟩ := h
            exact ⟨_, by simp only [AVal.ren] at hx2 ⊢; simp only [aappendK, hu, hi, hz, hx2], r⟩
          · simp only [Option.some.injEq, Prod.mk.injEq] at h
            obtain ⟨rfl, rfl, rfl⟩ := h
            exact ⟨_, by simp only [AVal.ren] at hx2 ⊢; simp only [aappendK, hu, hi, hz, hx2], r⟩
          · rename_i n1 n2
            simp only [Option.some.injEq, Prod.mk.injEq] at h
            obtain ⟨rfl, rfl, rfl⟩ := h
            refine ⟨_, ?_, r.snoc _⟩
            cases x <;> simp only [AVal.ren] at hx2 ⊢
            case ro c1 len1 z1 =>
              cases len1 with
              | zero => exact (n1 _ _ rfl).elim
              | succ len1 => simp only [aappendK, hu, hi, hz, hx2, r.tip, Blk.ren, BC.ren]
            case own l1 o1 len1 v1 z1 =>
              cases len1 with
              | zero => exact (n2 _ _ _ _ rfl).elim
              | succ len1 => simp only [aappendK, hu, hi, hz, hx2, r.tip, Blk.ren, BC.ren]
            all_goals simp [areadK] at hx
        · rename_i b1 news hx
          have hx2 := areadK_ren r hx
          simp only [Option.some.injEq, Prod.mk.injEq] at h
          obtain ⟨rfl, rfl, rfl⟩ := h
          refine ⟨_, ?_, r.snoc _⟩
          simp only [aappendK, hu, hi, hz, hx2, AVal.ren, r.tip, Blk.ren, BC.ren]
        · cases h
      · cases h
    · cases h
  · cases h

theorem aclearK_ren {f : Nat → Nat} {P : Program} {H H' H2 : Heap} (r : RenOk f G H H2) {t : TypeId} {x : AVal} {b : Bool} (h : aclearK P H t x = some (b, H')) : ∃ H2', aclearK P H2 t (x.ren f) = some (b, H2') ∧ RenOk f G H' H2' := by
  unfold aclearK at h
  split at h
  · rename_i e l off len ver z hu
    split at h
    · rename_i i hi
      split at h
      · rename_i k hz
        split at h
        · rename_i k' xs ver' hb
          split at h
          · rename_i hk
            simp only [Option.some.injEq, Prod.mk.injEq] at h
            obtain ⟨rfl, rfl⟩ := h
            have hb' : H[l]? = some ⟨.typ (.ints k' xs), ver'⟩ := by rw [← nth_eq]; exact hb
            have h2 : Ab.nth H2 (f l) = some ⟨.typ (.ints k' xs), ver'⟩ := by rw [nth_eq]; exact r.held l _ hb'
            refine ⟨_, ?_, r.upd hb' _⟩
            simp only [aclearK, hu, AVal.ren, hi, hz, h2, hk, if_true]
            rfl
          · cases h
        · cases h
      · cases h
    · cases h
  · cases h
theorem shrink_ren (f : Nat → Nat) (n : Nat) (v : AVal) : (v.ren f).shrink n = (v.shrink n).ren f := by cases v <;> rfl
theorem acopyK_ren {f : Nat → Nat} {P : Program} {H H' H2 : Heap} (r : RenOk f G H H2) {t : TypeId} {x y v : AVal} {b : Bool} (h : acopyK P H t x y = some (b, v, H')) : ∃ H2', acopyK P H2 t (x.ren f) (y.ren f) = some (b, v.ren f, H2') ∧ RenOk f G H' H2' := by
  unfold acopyK at h
  split at h
  · rename_i e l off len ver z hu
    split at h
    · rename_i i hi
      split at h
      · rename_i b0 _ ys0 h0
        split at h
        · rename_i b1 k ys h1
          split at h
          · rename_i k' xs ver' hb
            split at h
            · rename_i hk
              simp only [Option.some.injEq, Prod.mk.injEq] at h
              obtain ⟨rfl, rfl, rfl⟩ := h
              have hb' : H[l]? = some ⟨.typ (.ints k' xs), ver'⟩ := by rw [← nth_eq]; exact hb
              have h2 : Ab.nth H2 (f l) = some ⟨.typ (.ints k' xs), ver'⟩ := by rw [nth_eq]; exact r.held l _ hb'
              refine ⟨_, ?_, r.upd hb' _⟩
              simp only [acopyK, hu, AVal.ren, hi, areadK_ren r h0, shrink_ren, areadK_ren r h1, h2, hk, if_true]
              rfl
            · cases h
          · cases h
        · cases h
      · rename_i b0 ys0 h0
        split at h
        · rename_i b1 ys h1
          split at h
          · rename_i xs ver' hb
            simp only [Option.some.injEq, Prod.mk.injEq] at h
            obtain ⟨rfl, rfl, rfl⟩ := h
            have hb' : H[l]? = some ⟨.typ (.bools xs), ver'⟩ := by rw [← nth_eq]; exact hb
            have h2 : Ab.nth H2 (f l) = some ⟨.typ (.bools xs), ver'⟩ := by rw [nth_eq]; exact r.held l _ hb'
            refine ⟨_, ?_, r.upd hb' _⟩
            simp only [acopyK, hu, AVal.ren, hi, areadK_ren r h0, shrink_ren, areadK_ren r h1, h2]
            rfl
          · cases h
        · cases h
      · cases h
    · cases h
  · cases h
theorem aconvMK_ren {f : Nat → Nat} {P : Program} {H H2 : Heap} (hr : RenOk f G H H2) {a b : TypeId} {x v : AVal} {c : Bool} (h : aconvMK P H a b x = some (c, v)) : aconvMK P H2 a b (x.ren f) = some (c, v.ren f) := by
  unfold aconvMK at h
  split at h
  · rename_i e h1 h2
    split at h
    · rename_i h3
      split at h
      · rename_i b1 xs hx
        simp only [Option.some.injEq, Prod.mk.injEq] at h; obtain ⟨rfl, rfl⟩ := h
        simp only [aconvMK, h1, h2, h3, areadK_ren hr hx, AVal.ren]
      · cases h
    · cases h
  · rename_i e h1 h2
    split at h
    · rename_i s h3
      simp only [Option.some.injEq, Prod.mk.injEq] at h; obtain ⟨rfl, rfl⟩ := h
      simp only [aconvMK, h1, h2, h3, AVal.ren]
    · cases h
  · cases h
theorem amemK_ren {f : Nat → Nat} {P : Program} {s s2 : State} (hs : s2.t = s.t.map (AVal.ren f)) (r : RenOk f G s.h s2.h) {o : Op} {v : AVal} {H' : Heap} {b : Bool} (h : amemK P s o = some (b, v, H')) : ∃ H2', amemK P s2 o = some (b, v.ren f, H2') ∧ RenOk f G H' H2' := by
  have ev : ∀ x, s2.ev x = (s.ev x).ren f := by
    intro x
    cases s; cases s2; simp only at hs; subst hs
    exact ev_ren f _ _ _ x
  have evf : s2.ev = (fun x => (s.ev x).ren f) := funext ev
  unfold amemK at h
  split at h
  · split at h
    · rename_i b u hu
      simp only [Option.some.injEq, Prod.mk.injEq] at h
      obtain ⟨rfl, rfl, rfl⟩ := h
      exact ⟨s2.h, by simp only [amemK, ev, aloadK_ren r.held hu], r⟩
    · cases h
  · split at h
    · rename_i b u hu
      simp only [Option.some.injEq, Prod.mk.injEq] at h
      obtain ⟨rfl, rfl, rfl⟩ := h
      obtain ⟨H2', h2, r2⟩ := astoreK_ren r hu
      exact ⟨H2', by simp only [amemK, ev, h2]; rfl, r2⟩
    · cases h
  · split at h
    · rename_i q hq
      obtain ⟨q1, q2⟩ := q
      simp only [Option.some.injEq, Prod.mk.injEq] at h
      obtain ⟨rfl, rfl, rfl⟩ := h
      obtain ⟨H2', h2, r2⟩ := aalloc_ren r hq
      exact ⟨H2', by simp only [amemK, h2], r2⟩
    · cases h
  · split at h
    · rename_i q hq
      obtain ⟨q1, q2⟩ := q
      simp only [Option.some.injEq, Prod.mk.injEq] at h
      obtain ⟨rfl, rfl, rfl⟩ := h
      obtain ⟨H2', h2, r2⟩ := abox_ren r hq
      exact ⟨H2', by simp only [amemK, ev, h2], r2⟩
    · cases h
  · obtain ⟨H2', h2, r2⟩ := amakeK_ren r h
    exact ⟨H2', by simp only [amemK, ev, h2], r2⟩
  · split at h
    · rename_i b u hu
      simp only [Option.some.injEq, Prod.mk.injEq] at h
      obtain ⟨rfl, rfl, rfl⟩ := h
      exact ⟨s2.h, by simp only [amemK, ev, aconvMK_ren r hu], r⟩
    · cases h
  · rename_i t x lo
    split at h
    · rename_i b u hu
      simp only [Option.some.injEq, Prod.mk.injEq] at h
      obtain ⟨rfl, rfl, rfl⟩ := h
      have hn := asliceMK_ren r.held hu
      refine ⟨s2.h, ?_, r⟩
      cases lo <;> (simp only [Option.map_none, Option.map_some] at hn; simp only [amemK, ev, hn])
    · cases h
  · split at h
    · rename_i q hq
      obtain ⟨q1, q2⟩ := q
      simp only [Option.some.injEq, Prod.mk.injEq] at h
      obtain ⟨rfl, rfl, rfl⟩ := h
      obtain ⟨H2', h2, r2⟩ := abuildA_ren r hq
      exact ⟨H2', by simp only [amemK, evf, h2], r2⟩
    · cases h
  · split at h
    · rename_i x y t t' hargs hts
      simp only [eqN_eq, Bool.cond_eq_ite] at h
      split at h
      · rename_i ht
        obtain ⟨H2', h2, r2⟩ := aappendK_ren r h
        refine ⟨H2', ?_, r2⟩
        have ha := congrArg (mapL (AVal.ren f)) hargs
        rw [mapL_eq, mapL_eq, List.map_map] at ha
        change List.map (fun x => AVal.ren f (s.ev x)) _ = [x.ren f, y.ren f] at ha
        simp only [amemK, mapL_eq, evf, ha, hts, eqN_eq, ht, Bool.cond_eq_ite, if_true]
        exact h2
      · cases h
    · cases h
  · split at h
    · rename_i x t hargs hts
      split at h
      · rename_i b1 h1 hc
        simp only [Option.some.injEq, Prod.mk.injEq] at h
        obtain ⟨rfl, rfl, rfl⟩ := h
        obtain ⟨H2', h2, r2⟩ := aclearK_ren r hc
        refine ⟨H2', ?_, r2⟩
        have ha := congrArg (mapL (AVal.ren f)) hargs
        rw [mapL_eq, mapL_eq, List.map_map] at ha
        change List.map (fun x => AVal.ren f (s.ev x)) _ = [x.ren f] at ha
        simp only [amemK, mapL_eq, evf, ha, hts, h2]
        rfl
      · cases h
    · cases h
  · split at h
    · rename_i x y t t' hargs hts
      obtain ⟨H2', h2, r2⟩ := acopyK_ren r h
      refine ⟨H2', ?_, r2⟩
      have ha := congrArg (mapL (AVal.ren f)) hargs
      rw [mapL_eq, mapL_eq, List.map_map] at ha
      change List.map (fun x => AVal.ren f (s.ev x)) _ = [x.ren f, y.ren f] at ha
      simp only [amemK, mapL_eq, evf, ha, hts]
      exact h2
    · cases h
  · cases h

end Go.Proofs.YtjhofofieiiplaaGreatDoor.Ab
