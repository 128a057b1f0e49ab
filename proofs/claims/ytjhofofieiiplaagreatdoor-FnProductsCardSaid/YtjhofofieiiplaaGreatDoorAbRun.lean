/-
  The abstract machine: bodies are carried out ('run'), and what comes of it is what the model's call does.
-/
import Derived.Test.YtjhofofieiiplaaGreatDoorAbApp
import Derived.Test.YtjhofofieiiplaaGreatDoorAbK
namespace Go.Proofs.YtjhofofieiiplaaGreatDoor.Ab
open Go
set_option linter.unusedVariables false
set_option linter.unusedSimpArgs false

/-! ### Calls -/

def ACalls (P : Program) (f : FuncId) (args : List AVal) (H : Heap) (v : AVal) (H' : Heap) : Prop :=
  ∀ [Fb : Forb] (ρ : List Nat) (w : World) (cargs : Array Value), Sim ρ H w → VRs ρ H w args cargs.toList → GL ρ w → Calls P f cargs w fun e w' => ∃ c, e = .returned c ∧ G ρ H w v H' c w'
def Enters (P : Program) (f : FuncId) : Prop := ∃ fn, P.funcs[f]? = some fn ∧ fn.body.isNone = false ∧ (fn.name == "runtime.NumGoroutine") = false
/-- A call comes to this: it is entered, or carried out at once. -/
structure Called (P : Program) (f : FuncId) (args : List AVal) (H : Heap) (v : AVal) (H' : Heap) : Prop where
  go : ∀ [Fb : Forb] (ρ : List Nat) (w : World) (cargs : Array Value), Sim ρ H w → VRs ρ H w args cargs.toList → GL ρ w → Outs P (G ρ H w v H') ((callFunc f cargs).run P w)
theorem Called.enter {P : Program} {f : FuncId} {args : List AVal} {H : Heap} {v : AVal} {H' : Heap} (he : Enters P f) (hc : ACalls P f args H v H') : Called P f args H v H' := by
  refine ⟨?_⟩
  intro F ρ w cargs S hargs gl
  obtain ⟨fn, e1, e2, e3⟩ := he
  have e2' : ¬ fn.body = none := by intro hb; simp [hb] at e2
  have e3' : ¬ fn.name = "runtime.NumGoroutine" := by simpa using e3
  have hr : (callFunc f cargs).run P w = .ok (.enter f cargs) w := by simp [callFunc, program, Sem.run, e1, e2', e3']
  rw [hr]
  exact hc ρ w cargs S hargs gl
def OrcOk (P : Program) (A : Orc) : Prop := ∀ f args H v H', A f args H = some (v, H') → Called P f args H v H'

theorem call_step [Fb : Forb] {P : Program} {A : Orc} (hA : OrcOk P A) {s : State} {o : Oper} {v : AVal} {H' : Heap} (h : acall A s o.op = some (v, H')) {ρ : List Nat} {w : World} {a : Act} (T : TR ρ s.h w s.t a.tmps) (S : Sim ρ s.h w) :
    Outs P (G ρ s.h w v H') ((execOp a.eval o).run P w) := by
  obtain ⟨dst, op, ty, pos, after, guard⟩ := o
  simp only [] at h ⊢
  unfold acall at h
  simp only [app_eq, mapL_eq] at h
  split at h
  · rename_i f args ts
    split at h
    · rename_i fid caps hf
      have hv := T.ev f
      rw [hf] at hv
      generalize hc : a.eval f = c at hv
      cases hv
      rename_i cs hl hh
      have hcall := (hA _ _ _ _ _ h).go
      have hcaps : VRs ρ s.h w caps cs.toList := by
        refine ⟨by simpa using hl, fun i u x hu hx => ?_⟩
        have := hh i u hu
        simp only [Array.getElem?_toList] at hx
        simpa [Array.getD_eq_getD_getElem?, hx] using this
      have hargs : VRs ρ s.h w (args.toList.map s.ev ++ caps) (args.map a.eval ++ cs).toList := by
        rw [Array.toList_append, Array.toList_map]
        exact (T.evs _).app hcaps
      have := hcall ρ w _ S hargs T.gl
      have hr : (execOp a.eval { dst := dst, op := .call { callee := .value f, args := args, argTypes := ts }, type := ty, pos := pos, after := after, guard := guard }).run P w = (callFunc fid (args.map a.eval ++ cs)).run P w := by
        simp [execOp, resolve, hc, Deferred.ofValue, invoke]
      rw [hr]
      exact this
    · cases h
  · cases h

theorem value_outs [Fb : Forb] {P : Program} {ρ : List Nat} {H H' : Heap} {w : World} {v : AVal} {m : Sem Value} (h : ∃ c w', m.run P w = .ok c w' ∧ G ρ H w v H' c w') {r : Result Next} (hr : r = ((do pure (Next.value (← m)) : Sem Next)).run P w) : Outs P (G ρ H w v H') r := by
  obtain ⟨c, w', h1, h2⟩ := h
  subst hr
  simp only [Sem.run_bind, h1, Result.andThen_ok, Sem.run_pure, Outs]
  exact h2

theorem mem_step [Fb : Forb] {P : Program} {s : State} {o : Oper} {v : AVal} {H' : Heap} (h : amem P s o.op = some (v, H')) {ρ : List Nat} {w : World} {a : Act} (T : TR ρ s.h w s.t a.tmps) (S : Sim ρ s.h w) :
    Outs P (G ρ s.h w v H') ((execOp a.eval o).run P w) := by
  obtain ⟨dst, op, ty, pos, after, guard⟩ := o
  simp only [] at h ⊢
  unfold amem at h
  simp only [mapL_eq] at h
  split at h
  · rename_i t x
    split at h
    · rename_i u hu
      simp only [Option.some.injEq, Prod.mk.injEq] at h
      obtain ⟨rfl, rfl⟩ := h
      exact (load_ok S hu (T.ev x)).outs S (by simp [execOp])
    · cases h
  · rename_i t x y
    split at h
    · rename_i h' hh
      simp only [Option.some.injEq, Prod.mk.injEq] at h
      obtain ⟨rfl, rfl⟩ := h
      obtain ⟨w', k1, k2, k3⟩ := store_ok (P := P) S hh (T.ev x) (T.ev y)
      have : (execOp a.eval { dst := dst, op := .store t x y, type := ty, pos := pos, after := after, guard := guard }).run P w = .ok .skip w' := by simp [execOp, k1]
      rw [this]
      exact ⟨ρ, .undef, k3, k2⟩
    · cases h
  · exact value_outs (alloc_ok S h) (by simp [execOp])
  · rename_i e x; exact value_outs (box_ok (e := e) S h (T.ev _)) (by simp [execOp])
  · exact value_outs (make_ok S h (T.ev _) (T.ev _)) (by simp [execOp])
  · rename_i a' b' x
    split at h
    · rename_i u hu
      simp only [Option.some.injEq, Prod.mk.injEq] at h
      obtain ⟨rfl, rfl⟩ := h
      exact value_outs (convM_ok S hu (T.ev x)) (by simp [execOp])
    · cases h
  · rename_i t x lo
    split at h
    · rename_i u hu
      simp only [Option.some.injEq, Prod.mk.injEq] at h
      obtain ⟨rfl, rfl⟩ := h
      refine (sliceM_ok (clo := lo.map a.eval) S hu (T.ev x) ?_ ?_).outs S (by simp [execOp])
      · intro y hy; cases lo <;> simp at hy ⊢; subst hy; exact T.ev _
      · intro hy; cases lo <;> simp at hy ⊢
    · cases h
  · exact value_outs (buildA_ok T S h) (by simp [execOp])
  · rename_i args ts
    split at h
    · rename_i x y t t' hargs hts
      simp only [Bool.cond_eq_ite, beq_iff_eq] at h
      split at h
      · rename_i ht; subst ht
        have hv : VRs ρ s.h w [x, y] (args.toList.map a.eval) := by rw [← hargs]; exact T.evs _
        obtain ⟨c1, cs1, e1, v1, hv1⟩ := hv.inv_cons
        obtain ⟨c2, cs2, rfl, v2, hv2⟩ := hv1.inv_cons
        obtain rfl := hv2.inv_nil
        have hts' : ts = #[t, t] := by cases ts; simp at hts; simp [hts]
        have hargs' : args.map a.eval = #[c1, c2] := by
          apply Array.ext'
          rw [Array.toList_map, e1]
        refine value_outs (append_ok S h v1 v2 ty) ?_
        simp [execOp, resolve, invoke, builtin, hargs', hts']
      · cases h
    · cases h
  · rename_i args ts
    split at h
    · rename_i x t hargs hts
      split at h
      · rename_i h1 hc
        simp only [Option.some.injEq, Prod.mk.injEq] at h
        obtain ⟨rfl, rfl⟩ := h
        have hv : VRs ρ s.h w [x] (args.toList.map a.eval) := by rw [← hargs]; exact T.evs _
        obtain ⟨c1, cs1, e1, v1, hv1⟩ := hv.inv_cons
        obtain rfl := hv1.inv_nil
        have hts' : ts = #[t] := by cases ts; simp at hts; simp [hts]
        have hargs' : args.map a.eval = #[c1] := by
          apply Array.ext'
          rw [Array.toList_map, e1]
        refine value_outs (clear_ok S hc v1 ty) ?_
        simp [execOp, resolve, invoke, builtin, hargs', hts']
      · cases h
    · cases h
  · rename_i args ts
    split at h
    · rename_i x y t t' hargs hts
      have hv : VRs ρ s.h w [x, y] (args.toList.map a.eval) := by rw [← hargs]; exact T.evs _
      obtain ⟨c1, cs1, e1, v1, hv1⟩ := hv.inv_cons
      obtain ⟨c2, cs2, rfl, v2, hv2⟩ := hv1.inv_cons
      obtain rfl := hv2.inv_nil
      have hts' : ts = #[t, t'] := by cases ts; simp at hts; simp [hts]
      have hargs' : args.map a.eval = #[c1, c2] := by
        apply Array.ext'
        rw [Array.toList_map, e1]
      refine value_outs (copy_ok S h v1 v2 t' ty) ?_
      simp [execOp, resolve, invoke, builtin, hargs', hts']
    · cases h
  · cases h

theorem step_ok [Fb : Forb] {P : Program} {A : OrcK} (hA : OrcOk P A.plain) {s : State} {o : Oper} {v : AVal} {H' : Heap} (h : astepK P A s o.op = some (true, v, H')) {ρ : List Nat} {w : World} {a : Act} (T : TR ρ s.h w s.t a.tmps) (S : Sim ρ s.h w) :
    Outs P (G ρ s.h w v H') ((execOp a.eval o).run P w) := by
  unfold astepK at h
  split at h
  · rename_i b u hu
    simp only [Option.some.injEq, Prod.mk.injEq] at h
    obtain ⟨rfl, rfl, rfl⟩ := h
    exact pure_step (apureK_ok hu) T S
  · split at h
    · rename_i r hr
      simp only [Option.some.injEq] at h; subst h
      exact mem_step (amemK_ok hr) T S
    · exact call_step hA (acallK_ok h) T S

/-! ### Regions -/

/-- Go on, where the check holds. -/
def thenK {γ : Type} (r : Option (Bool × AVal × Heap)) (f : AVal → Heap → Option γ) : Option γ :=
  match r with
  | some (b, v, h') => bif b then f v h' else none
  | none => none
theorem thenK_some {γ : Type} {r : Option (Bool × AVal × Heap)} {f : AVal → Heap → Option γ} {x : γ} (h : thenK r f = some x) : ∃ v h', r = some (true, v, h') ∧ f v h' = some x := by
  unfold thenK at h
  split at h
  · rename_i b v h'
    cases b
    · cases h
    · exact ⟨v, h', rfl, h⟩
  · cases h
/-- One operation that is wanted. -/
def opK {γ : Type} (P : Program) (A : OrcK) (o : Op) (dst : Option Tmp) (s : State) (next : State → Option γ) : Option γ :=
  match o with
  | .pick c a b => match s.ev c with
    | .bool t => bif t then next (s.put dst (s.ev a)) else next (s.put dst (s.ev b))
    | _ => none
  | o => thenK (astepK P A s o) fun v h' => next (State.put ⟨s.t, h'⟩ dst v)
def gslot (ops : Array Oper) (j : Nat) : Option Tmp := match nth ops.toList j with | some o => o.dst | none => none
/-- Is it wanted? -/
def guardK {γ : Type} (ops : Array Oper) (g : Option (Nat × Bool)) (s : State) (yes no : State → Option γ) : Option γ :=
  match g with
  | none => yes s
  | some (j, want) => match gslot ops j with
    | some d => match nth s.t d with
      | some (.bool b) => bif b then (bif want then yes (s.put (some d) (.bool true)) else no (s.put (some d) (.bool true)))
          else (bif want then no (s.put (some d) (.bool false)) else yes (s.put (some d) (.bool false)))
      | some .undef => no s
      | _ => none
    | none => none
def runOps {γ : Type} (P : Program) (A : OrcK) (ops : Array Oper) (k : State → Option γ) : List Oper → State → Option γ
  | [], s => k s
  | o :: r, s => guardK ops o.guard s (fun s => opK P A o.op o.dst s (runOps P A ops k r)) (fun s => runOps P A ops k r (s.put o.dst .undef))

/-- A state that stands for a frame and a world, come from where the call began. -/
structure St [Fb : Forb] (ρ0 : List Nat) (H0 : Heap) (w0 : World) (s : State) (a : Act) (w : World) : Prop where
  ex : ∃ ρ, TR ρ s.h w s.t a.tmps ∧ Sim ρ s.h w ∧ Mv ρ0 H0 w0 ρ s.h w
  defers : a.defers = []

theorem St.put [Fb : Forb] {ρ0 : List Nat} {H0 : Heap} {w0 : World} {s : State} {a : Act} {w w' : World} (h : St ρ0 H0 w0 s a w) (d : Option Tmp) {v : AVal} {H' : Heap} {c : Value}
    (hg : ∀ ρ, TR ρ s.h w s.t a.tmps → Sim ρ s.h w → G ρ s.h w v H' c w') : St ρ0 H0 w0 (State.put ⟨s.t, H'⟩ d v) (a.put d c) w' := by
  obtain ⟨⟨ρ, T, S, M⟩, hd⟩ := h
  obtain ⟨ρ', h1, h2, h3⟩ := hg ρ T S
  refine ⟨⟨ρ', ?_, ?_, ?_⟩, by cases d <;> exact hd⟩
  · have := TR.put (s := ⟨s.t, H'⟩) (T.mv h3) d h1
    cases d <;> exact this
  · cases d <;> exact h2
  · cases d <;> exact M.trans h3

theorem outs_upon {P : Program} {o : Oper} {a : Act} {g : Value → World → Prop} {K : Act → World → Prop} {Q : Exit → Act → World → Prop} {r : Result Next} (h : Outs P g r) (hk : ∀ c w', g c w' → K (a.put o.dst c) w') : o.upon P a K Q r := by
  unfold Outs at h
  split at h
  · exact hk _ _ h
  · exact hk _ _ h
  · rw [Oper.upon_enter]
    exact h.mono fun e w'' ⟨c, he, hg⟩ => by subst he; exact hk _ _ hg
  · exact h.elim

/-- One operation's step. -/
def Stp (P : Program) (A : OrcK) (ops : Array Oper) (o : Oper) (s s' : State) : Prop :=
  guardK ops o.guard s (fun s => opK P A o.op o.dst s fun s' => some s') (fun s => some (s.put o.dst .undef)) = some s'

theorem opK_some {γ : Type} {P : Program} {A : OrcK} {o : Op} {dst : Option Tmp} {s : State} {next : State → Option γ} {r : γ} (h : opK P A o dst s next = some r) : ∃ s', opK P A o dst s (fun s' => some s') = some s' ∧ next s' = some r := by
  unfold opK at h ⊢
  split at h
  · split at h
    · rename_i t ht
      cases t <;> exact ⟨_, rfl, h⟩
    · cases h
  · obtain ⟨v, h', h1, h2⟩ := thenK_some h
    rw [h1]
    exact ⟨_, rfl, h2⟩
theorem runOps_cons {γ : Type} {P : Program} {A : OrcK} {ops : Array Oper} {k : State → Option γ} {o : Oper} {l : List Oper} {s : State} {r : γ} (h : runOps P A ops k (o :: l) s = some r) :
    ∃ s', Stp P A ops o s s' ∧ runOps P A ops k l s' = some r := by
  simp only [runOps] at h
  unfold Stp
  unfold guardK at h ⊢
  generalize o.guard = g at h ⊢
  cases g with
  | none => obtain ⟨s', h1, h2⟩ := opK_some h; exact ⟨s', h1, h2⟩
  | some jw =>
    obtain ⟨j, want⟩ := jw
    simp only [] at h ⊢
    split at h
    · split at h
      · rename_i b _
        cases b <;> cases want <;> simp only [cond_true, cond_false] at h ⊢
        · obtain ⟨s', h1, h2⟩ := opK_some h; exact ⟨s', h1, h2⟩
        · exact ⟨_, rfl, h⟩
        · exact ⟨_, rfl, h⟩
        · obtain ⟨s', h1, h2⟩ := opK_some h; exact ⟨s', h1, h2⟩
      · exact ⟨_, rfl, h⟩
      · cases h
    · cases h

theorem stp_sound [Fb : Forb] {P : Program} {A : OrcK} (hA : OrcOk P A.plain) {ops : Array Oper} {ρ0 : List Nat} {H0 : Heap} {w0 : World} {Q : Exit → Act → World → Prop} {K : Act → World → Prop} {o : Oper} {s s1 : State} {a : Act} {w : World}
    (h : Stp P A ops o s s1) (hs : St ρ0 H0 w0 s a w) (hK : ∀ a' w', St ρ0 H0 w0 s1 a' w' → K a' w') :
    if Region.wanted o (yielded ops a.tmps) then o.wp P a w K Q ∨ (o.asks P a w ∧ LetsOut Q) else K (a.put o.dst Go.undef) w := by
    -- the operation, wanted
  have yes : ∀ s', St ρ0 H0 w0 s' a w → opK P A o.op o.dst s' (fun s' => some s') = some s1 → o.wp P a w K Q := by
    intro s' hs' h'
    unfold opK at h'
    split at h'
    · rename_i c x y hop
      split at h'
      · rename_i t ht
        obtain ⟨⟨ρ, T, S, M⟩, hd⟩ := hs'
        have hv := T.ev c
        rw [ht] at hv
        generalize hc : a.eval c = cv at hv
        cases hv
        unfold Oper.wp
        have hr : (execOp a.eval o).run P w = .ok (.value (if t then a.eval x else a.eval y)) w := by
          obtain ⟨dst, op, ty, pos, after, guard⟩ := o
          simp only [] at hop
          subst hop
          cases t <;> simp [execOp, hc, asBool]
        rw [hr, Oper.upon_value]
        cases t
        · simp only [cond_true, cond_false, Option.some.injEq] at h'; subst h'
          refine hK _ _ ?_
          exact St.put ⟨⟨ρ, T, S, M⟩, hd⟩ o.dst (v := s'.ev y) (H' := s'.h) (c := a.eval y) (fun ρ T S => ⟨ρ, T.ev y, S, Mv.refl _ _ _⟩)
        · simp only [cond_true, cond_false, Option.some.injEq] at h'; subst h'
          refine hK _ _ ?_
          exact St.put ⟨⟨ρ, T, S, M⟩, hd⟩ o.dst (v := s'.ev x) (H' := s'.h) (c := a.eval x) (fun ρ T S => ⟨ρ, T.ev x, S, Mv.refl _ _ _⟩)
      · cases h'
    · obtain ⟨v, H1, hstep, hnext⟩ := thenK_some h'
      simp only [Option.some.injEq] at hnext; subst hnext
      obtain ⟨⟨ρ, T, S, M⟩, hd⟩ := hs'
      have := step_ok hA hstep T S
      refine outs_upon this fun c w' hg => hK _ _ ?_
      obtain ⟨ρ', g1, g2, g3⟩ := hg
      refine ⟨⟨ρ', ?_, ?_, ?_⟩, by cases o.dst <;> exact hd⟩
      · have := TR.put (s := ⟨s'.t, _⟩) (T.mv g3) o.dst g1
        cases hdst : o.dst <;> simp only [hdst] at this ⊢ <;> exact this
      · cases o.dst <;> exact g2
      · cases o.dst <;> exact M.trans g3
  have no : ∀ s', St ρ0 H0 w0 s' a w → some (s'.put o.dst .undef) = some s1 → K (a.put o.dst Go.undef) w := by
    intro s' hs' h'
    simp only [Option.some.injEq] at h'; subst h'
    exact hK _ _ (St.put hs' o.dst (H' := s'.h) (fun ρ T S => ⟨ρ, .undef, S, Mv.refl _ _ _⟩))
  -- a slot's Bool made known
  have known : ∀ (d : Tmp) (b : Bool), s.t[d]? = some (.bool b) → St ρ0 H0 w0 (s.put (some d) (.bool b)) a w ∧ a.tmps[d]? = some (.bool b) := by
    intro d b hb
    obtain ⟨⟨ρ, T, S, M⟩, hd⟩ := hs
    have hv := T.2 d _ hb
    have hlt : d < a.tmps.size := by rw [← T.1]; exact (List.getElem?_eq_some_iff.1 hb).1
    simp only [Array.getD_eq_getD_getElem?, Array.getElem?_eq_getElem hlt, Option.getD_some] at hv
    have he : a.tmps[d] = .bool b := by generalize a.tmps[d] = z at hv; cases hv; rfl
    refine ⟨⟨⟨ρ, ?_, S, M⟩, hd⟩, by rw [Array.getElem?_eq_getElem hlt, he]⟩
    have : (s.put (some d) (.bool b)).t = s.t := by
      simp only [State.put, upd_eq]
      apply List.ext_getElem?
      intro i
      rw [List.getElem?_set]
      split
      · rename_i e; subst e; split
        · exact hb.symm
        · rename_i hn; exact absurd (List.getElem?_eq_some_iff.1 hb).1 hn
      · rfl
    rw [this]; exact T
  unfold Stp at h
  unfold guardK gslot at h
  simp only [nth_eq, Array.getElem?_toList] at h
  split at h
  · rename_i hg
    have : Region.wanted o (yielded ops a.tmps) = true := by simp [Region.wanted, hg]
    rw [if_pos this]
    exact .inl (yes s hs h)
  · rename_i j want hg
    split at h
    · rename_i d hd
      have hbind : (ops[j]?).bind (·.dst) = some d := by
        cases ho : ops[j]? with
        | none => simp [ho] at hd
        | some o' => simp [ho] at hd; simpa using hd
      split at h
      · rename_i b hb
        obtain ⟨hk1, hk2⟩ := known d b hb
        have hy : yielded ops a.tmps j = some b := by simp [yielded, hbind, hk2]
        have hwant : Region.wanted o (yielded ops a.tmps) = (b == want) := by simp [Region.wanted, hg, hy]
        rw [hwant]
        cases b <;> cases want <;> simp only [cond_true, cond_false] at h
        · exact .inl (yes _ hk1 h)
        · exact no _ hk1 h
        · exact no _ hk1 h
        · exact .inl (yes _ hk1 h)
      · rename_i hu
        have hy : yielded ops a.tmps j = none := by
          obtain ⟨⟨ρ, T, S, M⟩, _⟩ := hs
          have hv := T.2 d _ hu
          have hlt : d < a.tmps.size := by rw [← T.1]; exact (List.getElem?_eq_some_iff.1 hu).1
          simp only [Array.getD_eq_getD_getElem?, Array.getElem?_eq_getElem hlt, Option.getD_some] at hv
          have he : a.tmps[d] = Go.undef := by generalize a.tmps[d] = z at hv; cases hv; rfl
          have h1 : a.tmps[d]? = some Go.undef := by rw [Array.getElem?_eq_getElem hlt, he]
          unfold yielded
          rw [hbind]
          simp only [Option.bind_some, h1]
          rfl
        have hwant : Region.wanted o (yielded ops a.tmps) = false := by simp [Region.wanted, hg, hy]
        rw [hwant]
        exact no s hs h
      · cases h
    · cases h

theorem ops_sound [Fb : Forb] {γ : Type} {P : Program} {A : OrcK} (hA : OrcOk P A.plain) {ops : Array Oper} {ρ0 : List Nat} {H0 : Heap} {w0 : World} {Q : Exit → Act → World → Prop} {k : State → Option γ} {r : γ}
    (hk : ∀ s a w, k s = some r → St ρ0 H0 w0 s a w → Q .normal a w) :
    ∀ (l : List Oper) (s : State) (a : Act) (w : World), runOps P A ops k l s = some r → St ρ0 H0 w0 s a w → wpList P ops Q l a w := by
  intro l
  induction l with
  | nil => intro s a w h hs; exact hk s a w h hs
  | cons o l ih =>
    intro s a w h hs
    obtain ⟨s1, h1, h2⟩ := runOps_cons h
    unfold wpList
    exact stp_sound hA h1 hs fun a' w' hs' => ih s1 a' w' h2 hs'

end Go.Proofs.YtjhofofieiiplaaGreatDoor.Ab
