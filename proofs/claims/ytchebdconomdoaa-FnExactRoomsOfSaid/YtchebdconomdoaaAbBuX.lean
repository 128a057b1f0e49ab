/-
  The abstract machine, where slices are held: bodies are carried out, and what comes of it is what the model's call does.
-/
import Derived.Test.YtchebdconomdoaaAbBun
namespace Go.Proofs.Ytchebdconomdoaa.Ab
open Go
set_option linter.unusedVariables false
set_option linter.unusedSimpArgs false

theorem BC.mapB_id (c : BC) : c.mapB AVal.bun = c := by
  cases c with
  | typ c => rfl
  | cells vs => simp only [BC.mapB, Ab.mapBs_id]
theorem mapBH_id (H : Heap) : mapBH AVal.bun H = H := by
  rw [mapBH_eq]
  refine List.ext_getElem (by simp) fun i h1 h2 => ?_
  simp [BC.mapB_id]

theorem specX_sound {P : Program} {C : XC} (hC : XCok P C) {o : Oper} {s s' : State} {m m' : Nat} (h : specX C s m o = some (some (true, s', m'))) {X : List Nat} {w0 : World} {a : Act} {w : World} (hs : RelX X w0 s m a w)
    {Q : Exit → Act → World → Prop} {K : Act → World → Prop} (hK : ∀ a' w', RelX X w0 s' m' a' w' → K a' w') : o.guard = none ∧ o.wp P a w K Q := by
  unfold specX at h
  split at h
  · cases h
  rename_i hg
  refine ⟨hg, ?_⟩
  split at h
  case h_2 => cases h
  rename_i f args ts hop
  split at h
  case h_2 => cases h
  rename_i g hf
  obtain ⟨Fb, ρ, T, S, k, hd⟩ := hs
  have hv := @TR.ev Fb ρ s.h w s a T f
  rw [hf] at hv
  have hc : a.eval f = .func (.func g) #[] #[] := by
    generalize a.eval f = c at hv
    cases hv
    rename_i cs hl hh
    have : cs = #[] := Array.eq_empty_of_size_eq_zero (by simpa using hl.symm)
    rw [this]
  have hargs : @VRs Fb ρ s.h w (mapL s.ev args.toList) (args.map a.eval).toList := by
    rw [mapL_eq, Array.toList_map]
    exact @TR.evs Fb ρ s.h w s a T _
  have hρ : ∀ b ∈ ρ, b < w.heap.size := by
    intro b hb
    obtain ⟨l, hl⟩ := List.getElem?_of_mem hb
    obtain ⟨_, _, _, _, h1, _⟩ := @Sim.lt Fb _ _ _ S _ _ hl
    exact heap_lt h1
  split at h
  · rename_i R hR
    split at h
    case h_2 => cases h
    rename_i b u n hRv
    simp only [Option.some.injEq, Prod.mk.injEq, Bool.and_eq_true] at h
    obtain ⟨⟨rfl, hno⟩, rfl, rfl⟩ := h
    obtain ⟨he, hcall⟩ := findK_ok hC.kk hR
    unfold Oper.wp
    rw [callee_run hop hc he, Oper.upon_enter]
    refine (hcall _ u n hRv w (args.map a.eval) (lendU_VRs S hargs)).mono fun en w' ⟨c, hen, F1, E1, n1, b1, v1, M1⟩ => ?_
    subst hen
    refine hK _ _ ?_
    let F2 : Forb := ⟨Fb.l ++ F1.l, Fb.bun ++ F1.bun⟩
    have old : ∀ b ∈ Fb.l, b < w.heap.size ∧ b ∉ ρ := @Sim.forb Fb _ _ _ S
    have hm := k.len
    have same : ∀ b, b < w.heap.size → w'.heap[b]? = w.heap[b]? := fun b hb => M1.frame b hb List.not_mem_nil
    obtain ⟨S2, conv⟩ := Sim.mapB (F1 := Fb) (F2 := F2) AVal.bun S (fun b hb => same b (hρ b hb))
      (fun b hb => by
        rcases List.mem_append.1 hb with hb | hb
        · exact ⟨Nat.lt_of_lt_of_le (old b hb).1 M1.size, (old b hb).2⟩
        · exact ⟨(b1 b hb).2, fun hr => by have := hρ b hr; have := (b1 b hb).1; omega⟩)
      (fun i c len a cap B he hB hm hl => @VR.bun F2 ρ _ w' i c len a cap B (by
          show (Fb.bun ++ F1.bun)[i]? = _
          rw [List.getElem?_append_left (List.getElem?_eq_some_iff.1 he).1]; exact he) (hB.mono fun b _ h1 h2 => ⟨h2, same b h1⟩) hm hl)
      (fun b hb => ⟨⟨Nat.lt_of_lt_of_le hb.1 M1.size, hb.2.1, fun hm => by
        rcases List.mem_append.1 hm with hm | hm
        · exact hb.2.2 hm
        · have := (b1 b hm).1; have := hb.1; omega⟩, same b hb.1⟩)
    rw [mapBH_id] at S2 conv
    have T2 : @TR F2 ρ s.h w' s.t a.tmps := ⟨T.1, fun i v hv => by have := conv (T.2 i v hv); rwa [mapB_id] at this⟩
    have hnew : @VR F2 ρ s.h w' (u.mapB (shI m)) c := VR.mapB (F1 := F1) (F2 := F2) (shI m) (fun _ _ _ _ _ _ _ h => (own_nil h).elim) (fun _ _ _ _ h => (ptr_nil h).elim)
      (fun i c len a cap B he hB hm1 hl => @VR.bun F2 ρ _ w' (m + i) c len a cap B (by
          show (Fb.bun ++ F1.bun)[m + i]? = _
          rw [← hm, List.getElem?_append_right (Nat.le_add_right _ _), Nat.add_sub_cancel_left]; exact he) (hB.mono fun b hb h1 _ => ⟨fun hr => by have := hρ b hr; have := (b1 b (E1.sub i _ B he b hb)).1; omega, rfl⟩) hm1 hl)
      v1 (.inr hno)
    refine ⟨F2, ρ, ?_, ?_, ⟨⟨fun i v B hi => ?_, fun i j v v' B B' hij hi hj => ?_⟩, ?_, k.mv.then (Y := []) M1 (fun y hy => by cases hy), k.ow, fun b hb => ?_⟩, by cases o.dst <;> exact hd⟩
    · have := @TR.put F2 ρ s.h w' s a T2 o.dst _ _ hnew
      generalize o.dst = d at this ⊢
      cases d <;> exact this
    · cases o.dst <;> exact S2
    · have hi' : (Fb.bun ++ F1.bun)[i]? = some (v, B) := hi
      intro b hb
      show b ∈ Fb.l ++ F1.l
      rw [List.getElem?_append] at hi'
      split at hi'
      · exact List.mem_append_left _ (k.env.sub i v B hi' b hb)
      · exact List.mem_append_right _ (E1.sub _ v B hi' b hb)
    · have hi' : (Fb.bun ++ F1.bun)[i]? = some (v, B) := hi
      have hj' : (Fb.bun ++ F1.bun)[j]? = some (v', B') := hj
      rw [List.getElem?_append] at hi' hj'
      intro b hb hb'
      split at hi' <;> split at hj'
      · exact k.env.dis i j v v' B B' hij hi' hj' b hb hb'
      · have := (old b (k.env.sub i v B hi' b hb)).1; have := (b1 b (E1.sub _ v' B' hj' b hb')).1; omega
      · have := (old b (k.env.sub j v' B' hj' b hb')).1; have := (b1 b (E1.sub _ v B hi' b hb)).1; omega
      · exact E1.dis _ _ v v' B B' (by omega) hi' hj' b hb hb'
    · show (Fb.bun ++ F1.bun).length = _
      rw [List.length_append, hm, n1]
    · rcases List.mem_append.1 hb with hb | hb
      · exact k.fb b hb
      · have := (b1 b hb).1; have := k.mv.size; left; omega
  · split at h
    case h_2 => cases h
    rename_i e hM
    split at h
    case h_2 => cases h
    rename_i x kk hxs
    split at h
    case h_2 => cases h
    rename_i b r hRx
    simp only [Option.some.injEq, Prod.mk.injEq] at h
    obtain ⟨rfl, rfl, rfl⟩ := h
    obtain ⟨⟨he, hcall⟩, rfl⟩ := findM_ok hC.mw hM
    rw [hxs] at hargs
    obtain ⟨c1, cs1, e1, v1, hv1⟩ := hargs.inv_cons
    obtain ⟨c2, cs2, rfl, v2, hv2⟩ := hv1.inv_cons
    obtain rfl := hv2.inv_nil
    cases v2
    have hargs' : args.map a.eval = #[c1, .int .i64 kk] := Array.ext' e1
    unfold Oper.wp
    rw [callee_run hop hc he, Oper.upon_enter, hargs']
    refine (hcall x kk r hRx Fb ρ s.h w c1 S k.env v1).mono fun en w' ⟨hen, M⟩ => ?_
    subst hen
    refine hK _ _ ?_
    have old : ∀ b ∈ Fb.l, b < w.heap.size ∧ b ∉ ρ := @Sim.forb Fb _ _ _ S
    have bl : ∀ b, b ∈ blksOf Fb (e.ix x) → b ∈ Fb.l := fun b hb => by
      obtain ⟨i, v, B, h1, h2, h3⟩ := blksOf_mem hb
      exact k.env.sub i v B h2 b h3
    obtain ⟨S2, conv⟩ := Sim.mapB (F1 := Fb) (F2 := Fb) (drp (e.ix x)) S (fun b hb => M.frame b (hρ b hb) fun hm => (old b (bl b hm)).2 hb)
      (fun b hb => ⟨Nat.lt_of_lt_of_le (old b hb).1 M.size, (old b hb).2⟩)
      (fun i c len a cap B he' hB hm hl => by
        unfold drp
        cases hi : hasN (e.ix x) i with
        | true => exact @VR.top Fb ρ _ w' _
        | false =>
          refine @VR.bun Fb ρ _ w' i c len a cap B he' (hB.mono fun b hb h1 h2 => ⟨h2, M.frame b h1 fun hm => ?_⟩) hm hl
          obtain ⟨j, v, B', h3, h4, h5⟩ := blksOf_mem hm
          have hij : i ≠ j := fun e => hasN_mem hi (e ▸ h3)
          exact k.env.dis i j _ v B B' hij he' h4 b hb h5)
      (fun b hb => ⟨⟨Nat.lt_of_lt_of_le hb.1 M.size, hb.2⟩, M.frame b hb.1 fun hm => hb.2.2 (bl b hm)⟩)
    have T2 : @TR Fb ρ (mapBS (drp (e.ix x)) s).h w' (mapBS (drp (e.ix x)) s).t a.tmps := by
      refine ⟨by simp only [mapBS, mapBs_eq, List.length_map]; exact T.1, fun i v hv => ?_⟩
      simp only [mapBS, mapBs_eq, List.getElem?_map, Option.map_eq_some_iff] at hv
      obtain ⟨u, hu, rfl⟩ := hv
      exact conv (T.2 i u hu)
    refine ⟨Fb, ρ, ?_, ?_, ⟨k.env, k.len, k.mv.then M fun y hy => k.fb y (bl y hy), k.ow, k.fb⟩, by cases o.dst <;> exact hd⟩
    · have := @TR.put Fb ρ _ w' (mapBS (drp (e.ix x)) s) a T2 o.dst _ _ (@VR.int Fb ρ _ w' .i64 r)
      generalize o.dst = d at this ⊢
      cases d <;> exact this
    · cases o.dst <;> exact S2

/-! ### Regions -/

structure SX where
  t : List AVal
  h : Heap
  m : Nat
def SX.s (x : SX) : State := ⟨x.t, x.h⟩
def sx (s : State) (m : Nat) : SX := ⟨s.t, s.h, m⟩
def mkX (n : Nat) (l : List (Nat × AVal)) (H : Heap) (m : Nat) : SX := ⟨mkT l 0 n, H, m⟩
def Rel (X : List Nat) (w0 : World) (x : SX) (a : Act) (w : World) : Prop := RelX X w0 x.s x.m a w

def runOpsX {γ : Type} (P : Program) (A : OrcK) (C : XC) (ops : Array Oper) (k : SX → Option γ) : List Oper → SX → Option γ
  | [], x => k x
  | o :: r, x => match specX C x.s x.m o with
    | some (some (b, s', m')) => bif b then runOpsX P A C ops k r (sx s' m') else none
    | some none => none
    | none => guardK ops o.guard x.s (fun s => opK P A o.op o.dst s fun s => runOpsX P A C ops k r (sx s x.m)) (fun s => runOpsX P A C ops k r (sx (s.put o.dst .undef) x.m))

theorem stpX {P : Program} {A : OrcK} (hA : OrcOk P A.plain) {ops : Array Oper} {X : List Nat} {w0 : World} {Q : Exit → Act → World → Prop} {K : Act → World → Prop} {o : Oper} {s s1 : State} {m : Nat} {a : Act} {w : World}
    (h : Stp P A ops o s s1) (hs : RelX X w0 s m a w) (hK : ∀ a' w', RelX X w0 s1 m a' w' → K a' w') :
    if Region.wanted o (yielded ops a.tmps) then o.wp P a w K Q ∨ (o.asks P a w ∧ LetsOut Q) else K (a.put o.dst Go.undef) w := by
  obtain ⟨Fb, ρ, T, S, k, hd⟩ := hs
  exact @stp_sound Fb P A hA ops ρ s.h w Q K o s s1 a w h ⟨⟨ρ, T, S, Mv.refl _ _ _⟩, hd⟩ fun a' w' hst => hK a' w' (RelX.of_St k hst)
theorem one_stp {γ : Type} {P : Program} {A : OrcK} {ops : Array Oper} {o : Oper} {s : State} {next : State → Option γ} {r : γ} (h : guardK ops o.guard s (fun s => opK P A o.op o.dst s next) (fun s => next (s.put o.dst .undef)) = some r) :
    ∃ s', Stp P A ops o s s' ∧ next s' = some r := by
  have : runOps P A ops next [o] s = some r := by simpa only [runOps] using h
  obtain ⟨s', h1, h2⟩ := runOps_cons this
  exact ⟨s', h1, h2⟩
theorem opsX_sound {γ : Type} {P : Program} {A : OrcK} (hA : OrcOk P A.plain) {C : XC} (hC : XCok P C) {ops : Array Oper} {X : List Nat} {w0 : World} {Q : Exit → Act → World → Prop} {k : SX → Option γ} {r : γ}
    (hk : ∀ x a w, k x = some r → Rel X w0 x a w → Q .normal a w) :
    ∀ (l : List Oper) (x : SX) (a : Act) (w : World), runOpsX P A C ops k l x = some r → Rel X w0 x a w → wpList P ops Q l a w := by
  intro l
  induction l with
  | nil => intro x a w h hs; exact hk x a w h hs
  | cons o l ih =>
    intro x a w h hs
    simp only [runOpsX] at h
    unfold wpList
    split at h
    · rename_i b s' m' hsp
      cases b with
      | false => cases h
      | true =>
        rw [cond_true] at h
        obtain ⟨hg, hwp⟩ := specX_sound hC hsp hs (Q := Q) (K := wpList P ops Q l) fun a' w' hs' => ih (sx s' m') a' w' h hs'
        have : Region.wanted o (yielded ops a.tmps) = true := by simp [Region.wanted, hg]
        rw [if_pos this]
        exact .inl hwp
    · cases h
    · obtain ⟨s1, h1, h2⟩ := one_stp h
      exact stpX hA h1 hs fun a' w' hs' => ih (sx s1 x.m) a' w' h2 hs'

/-! ### Bodies -/

/-- Rows that are not known are forgotten. -/
def tops.sv (xs : List (List Int)) : List AVal := List.replicate xs.length .top
def loos : Heap → Heap
  | [] => []
  | ⟨.typ (.rows k xs), v⟩ :: r => ⟨.cells (tops.sv xs), v⟩ :: loos r
  | b :: r => b :: loos r
def normX (keep : List Nat) (e : Exit) (x : SX) : SX := match e with
  | .ret => x
  | _ => ⟨kill keep 0 x.t, bif hasN keep 997 then loos x.h else x.h, x.m⟩
def iterX {γ : Type} (nrm : Exit → SX → SX) (rec : SX → Option γ) (k : Exit → SX → Option γ) (e : Exit) (x : SX) : Option γ :=
  match e with
  | .normal => rec (nrm .normal x)
  | e => k e (nrm e x)
def XR.loopRun {γ : Type} (body : (Exit → SX → Option γ) → SX → Option γ) (nrm : Exit → SX → SX) (k : Exit → SX → Option γ) : Nat → SX → Option γ
  | 0, _ => none
  | n + 1, x => body (iterX nrm (XR.loopRun body nrm k n) k) x
def seqX {γ : Type} (next : SX → Option γ) (k : Exit → SX → Option γ) (e : Exit) (x : SX) : Option γ :=
  match e with
  | .normal => next x
  | e => k e x
def blockX {γ : Type} (id : Nat) (k : Exit → SX → Option γ) (e : Exit) (x : SX) : Option γ :=
  match e with
  | .exit j => bif eqN j id then k .normal x else k (.exit j) x
  | e => k e x
def runX {γ : Type} (P : Program) (A : OrcK) (C : XC) (hd : Nat → List Nat) (dr : Nat → Dr) (fuel : Nat) : Code → Nat → (Exit → SX → Option γ) → SX → Option γ
  | .skip, _, k, x => k .normal x
  | .region id ops d, _, k, x => bif d then (dr id).run P A (hlen x.h) ops (fun s => k .normal (sx s x.m)) x.s else runOpsX P A C ops (fun x => k .normal x) ops.toList x
  | .seq a b, cur, k, x => runX P A C hd dr fuel a cur (seqX (fun x => runX P A C hd dr fuel b cur k x) k) x
  | .cond c a b, cur, k, x => match x.s.ev c with
    | .bool t => bif t then runX P A C hd dr fuel a cur k x else runX P A C hd dr fuel b cur k x
    | _ => none
  | .block id b, cur, k, x => runX P A C hd dr fuel b id (blockX id k) x
  | .loop b, cur, k, x => XR.loopRun (fun k' x' => runX P A C hd dr fuel b cur k' x') (normX (hd cur)) k fuel (normX (hd cur) .normal x)
  | .exit id, _, k, x => k (.exit id) x
  | .ret, _, k, x => k .ret x
  | _, _, _, _ => none
def contX {γ : Type} (P : Program) (A : OrcK) (C : XC) (hd : Nat → List Nat) (dr : Nat → Dr) (fuel : Nat) : Code → Nat → List Bool → (Exit → SX → Option γ) → Exit → SX → Option γ
  | .seq a b, cur, false :: p, k => contX P A C hd dr fuel a cur p (seqX (fun x => runX P A C hd dr fuel b cur k x) k)
  | .seq _ b, cur, true :: p, k => contX P A C hd dr fuel b cur p k
  | .cond _ a _, cur, false :: p, k => contX P A C hd dr fuel a cur p k
  | .cond _ _ b, cur, true :: p, k => contX P A C hd dr fuel b cur p k
  | .block id b, _, p, k => contX P A C hd dr fuel b id p (blockX id k)
  | _, _, _, k => k
def loopX {γ : Type} (P : Program) (A : OrcK) (C : XC) (hd : Nat → List Nat) (dr : Nat → Dr) (fuel : Nat) (c : Code) (cur : Nat) (p : List Bool) (k : Exit → SX → Option γ) (n : Nat) (x : SX) : Option γ :=
  XR.loopRun (fun k' x' => runX P A C hd dr fuel (bodyAt c p) (curAt c cur p) k' x') (normX (hd (curAt c cur p))) (contX P A C hd dr fuel c cur p k) n x

theorem Sim.loos [Fb : Forb] {ρ : List Nat} {H : Heap} {w : World} (S : Sim ρ H w) : Sim ρ (loos H) w ∧ ∀ {v : AVal} {c : Value}, VR ρ H w v c → VR ρ (loos H) w v c := by
  have hat : ∀ (H : Heap) (l : Nat) (blk : Blk), H[l]? = some blk → ∃ c', (Ab.loos H)[l]? = some ⟨c', blk.ver⟩ ∧ c'.len = blk.c.len ∧ (c' = blk.c ∨ ∃ n, c' = .cells (List.replicate n .top)) := by
    intro H
    induction H with
    | nil => intro l blk h; simp at h
    | cons b r ih =>
      intro l blk h
      cases l with
      | zero =>
        simp only [List.getElem?_cons_zero, Option.some.injEq] at h
        subst h
        obtain ⟨c, v⟩ := b
        unfold Ab.loos
        split
        · rename_i h0; cases h0
        · rename_i k xs v' r' h0
          simp only [List.cons.injEq, Blk.mk.injEq] at h0
          obtain ⟨⟨rfl, rfl⟩, rfl⟩ := h0
          exact ⟨_, rfl, by simp [BC.len, hlen_eq, Cont.len, tops.sv], .inr ⟨_, rfl⟩⟩
        · rename_i b' r' _ h0
          simp only [List.cons.injEq] at h0
          obtain ⟨rfl, rfl⟩ := h0
          exact ⟨_, rfl, rfl, .inl rfl⟩
      | succ l =>
        simp only [List.getElem?_cons_succ] at h
        obtain ⟨c', h1, h2⟩ := ih l blk h
        refine ⟨c', ?_, h2⟩
        obtain ⟨c, v⟩ := b
        unfold Ab.loos
        split
        · rename_i h0; cases h0
        · rename_i k xs v' r' h0
          simp only [List.cons.injEq] at h0
          obtain ⟨_, rfl⟩ := h0
          simpa using h1
        · rename_i b' r' _ h0
          simp only [List.cons.injEq] at h0
          obtain ⟨rfl, rfl⟩ := h0
          simpa using h1
  have hlen : ∀ H : Heap, (Ab.loos H).length = H.length := by
    intro H
    induction H with
    | nil => rfl
    | cons b r ih =>
      unfold Ab.loos
      split
      · rename_i h0; cases h0
      · rename_i h0; simp only [List.cons.injEq] at h0; obtain ⟨_, rfl⟩ := h0; simp [ih]
      · rename_i h0; simp only [List.cons.injEq] at h0; obtain ⟨rfl, rfl⟩ := h0; simp [ih]
  have hown : ∀ l off len ver z a cap, OwnR ρ H w l off len ver z a cap → OwnR ρ (Ab.loos H) w l off len ver z a cap := by
    intro l off len ver z a cap ⟨blk, h1, h2, h3⟩
    obtain ⟨c', g1, g2, _⟩ := hat H l blk h1
    refine ⟨_, g1, h2, fun e => ?_⟩
    obtain ⟨b, cs, t, r1, r2, r3, r4, r5⟩ := h3 e
    exact ⟨b, cs, t, r1, r2, by simpa only [g2] using r3, r4, r5⟩
  have hptr : ∀ l off ver a, PtrR ρ H l off ver a → PtrR ρ (Ab.loos H) l off ver a := by
    intro l off ver a ⟨blk, h1, h2, h3⟩
    obtain ⟨c', g1, g2, _⟩ := hat H l blk h1
    exact ⟨_, g1, h2, h3⟩
  have conv : ∀ {v : AVal} {c : Value}, VR ρ H w v c → VR ρ (Ab.loos H) w v c := fun {v c} h => by
    have := VR.mapB (F1 := Fb) (F2 := Fb) (ρ' := ρ) (H' := Ab.loos H) (w' := w) AVal.bun hown hptr (fun i c len a cap B he hB hm hl => .bun i c len a cap B he hB hm hl) h (.inl fun b hb => ⟨hb, rfl⟩)
    rwa [mapB_id] at this
  refine ⟨⟨by rw [hlen]; exact S.len, S.nodup, S.forb, fun l b blk hl hb => ?_⟩, conv⟩
  have hlt : l < H.length := by rw [← hlen]; exact (List.getElem?_eq_some_iff.1 hl).1
  obtain ⟨c', g1, g2, g3⟩ := hat H l H[l] (List.getElem?_eq_getElem hlt)
  rw [g1] at hl
  simp only [Option.some.injEq] at hl
  subst hl
  obtain ⟨cs, e, h1, h2, h3⟩ := S.blk l b _ (List.getElem?_eq_getElem hlt) hb
  refine ⟨cs, e, h1, by simpa only [g2] using h2, fun i u hu => ?_⟩
  rcases g3 with rfl | ⟨n, rfl⟩
  · obtain ⟨x, hx, hv⟩ := h3 i u hu
    exact ⟨x, hx, conv hv⟩
  · simp only [BC.get?, nth_eq, List.getElem?_replicate] at hu
    split at hu
    · rename_i hin
      simp only [Option.some.injEq] at hu
      subst hu
      have : i < cs.size := by
        rw [← g2] at h2
        simp only [BC.len, hlen_eq, List.length_replicate] at h2
        omega
      exact ⟨cs[i], Array.getElem?_eq_getElem this, .top _⟩
    · cases hu

theorem Rel.norm {X : List Nat} {w0 : World} {x : SX} {a : Act} {w : World} (keep : List Nat) (e : Exit) (h : Rel X w0 x a w) : Rel X w0 (normX keep e x) a w := by
  have main : Rel X w0 ⟨kill keep 0 x.t, bif hasN keep 997 then loos x.h else x.h, x.m⟩ a w := by
    obtain ⟨Fb, ρ, T, S, k, hd⟩ := h
    have T1 := @TR.kill Fb ρ _ w _ _ T keep
    cases hasN keep 997 with
    | false => exact ⟨Fb, ρ, T1, S, k, hd⟩
    | true =>
      obtain ⟨S2, conv⟩ := @Sim.loos Fb ρ _ w S
      exact ⟨Fb, ρ, ⟨T1.1, fun i v hv => conv (T1.2 i v hv)⟩, S2, k, hd⟩
  cases e <;> first | exact h | exact main

theorem loopX_sound {γ : Type} {P : Program} {c : Code} {body : (Exit → SX → Option γ) → SX → Option γ} {keep : List Nat} {X : List Nat} {w0 : World} {r : γ}
    (hb : ∀ (k : Exit → SX → Option γ) (x : SX) (a : Act) (w : World) (Q : Exit → Act → World → Prop), body k x = some r → Rel X w0 x a w → (∀ e x a w, k e x = some r → Rel X w0 x a w → Q e a w) → c.wp P Q a w)
    {k : Exit → SX → Option γ} {Q : Exit → Act → World → Prop} (hQ : ∀ e x a w, k e x = some r → Rel X w0 x a w → Q e a w) :
    ∀ (n : Nat) (x : SX) (a : Act) (w : World), XR.loopRun body (normX keep) k n x = some r → Rel X w0 x a w → Code.rounds P c Q n a w := by
  intro n
  induction n with
  | zero => intro x a w h; simp [XR.loopRun] at h
  | succ n ih =>
    intro x a w h hs
    simp only [XR.loopRun] at h
    rw [rounds_succ]
    refine hb _ x a w _ h hs fun e x' a' w' hk hs' => ?_
    unfold iterX at hk
    have hs1 := hs'.norm keep e
    cases e <;> first | exact ih _ a' w' hk hs1 | exact hQ _ _ _ _ hk hs1

theorem runX_sound {γ : Type} {P : Program} (hm : P.follows .mixedOrders = true) {A : OrcK} [hR : OrcRen A] (hA : OrcOk P A.plain) {C : XC} (hC : XCok P C) {hd : Nat → List Nat} {dr : Nat → Dr} {fuel : Nat} {X : List Nat} {w0 : World} {r : γ} :
    ∀ (c : Code) (hc : drawChk dr c = true) (cur : Nat) (k : Exit → SX → Option γ) (x : SX) (a : Act) (w : World) (Q : Exit → Act → World → Prop), runX P A C hd dr fuel c cur k x = some r → Rel X w0 x a w →
      (∀ e x a w, k e x = some r → Rel X w0 x a w → Q e a w) → c.wp P Q a w := by
  intro c
  induction c with
  | skip => intro hc cur k x a w Q h hs hQ; exact wp_skip (hQ _ _ _ _ h hs)
  | region id ops d =>
    intro hc cur k x a w Q h hs hQ
    cases d with
    | true =>
      simp only [runX, cond_true] at h
      simp only [drawChk, cond_true] at hc
      obtain ⟨Fb, ρ, T, S, kp, hdf⟩ := hs
      rw [hlen_eq] at h
      exact @region_sound Fb γ P hm A hR hA (dr id) id ops hc (fun s => k .normal (sx s x.m)) r ρ x.s.h w x.s a w Q h ⟨⟨ρ, T, S, Mv.refl _ _ _⟩, hdf⟩ fun s a w h' hs' => hQ .normal (sx s x.m) a w h' (RelX.of_St (s1 := s) kp hs')
    | false =>
      simp only [runX, cond_false] at h
      exact wp_region_list (opsX_sound hA hC (fun x a w h' hs' => hQ .normal x a w h' hs') ops.toList x a w h hs)
  | seq x y ihx ihy =>
    intro hc cur k s a w Q h hs hQ
    simp only [runX] at h
    simp only [drawChk, Bool.and_eq_true] at hc
    refine wp_seq (ihx hc.1 cur _ s a w _ h hs fun e s' a' w' hk hs' => ?_)
    cases e <;> first | exact ihy hc.2 cur k s' a' w' Q hk hs' hQ | exact hQ _ _ _ _ hk hs'
  | cond x y z ihy ihz =>
    intro hc cur k s a w Q h hs hQ
    simp only [runX] at h
    simp only [drawChk, Bool.and_eq_true] at hc
    obtain ⟨hc1, hc2⟩ := hc
    split at h
    · rename_i t ht
      have hs0 := hs
      obtain ⟨Fb, ρ, T, S, kp, hdf⟩ := hs
      have hv := @TR.ev Fb ρ s.s.h w s.s a T x
      rw [ht] at hv
      generalize hcv : a.eval x = cv at hv
      cases hv
      refine wp_cond (t := t) hcv ?_
      cases t
      · exact ihz hc2 cur k s a w Q h hs0 hQ
      · exact ihy hc1 cur k s a w Q h hs0 hQ
    · cases h
  | block id b ih =>
    intro hc cur k s a w Q h hs hQ
    simp only [runX] at h
    simp only [drawChk] at hc
    refine wp_block (ih hc id _ s a w _ h hs fun e s' a' w' hk hs' => ?_)
    cases e with
    | exit j =>
      simp only [Exit.inBlock]
      simp only [blockX, eqN_eq, Bool.cond_eq_ite, beq_iff_eq] at hk
      split
      · rename_i e; rw [if_pos e] at hk; exact hQ _ _ _ _ hk hs'
      · rename_i e; rw [if_neg e] at hk; exact hQ _ _ _ _ hk hs'
    | _ => exact hQ _ _ _ _ hk hs'
  | loop b ih =>
    intro hc cur k s a w Q h hs hQ
    simp only [runX] at h
    simp only [drawChk] at hc
    exact wp_loop_rounds fuel (loopX_sound (fun k s a w Q h hs hQ => ih hc cur k s a w Q h hs hQ) hQ fuel _ a w h (hs.norm (hd cur) .normal))
  | rangeFunc => intro hc cur k s a w Q h; simp [runX] at h
  | exit id => intro hc cur k s a w Q h hs hQ; exact wp_exit (hQ _ _ _ _ h hs)
  | scope => intro hc cur k s a w Q h; simp [runX] at h
  | label => intro hc cur k s a w Q h; simp [runX] at h
  | goto => intro hc cur k s a w Q h; simp [runX] at h
  | ret => intro hc cur k s a w Q h hs hQ; exact wp_ret (hQ _ _ _ _ h hs)
  | refuse => intro hc cur k s a w Q h; simp [runX] at h

/-! ### Calls -/

/-- What comes back: the value, the heap, how many slices are held. -/
def retX (P : Program) (ts : List ResultVar) (e : Exit) (x : SX) : Option (AVal × Heap × Nat) :=
  match e with
  | .normal => (match retVal P ts x.s with | some (b, v) => bif b then some (v, x.h, x.m) else none | none => none)
  | .ret => (match retVal P ts x.s with | some (b, v) => bif b then some (v, x.h, x.m) else none | none => none)
  | _ => none
def startX (n : Nat) (args : List AVal) (H : Heap) (m : Nat) : SX := ⟨pad .undef n args, H, m⟩
def runFnX (P : Program) (A : OrcK) (C : XC) (hd : Nat → List Nat) (dr : Nat → Dr) (fuel : Nat) (body : Code) (n : Nat) (ts : List ResultVar) (args : List AVal) (H : Heap) (m : Nat) : Option (AVal × Heap × Nat) :=
  runX P A C hd dr fuel body 0 (retX P ts) (startX n args H m)

theorem fnX_sound {P : Program} (hm : P.follows .mixedOrders = true) {A : OrcK} [hR : OrcRen A] (hA : OrcOk P A.plain) {C : XC} (hC : XCok P C) {hd : Nat → List Nat} {dr : Nat → Dr} {fuel : Nat} {f : FuncId} {fn : Func} {n : Nat} {ts : List ResultVar}
    (hf : P.funcs[f]? = some fn) (hbn : fn.body.isNone = false) (hn : fn.ntmps = n) (hr : fn.results = ts.toArray) (hc : drawChk dr (bodyOf fn) = true) {args : List AVal} {H H' : Heap} {m m' : Nat} {v : AVal}
    (h : runFnX P A C hd dr fuel (bodyOf fn) n ts args H m = some (v, H', m')) {X : List Nat} {w : World} {cargs : Array Value} {Fb : Forb} {ρ : List Nat} (hargs : @VRs Fb ρ H w args cargs.toList) (S : @Sim Fb ρ H w) (k : Kept X w Fb ρ m w) :
    Calls P f cargs w fun e w' => ∃ c, e = .returned c ∧ RelV X w v H' m' c w' := by
  have hb : fn.body = some (bodyOf fn) := by unfold bodyOf; cases hfb : fn.body <;> simp [hfb] at hbn ⊢
  refine calls_of_wp hf hb (runX_sound (X := X) (w0 := w) hm hA hC (bodyOf fn) hc 0 (retX P ts) (startX n args H m) _ w _ h ?_ ?_)
  · refine ⟨Fb, ρ, ?_, S, k, rfl⟩
    have hl := hargs.1
    simp only [Array.length_toList] at hl
    refine ⟨by simp [startX, SX.s, pad_eq, hl, hn], fun i u hu => ?_⟩
    simp only [startX, SX.s, pad_eq] at hu
    by_cases hi : i < args.length
    · rw [List.getElem?_append_left hi] at hu
      have hi' : i < cargs.size := by omega
      have := hargs.2 i u cargs[i] hu (by simp [hi'])
      show @VR Fb ρ H w u _
      simpa [Array.getD_eq_getD_getElem?, Array.getElem?_append_left hi', hi'] using this
    · rw [List.getElem?_append_right (by omega), List.getElem?_replicate] at hu
      split at hu
      · simp only [Option.some.injEq] at hu; subst hu
        have : (cargs ++ Array.replicate (fn.ntmps - cargs.size) Go.undef).getD i Go.undef = Go.undef := by
          simp only [Array.getD_eq_getD_getElem?]
          rw [Array.getElem?_append_right (by omega), Array.getElem?_replicate]
          split <;> rfl
        rw [this]; exact @VR.undef Fb ρ H w
      · cases hu
  · intro e x a w' hk hs
    obtain ⟨F2, ρ', T, S', k', hdf⟩ := hs
    have hfin : (match retVal P ts x.s with | some (b, v) => bif b then some (v, x.h, x.m) else none | none => none) = some (v, H', m') →
        ∃ c, (results fn a.tmps).run P w' = .ok c w' ∧ RelV X w v H' m' c w' := by
      intro hk'
      split at hk'
      · rename_i b u hu
        cases b with
        | false => cases hk'
        | true =>
          simp only [cond_true, Option.some.injEq, Prod.mk.injEq] at hk'
          obtain ⟨rfl, rfl, rfl⟩ := hk'
          obtain ⟨c, hrun, hval⟩ := @run_results F2 P fn ts hr ρ' x.s w' a T S' _ hu
          exact ⟨c, hrun, F2, ρ', hval, S', k'⟩
      · cases hk'
    cases e with
    | normal => obtain ⟨c, c1, c2⟩ := hfin hk; exact ⟨hdf, c, c1, c, rfl, c2⟩
    | ret => obtain ⟨c, c1, c2⟩ := hfin hk; exact ⟨hdf, c, c1, c, rfl, c2⟩
    | _ => simp only [retX, reduceCtorEq] at hk

end Go.Proofs.Ytchebdconomdoaa.Ab
