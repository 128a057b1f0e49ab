/-
  The abstract machine, where slices are held that others may read too: operations.
-/
import Derived.Test.YthecninmmojkgaaAbYa
namespace Go.Proofs.Ythecninmmojkgaa.Ab
open Go
set_option linter.unusedVariables false
set_option linter.unusedSimpArgs false

theorem specA_St {P : Program} {o : Oper} {s s' : State} {m m' : Nat} (h : specA P s m o = some (some (true, s', m'))) {Fb : Forb} {ρ : List Nat} {a : Act} {w : World} (T : @TR Fb ρ s.h w s.t a.tmps) (S : @Sim Fb ρ s.h w) (hd : a.defers = [])
    {Q : Exit → Act → World → Prop} {K : Act → World → Prop} (hK : ∀ a' w', @St Fb ρ s.h w s' a' w' → m' = m → K a' w') : o.guard = none ∧ o.wp P a w K Q := by
  unfold specA at h
  split at h
  · cases h
  rename_i hg
  refine ⟨hg, ?_⟩
  split at h
  · rename_i t parts hop
    split at h
    case h_2 => cases h
    rename_i j x hp
    simp only [Bool.cond_eq_ite] at h
    split at h
    case isFalse => cases h
    split at h
    case h_2 => cases h
    rename_i e hu
    split at h
    case h_2 => cases h
    rename_i i hi
    split at h
    case h_2 => cases h
    rename_i z hz
    split at h
    case h_2 => cases h
    rename_i c' hc'
    simp only [Option.some.injEq, Prod.mk.injEq, Bool.and_eq_true, beq_iff_eq, hlen_eq, snoc_eq] at h
    obtain ⟨⟨hsz, hzs⟩, rfl, rfl⟩ := h
    let cs0 : Array Value := (Array.range (1 * 1)).map fun j => (if 1 * 1 = 0 then #[] else z.cells)[j % (if 1 * 1 = 0 then #[] else z.cells).size]!
    have hc0 : cs0.size = 1 := by simp [cs0]
    have b0 : ∀ ρ, @BR Fb ρ s.h w (.cells [.top]) cs0 := by
      intro ρ
      refine ⟨by simp [BC.len, hlen_eq, hc0], fun j v hv => ?_⟩
      simp only [BC.get?, nth_eq] at hv
      cases j with
      | zero =>
        simp only [List.getElem?_cons_zero, Option.some.injEq] at hv; subst hv
        exact ⟨cs0[0]'(by omega), Array.getElem?_eq_getElem (by omega), @VR.top Fb _ _ _ _⟩
      | succ j => simp at hv
    obtain ⟨cs', k1, k2, k3, k4⟩ := @fill_ok Fb ρ s.h w s a T [(j, x)] (.cells [.top]) c' cs0 hc' (b0 ρ) (by simp [BC.len, hlen_eq, hc0])
    have k4' : c'.len = 1 := by rw [k4]; simp [BC.len, hlen_eq]
    have hpl : (parts.map fun (i, x) => (i, a.eval x)).toList = [(j, x)].map fun p => (p.1, a.eval p.2) := by simp [hp]
    have hr2 : (execOp a.eval o).run P w = .ok (.value (.slice (some ⟨w.heap.size, 0, none⟩) 1 1)) (w.alloc (Obj.cells cs' e (0, 0))) := by
      obtain ⟨dst, op, ty, pos, after, guard⟩ := o
      simp only [] at hop
      subst hop
      have : (Instr.buildSlice t 1 (parts.map fun (i, x) => (i, a.eval x))).run P w = .ok (.slice (some ⟨w.heap.size, 0, none⟩) 1 1) (w.alloc (Obj.cells cs' e (0, 0))) := by
        simp only [Instr.buildSlice, Sem.run_bind, run_underlying hu, Result.andThen_ok, run_sizeOf' (show asz P e = some 1 by simp [asz, hi, hsz]), if_false, Sem.run_pure, hpl]
        simp [cs0] at k1
        simp [zeroValue, typeInfo, hi, hz, k1, run_newRow']
      simp [execOp, this]
    unfold Oper.wp
    rw [hr2, Oper.upon_value]
    refine hK _ _ ?_ rfl
    exact (@St.put Fb ρ s.h w s a w _ ⟨⟨ρ, T, S, Mv.refl _ _ _⟩, hd⟩ o.dst _ _ _ (fun ρ' T' S' => by
      obtain ⟨cs2, m1, m2, m3, m4⟩ := @fill_ok Fb ρ' s.h w s a T' [(j, x)] (.cells [.top]) c' cs0 hc' (b0 ρ') (by simp [BC.len, hlen_eq, hc0])
      rw [k1] at m1
      simp only [Option.some.injEq] at m1
      subst m1
      exact @newslice Fb ρ' s.h w S' ⟨c', 0⟩ cs' e m2 rfl 1 1 (Nat.le_of_eq k4'.symm) (by rw [k3, k4']; exact Nat.le_refl _) (Nat.le_refl _)))
  · rename_i args ts hop
    split at h
    case h_2 => cases h
    rename_i x y t t' hargs hts
    simp only [Bool.cond_eq_ite, eqN_eq, beq_iff_eq] at h
    split at h
    case isFalse => cases h
    rename_i ht
    subst ht
    split at h
    case h_2 => cases h
    rename_i b v H' hap
    simp only [Option.some.injEq, Prod.mk.injEq] at h
    obtain ⟨rfl, rfl, rfl⟩ := h
    have hts' : ts = #[t, t] := by cases ts; simp at hts; simp [hts]
    have hargs' : args.map a.eval = #[a.eval x, a.eval y] := by
      apply Array.ext'
      rw [Array.toList_map, hargs]
      rfl
    obtain ⟨c, w', hrun, hG⟩ := @appendC_ok Fb P ρ s.h H' w S t _ _ v _ _ hap (@TR.ev Fb ρ s.h w s a T x) (@TR.ev Fb ρ s.h w s a T y) o.type
    unfold Oper.wp
    have hr2 : (execOp a.eval o).run P w = .ok (.value c) w' := by
      obtain ⟨dst, op, ty, pos, after, guard⟩ := o
      simp only [] at hop hrun
      subst hop
      simp [execOp, resolve, invoke, builtin, hargs', hts', hrun]
    rw [hr2, Oper.upon_value]
    refine hK _ _ ?_ rfl
    exact (@St.put Fb ρ s.h w s a w w' ⟨⟨ρ, T, S, Mv.refl _ _ _⟩, hd⟩ o.dst v H' c (fun ρ' T' S' => by
      obtain ⟨c2, w2, hrun2, hG2⟩ := @appendC_ok Fb P ρ' s.h H' w S' t _ _ v _ _ hap (@TR.ev Fb ρ' s.h w s a T' x) (@TR.ev Fb ρ' s.h w s a T' y) o.type
      rw [hrun] at hrun2
      simp only [Result.ok.injEq] at hrun2
      obtain ⟨rfl, rfl⟩ := hrun2
      exact hG2))
  · cases h

/-! ### Small operations -/

def isNil : List (Nat × Operand) → Bool
  | [] => true
  | _ => false
/-- A list of lists without any. -/
def specE (P : Program) (C : YC) (s : State) (m : Nat) (o : Oper) : Option (Option (Bool × State × Nat)) :=
  match o.guard with
  | some _ => none
  | none => match o.op with
    | .buildSlice t 0 parts => match parts.toList with
      | [] => bif hasN C.rt t then match P.underlying t with
        | some (.slice e) => match P.info? e with
          | some i => match i.zero with
            | some z => some (some (i.size == 1 && z.cells.size == 1, (State.put ⟨s.t, snoc s.h ⟨.cells [], 0⟩⟩ o.dst (.own (hlen s.h) 0 0 0 1)), m))
            | none => none
          | none => none
        | _ => none
        else none
      | _ => none
    | _ => none
theorem specE_St {P : Program} {C : YC} {o : Oper} {s s' : State} {m m' : Nat} (h : specE P C s m o = some (some (true, s', m'))) {Fb : Forb} {ρ : List Nat} {a : Act} {w : World} (T : @TR Fb ρ s.h w s.t a.tmps) (S : @Sim Fb ρ s.h w) (hd : a.defers = [])
    {Q : Exit → Act → World → Prop} {K : Act → World → Prop} (hK : ∀ a' w', @St Fb ρ s.h w s' a' w' → m' = m → K a' w') : o.guard = none ∧ o.wp P a w K Q := by
  unfold specE at h
  split at h
  · cases h
  rename_i hg
  refine ⟨hg, ?_⟩
  split at h
  case h_2 => cases h
  rename_i t parts hop
  split at h
  case h_2 => cases h
  rename_i hp
  simp only [Bool.cond_eq_ite] at h
  split at h
  case isFalse => cases h
  split at h
  case h_2 => cases h
  rename_i e hu
  split at h
  case h_2 => cases h
  rename_i i hi
  split at h
  case h_2 => cases h
  rename_i z hz
  simp only [Option.some.injEq, Prod.mk.injEq, Bool.and_eq_true, beq_iff_eq, hlen_eq, snoc_eq] at h
  obtain ⟨⟨hsz, hzs⟩, rfl, rfl⟩ := h
  have hp' : parts = #[] := by cases parts; simp at hp; simp [hp]
  have hr2 : (execOp a.eval o).run P w = .ok (.value (.slice (some ⟨w.heap.size, 0, none⟩) 0 0)) (w.alloc (Obj.cells #[] e (0, 0))) := by
    obtain ⟨dst, op, ty, pos, after, guard⟩ := o
    simp only [] at hop
    subst hop
    have : (Instr.buildSlice t 0 (#[] : Array (Nat × Value))).run P w = .ok (.slice (some ⟨w.heap.size, 0, none⟩) 0 0) (w.alloc (Obj.cells #[] e (0, 0))) := by
      simp only [Instr.buildSlice, Sem.run_bind, run_underlying hu, Result.andThen_ok, run_sizeOf' (show asz P e = some 1 by simp [asz, hi, hsz]), if_false, Sem.run_pure]
      have hr0 : (Array.range 0 : Array Nat) = #[] := by simp
      simp [zeroValue, typeInfo, hi, hz, hr0, Instr.fill, run_newRow']
    simp [execOp, hp', this]
  unfold Oper.wp
  rw [hr2, Oper.upon_value]
  refine hK _ _ ?_ rfl
  exact (@St.put Fb ρ s.h w s a w _ ⟨⟨ρ, T, S, Mv.refl _ _ _⟩, hd⟩ o.dst _ _ _ (fun ρ' T' S' =>
    @newslice Fb ρ' s.h w S' ⟨.cells [], 0⟩ #[] e ⟨by simp [BC.len, hlen_eq], fun i v hv => by simp [BC.get?, nth_eq] at hv⟩ rfl 0 0 (Nat.zero_le _) (Nat.zero_le _) (Nat.le_refl _)))

def rowB.sv (rs : List (List Int)) (i : Nat) : List Int := rs.getD i []
open Classical in
noncomputable def eqC.sp (vs us : List AVal) : Bool := decide (vs = us)
theorem eqC_rfl (vs : List AVal) : eqC.sp vs vs = true := by simp [eqC.sp]
def findR : List (Nat × Nat × List (List Int)) → Nat → Option (Nat × List (List Int))
  | [], _ => none
  | (l', p) :: r, l => bif eqN l' l then some p else findR r l
/-- A list that is held, read out of those that are. -/
noncomputable def specR (P : Program) (C : YC) (s : State) (m : Nat) (o : Oper) : Option (Option (Bool × State × Nat)) :=
  match o.guard with
  | some _ => none
  | none => match o.op with
    | .load t x => match s.ev x with
      | .ptr l off ver => match findR C.rw l with
        | some (m0, rs) => match nth s.h l with
          | some ⟨.cells vs, ver'⟩ => match P.underlying t with
            | some d => bif isAggD d then none else some (some (eqN ver ver' && (eqC.sp vs (bunsB.sv m0 rs) && decide (off < rs.length)), s.put o.dst (.bun (m0 + off) (.ints .i64 (rowB.sv rs off)) (rowB.sv rs off).length), m))
            | none => none
          | _ => none
        | none => none
      | _ => none
    | _ => none
theorem specR_St {P : Program} {C : YC} {o : Oper} {s s' : State} {m m' : Nat} (h : specR P C s m o = some (some (true, s', m'))) {Fb : Forb} {ρ : List Nat} {a : Act} {w : World} (T : @TR Fb ρ s.h w s.t a.tmps) (S : @Sim Fb ρ s.h w) (hd : a.defers = [])
    {Q : Exit → Act → World → Prop} {K : Act → World → Prop} (hK : ∀ a' w', @St Fb ρ s.h w s' a' w' → m' = m → K a' w') : o.guard = none ∧ o.wp P a w K Q := by
  unfold specR at h
  split at h
  · cases h
  rename_i hg
  refine ⟨hg, ?_⟩
  split at h
  case h_2 => cases h
  rename_i t x hop
  split at h
  case h_2 => cases h
  rename_i l off ver hx
  split at h
  case h_2 => cases h
  rename_i m0 rs hfr
  split at h
  case h_2 => cases h
  rename_i vs ver' hb
  split at h
  case h_2 => cases h
  rename_i d hd'
  simp only [Bool.cond_eq_ite] at h
  split at h
  case isTrue => cases h
  rename_i hag
  simp only [Option.some.injEq, Prod.mk.injEq, Bool.and_eq_true, eqN_eq, beq_iff_eq, decide_eq_true_eq, eqC.sp] at h
  obtain ⟨⟨rfl, rfl, hof⟩, rfl, rfl⟩ := h
  have hrow : rs[off]? = some (rowB.sv rs off) := by simp [rowB.sv, List.getD_eq_getElem?_getD, List.getElem?_eq_getElem hof]
  have hld : aload P s.h t (s.ev x) = some (.bun (m0 + off) (.ints .i64 (rowB.sv rs off)) (rowB.sv rs off).length) := by
    simp only [aload, hd', Bool.cond_eq_ite, if_neg hag, hx, acell, hb, beq_self_eq_true, if_true, Nat.add_zero, BC.get?, nth_eq]
    exact bunsB_get rs m0 off _ hrow
  have ham : amem P s o.op = some (.bun (m0 + off) (.ints .i64 (rowB.sv rs off)) (rowB.sv rs off).length, s.h) := by
    rw [hop]
    simp only [amem, hld]
  unfold Oper.wp
  refine outs_upon (@mem_step Fb P s o _ _ ham ρ w a T S) fun c w' hgx => hK _ _ ?_ rfl
  obtain ⟨ρ', g1, g2, g3⟩ := hgx
  refine ⟨⟨ρ', ?_, ?_, ?_⟩, by cases o.dst <;> exact hd⟩
  · have := @TR.put Fb ρ' s.h w' s a (@TR.mv Fb _ _ _ _ _ _ g3 _ _ T) o.dst _ _ g1
    generalize o.dst = d at this ⊢
    cases d <;> exact this
  · cases o.dst <;> exact g2
  · cases o.dst <;> exact g3

/-- Slots from which is only read. -/
def viewV : AVal → AVal
  | .bun i (.ints k xs) len => .ro (.ints k xs) len 1
  | v => v
def viewD (vw : List Nat) (d : Option Tmp) (x : SX) : SX := match d with
  | some t => bif hasN vw t then (match nth x.t t with
    | some v => ⟨upd x.t t (viewV v), x.h, x.m⟩
    | none => x) else x
  | none => x
theorem VR.view {Fb : Forb} (hl : Fb.l = []) {ρ : List Nat} {H : Heap} {w : World} {v : AVal} {c : Value} (h : @VR Fb ρ H w v c) : @VR Fb ρ H w (viewV v) c := by
  unfold viewV
  split
  · rename_i i k xs len
    cases h with
    | bun _ _ _ x B he hB =>
      obtain ⟨a, cap, rfl, hR, hm, hle⟩ := hB.slice rfl rfl
      refine @VR.ro Fb ρ H w _ len 1 (some a) cap (fun h => by cases h) (fun p hp => ?_) hm (by simpa using hle)
      simp only [Option.some.injEq] at hp
      subst hp
      exact hR.cr.mono2 (F1 := noF) (F2 := Fb) fun b hb => ⟨⟨hb.1, hb.2.1, by rw [hl]; exact List.not_mem_nil⟩, rfl⟩
  · exact h
theorem RelY.view {lo : Nat} {F0 : Forb} {ρ0 : List Nat} {H0 : Heap} {w0 : World} {vw : List Nat} (hv : vw = [] ∨ F0.l = []) {d : Option Tmp} {x : SX} {a : Act} {w : World} (h : RelY lo F0 ρ0 H0 w0 x a w) : RelY lo F0 ρ0 H0 w0 (viewD vw d x) a w := by
  unfold viewD
  split
  case h_2 => exact h
  rename_i t
  rcases hv with rfl | hv
  · exact h
  cases hasN vw t with
  | false => exact h
  | true =>
    rw [cond_true]
    split
    case h_2 => exact h
    rename_i v hvt
    obtain ⟨Fb, ρ, hY⟩ := h
    refine ⟨Fb, ρ, hY.soft, hY.grow, ⟨by simp only [upd_eq, List.length_set]; exact hY.tr.1, fun i u hu => ?_⟩, hY.sim, hY.mv, hY.df⟩
    simp only [upd_eq, List.getElem?_set] at hu
    split at hu
    · rename_i e
      subst e
      split at hu
      · simp only [Option.some.injEq] at hu
        subst hu
        exact (hY.tr.2 t v (by rw [← nth_eq]; exact hvt)).view (hY.grow.l.trans hv)
      · cases hu
    · exact hY.tr.2 i u hu

/-! ### Closures -/

def specC (C : YC) (s : State) (m : Nat) (o : Oper) : Option (Option (Bool × State × Nat)) :=
  match o.guard with
  | some _ => none
  | none => match o.op with
    | .call { callee := .value f, args, .. } => match s.ev f with
      | .fn g caps => match findY C.cw g with
        | some e => match e.R (app (mapL s.ev args.toList) caps) (takeN e.k s.h) m with
          | some (b, v, H', m') => some (some (b, State.put ⟨s.t, app H' (dropN e.k s.h)⟩ o.dst v, m'))
          | none => some none
        | none => none
      | _ => none
    | _ => none
theorem specC_sound {P : Program} {C : YC} (hC : YCok P C) {lo : Nat} {F0 : Forb} {ρ0 : List Nat} {H0 : Heap} {w0 : World} (hlo : lo ≤ w0.heap.size) {o : Oper} {s s' : State} {m m' : Nat} (h : specC C s m o = some (some (true, s', m'))) {a : Act} {w : World} (hs : RelY lo F0 ρ0 H0 w0 (sx s m) a w)
    {Q : Exit → Act → World → Prop} {K : Act → World → Prop} (hK : ∀ a' w', RelY lo F0 ρ0 H0 w0 (sx s' m') a' w' → K a' w') : o.guard = none ∧ o.wp P a w K Q := by
  unfold specC at h
  split at h
  · cases h
  rename_i hg
  refine ⟨hg, ?_⟩
  split at h
  case h_2 => cases h
  rename_i f args ts hop
  split at h
  case h_2 => cases h
  rename_i g caps hf
  split at h
  case h_2 => cases h
  rename_i e hfe
  split at h
  case h_2 => cases h
  rename_i b v H' m1 hR
  simp only [Option.some.injEq, Prod.mk.injEq, app_eq, dropN_eq] at h
  obtain ⟨rfl, rfl, rfl⟩ := h
  rw [app_eq, mapL_eq, takeN_eq] at hR
  obtain ⟨hE, rfl⟩ := findY_ok hC.cw hfe
  obtain ⟨lw1, lw2, lw3, lw4⟩ := hE.low _ _ _ _ _ _ hR
  obtain ⟨Fb, ρ, hY⟩ := hs
  have T := hY.tr
  have S := hY.sim
  have hlen : ρ.length = s.h.length := @Sim.len Fb _ _ _ S
  have hk : e.k ≤ s.h.length := by rw [List.length_take] at lw3; omega
  have hws : w0.heap.size ≤ w.heap.size := hY.mv.size
  have hv := @TR.ev Fb ρ s.h w s a T f
  rw [hf] at hv
  obtain ⟨cs, hcl, hcv, hch⟩ : ∃ cs : Array Value, caps.length = cs.size ∧ a.eval f = .func (.func e.f) #[] cs ∧ ∀ (i : Nat) (u : AVal), caps[i]? = some u → @VR Fb ρ s.h w u (cs.getD i Go.undef) := by
    generalize a.eval f = c at hv
    cases hv
    rename_i cs hl hh
    exact ⟨cs, hl, rfl, hh⟩
  have hargs : @VRs Fb ρ s.h w (args.toList.map s.ev ++ caps) (args.map a.eval ++ cs).toList := by
    rw [Array.toList_append, Array.toList_map]
    refine @VRs.app Fb _ _ _ _ _ _ _ (@TR.evs Fb ρ s.h w s a T _) ⟨by simpa using hcl, fun i u x hu hx => ?_⟩
    have := hch i u hu
    simp only [Array.getElem?_toList] at hx
    simpa [Array.getD_eq_getD_getElem?, hx] using this
  -- what the others own is forbidden
  let ρ2 := ρ.drop e.k
  let F1 : Forb := ⟨Fb.l ++ ρ2, Fb.bun⟩
  have nd := @Sim.nodup Fb _ _ _ S
  have old : ∀ b ∈ Fb.l, b < w.heap.size ∧ b ∉ ρ := @Sim.forb Fb _ _ _ S
  have hρ := hY.lt
  have hsplit : ρ.take e.k ++ ρ2 = ρ := List.take_append_drop _ _
  have hdj : ∀ b ∈ ρ2, b ∉ ρ.take e.k := fun b h2 h1 => by
    rw [← hsplit] at nd
    exact (List.nodup_append.1 nd).2.2 b h1 b h2 rfl
  have cv : ∀ {u : AVal} {c : Value}, @VR Fb ρ s.h w u c → u.inR e.k = true → @VR F1 (ρ.take e.k) (s.h.take e.k) w u c := fun {u c} hu hr => by
    refine @VR.cut F1 _ _ _ _ _ e.k ?_ hr
    have := VR.mapB (F1 := Fb) (F2 := F1) (ρ := ρ) (ρ' := ρ) (H := s.h) (H' := s.h) (w := w) (w' := w) AVal.bun (fun _ _ _ _ _ _ _ h => h) (fun _ _ _ _ h => h)
      (fun i c len x B he hB => @VR.bun F1 ρ _ w i c len x B he hB) hu (.inl fun b hb => ⟨⟨hb.1, hb.2.1, fun hm => by
        rcases List.mem_append.1 hm with h | h
        · exact hb.2.2 h
        · exact hb.2.1 (List.mem_of_mem_drop h)⟩, rfl⟩)
    rwa [mapB_id] at this
  have S1 : @Sim F1 (ρ.take e.k) (s.h.take e.k) w := by
    refine @Sim.mk F1 _ _ w (by simp [hlen]) (nd.sublist (List.take_sublist _ _)) (fun b hb => ?_) fun l b blk hl hb => ?_
    · rcases List.mem_append.1 hb with h | h
      · exact ⟨(old b h).1, fun hm => (old b h).2 (List.mem_of_mem_take hm)⟩
      · exact ⟨hρ b (List.mem_of_mem_drop h), hdj b h⟩
    · have hin := lw2 l blk hl
      have hlk : l < e.k := by have := (List.getElem?_eq_some_iff.1 hl).1; rw [lw3] at this; exact this
      rw [List.getElem?_take, if_pos hlk] at hl hb
      obtain ⟨cs1, e1, h1, h2, h3⟩ := @Sim.blk Fb _ _ _ S l b blk hl hb
      exact ⟨cs1, e1, h1, h2, fun i u hu => let ⟨x, hx, hvx⟩ := h3 i u hu; ⟨x, hx, cv hvx (BC.inR_get hin hu)⟩⟩
  have A1 : @VRs F1 (ρ.take e.k) (s.h.take e.k) w (args.toList.map s.ev ++ caps) (args.map a.eval ++ cs).toList :=
    ⟨hargs.1, fun i u x hu hx => cv (hargs.2 i u x hu hx) (inRs_get lw1 i u hu)⟩
  have So1 : Soft lo F1 (ρ.take e.k) m w := ⟨hY.soft.len, fun i x B hi b hb => by
    obtain ⟨g1, g2, g3, g4⟩ := hY.soft.bl i x B hi b hb
    refine ⟨g1, g2, fun hm => g3 (List.mem_of_mem_take hm), fun hm => ?_⟩
    rcases List.mem_append.1 hm with h | h
    · exact g4 h
    · exact g3 (List.mem_of_mem_drop h), hY.soft.dis⟩
  have hrun : (execOp a.eval o).run P w = .ok (.enter e.f (args.map a.eval ++ cs)) w := by
    obtain ⟨dst, op, ty, pos, after, guard⟩ := o
    simp only [] at hop
    subst hop
    obtain ⟨fn, e1, e2, e3⟩ := hE.enters
    have e2' : ¬ fn.body = none := by intro hb; simp [hb] at e2
    have e3' : ¬ fn.name = "runtime.NumGoroutine" := by simpa using e3
    simp [execOp, resolve, hcv, Deferred.ofValue, invoke, callFunc, program, Sem.run, e1, e2', e3']
  unfold Oper.wp
  rw [hrun, Oper.upon_enter]
  refine (hE.calls _ _ _ _ _ _ hR lo F1 (ρ.take e.k) w _ (by omega) So1 S1 A1).mono fun en w' ⟨c, hen, F3, ρ3, So3, G3, v3, S3, M3⟩ => ?_
  subst hen
  refine hK _ _ ?_
  let F4 : Forb := ⟨Fb.l, F3.bun⟩
  let ρ4 := ρ3 ++ ρ2
  have l3 : ρ3.length = e.k := by rw [@Sim.len F3 _ _ _ S3, lw4]
  have f3 : ∀ b, b ∈ Fb.l ++ ρ2 → b < w'.heap.size ∧ b ∉ ρ3 := fun b hb => @Sim.forb F3 _ _ _ S3 b (by rw [G3.l]; exact hb)
  have gr : Grow Fb F4 := ⟨rfl, G3.bun⟩
  have same : ∀ b, b < w.heap.size → b ∉ ρ.take e.k → w'.heap[b]? = w.heap[b]? ∧ b ∉ ρ3 := M3.frame
  have M : Mv ρ s.h w ρ4 (H' ++ s.h.drop e.k) w' := by
    refine ⟨M3.os, M3.tape, M3.output, M3.size, fun b h1 h2 => ?_, fun l blk hl => ?_⟩
    · have h3 : b ∉ ρ.take e.k := fun hm => h2 (List.mem_of_mem_take hm)
      refine ⟨(same b h1 h3).1, fun hm => ?_⟩
      rcases List.mem_append.1 hm with h | h
      · exact (same b h1 h3).2 h
      · exact h2 (List.mem_of_mem_drop h)
    · by_cases hlk : l < e.k
      · obtain ⟨blk', k1, k2, k3⟩ := M3.keep l blk (by rw [List.getElem?_take, if_pos hlk]; exact hl)
        refine ⟨blk', by rw [List.getElem?_append_left (by omega)]; exact k1, k2, fun he => ?_⟩
        obtain ⟨k4, k5, k6⟩ := k3 he
        rw [List.getElem?_take, if_pos hlk] at k4 k6
        refine ⟨?_, k5, k6⟩
        show (ρ3 ++ ρ2)[l]? = _
        rw [List.getElem?_append_left (by omega)]; exact k4
      · refine ⟨blk, ?_, Nat.le_refl _, fun _ => ⟨?_, rfl, fun b cs1 e1 hb hc => ⟨cs1, ?_, rfl⟩⟩⟩
        · rw [List.getElem?_append_right (by omega), lw4, List.getElem?_drop, Nat.add_sub_cancel' (by omega)]; exact hl
        · show (ρ3 ++ ρ2)[l]? = _
          rw [List.getElem?_append_right (by omega), l3]
          show (ρ.drop e.k)[l - e.k]? = _
          rw [List.getElem?_drop, Nat.add_sub_cancel' (by omega)]
        · have hb2 : b ∈ ρ2 := by
            refine List.mem_of_getElem? (i := l - e.k) ?_
            show (ρ.drop e.k)[l - e.k]? = _
            rw [List.getElem?_drop, Nat.add_sub_cancel' (by omega)]; exact hb
          exact (same b (heap_lt hc) (hdj b hb2)).1.trans hc
  have cv2 : ∀ {u : AVal} {c : Value}, @VR F3 ρ3 H' w' u c → @VR F4 ρ4 (H' ++ s.h.drop e.k) w' u c := fun {u c} hu => by
    have := VR.mapB (F1 := F3) (F2 := F4) (ρ := ρ3) (ρ' := ρ4) (H := H') (H' := H' ++ s.h.drop e.k) (w := w') (w' := w') AVal.bun
      (fun l off len ver z ad cap ⟨blk, o1, o2, o3⟩ => ⟨blk, by rw [List.getElem?_append_left (List.getElem?_eq_some_iff.1 o1).1]; exact o1, o2, fun he => by
        obtain ⟨b, cs1, t, r1, r⟩ := o3 he
        refine ⟨b, cs1, t, ?_, r⟩
        show (ρ3 ++ ρ2)[l]? = _
        rw [List.getElem?_append_left (List.getElem?_eq_some_iff.1 r1).1]; exact r1⟩)
      (fun l off ver ad ⟨blk, o1, o2, o3⟩ => ⟨blk, by rw [List.getElem?_append_left (List.getElem?_eq_some_iff.1 o1).1]; exact o1, o2, fun he => by
        obtain ⟨b, r1, r⟩ := o3 he
        refine ⟨b, ?_, r⟩
        show (ρ3 ++ ρ2)[l]? = _
        rw [List.getElem?_append_left (List.getElem?_eq_some_iff.1 r1).1]; exact r1⟩)
      (fun i c len x B he hB => @VR.bun F4 ρ4 _ w' i c len x B he (hB.mono fun b hb h1 h2 => ⟨fun hm => by
        rcases List.mem_append.1 hm with h | h
        · exact h2 h
        · exact (So3.bl i x B he b hb).2.2.2 (by rw [G3.l]; exact List.mem_append_right _ h), rfl⟩)) hu (.inl fun b hb => ⟨⟨hb.1, fun hm => by
        rcases List.mem_append.1 hm with h | h
        · exact hb.2.1 h
        · exact hb.2.2 (by rw [G3.l]; exact List.mem_append_right _ h), fun hm => hb.2.2 (by rw [G3.l]; exact List.mem_append_left _ hm)⟩, rfl⟩)
    rwa [mapB_id] at this
  have S4 : @Sim F4 ρ4 (H' ++ s.h.drop e.k) w' := by
    refine @Sim.mk F4 _ _ w' ?_ ?_ (fun b hb => ?_) fun l b blk hl hb => ?_
    · show (ρ3 ++ ρ.drop e.k).length = _
      simp [l3, lw4, hlen]
    · refine List.nodup_append.2 ⟨@Sim.nodup F3 _ _ _ S3, nd.sublist (List.drop_sublist _ _), fun x hx y hy he => ?_⟩
      subst he
      exact (f3 x (List.mem_append_right _ hy)).2 hx
    · have h1 := f3 b (List.mem_append_left _ hb)
      refine ⟨h1.1, fun hm => ?_⟩
      rcases List.mem_append.1 hm with h | h
      · exact h1.2 h
      · exact (old b hb).2 (List.mem_of_mem_drop h)
    · by_cases hlk : l < e.k
      · rw [List.getElem?_append_left (by omega)] at hl
        have hb' : (ρ3 ++ ρ2)[l]? = some b := hb
        rw [List.getElem?_append_left (by omega)] at hb'
        obtain ⟨cs1, e1, h1, h2, h3⟩ := @Sim.blk F3 _ _ _ S3 l b blk hl hb'
        exact ⟨cs1, e1, h1, h2, fun i u hu => let ⟨x, hx, hvx⟩ := h3 i u hu; ⟨x, hx, cv2 hvx⟩⟩
      · rw [List.getElem?_append_right (by omega), lw4, List.getElem?_drop, Nat.add_sub_cancel' (by omega)] at hl
        have hb' : (ρ3 ++ ρ2)[l]? = some b := hb
        rw [List.getElem?_append_right (by omega), l3] at hb'
        have hb2 : b ∈ ρ2 := List.mem_of_getElem? hb'
        have hb3 : (ρ.drop e.k)[l - e.k]? = some b := hb'
        rw [List.getElem?_drop, Nat.add_sub_cancel' (by omega)] at hb3
        obtain ⟨cs1, e1, h1, h2, h3⟩ := @Sim.blk Fb _ _ _ S l b blk hl hb3
        exact ⟨cs1, e1, (same b (heap_lt h1) (hdj b hb2)).1.trans h1, h2, fun i u hu => let ⟨x, hx, hvx⟩ := h3 i u hu; ⟨x, hx, hvx.go gr M⟩⟩
  have T4 : @TR F4 ρ4 (H' ++ s.h.drop e.k) w' s.t a.tmps := ⟨T.1, fun i u hu => (T.2 i u hu).go gr M⟩
  have So4 : Soft lo F4 ρ4 m1 w' := ⟨So3.len, fun i x B hi b hb => by
    obtain ⟨g1, g2, g3, g4⟩ := So3.bl i x B hi b hb
    rw [G3.l] at g4
    refine ⟨g1, g2, fun hm => ?_, fun hm => g4 (List.mem_append_left _ hm)⟩
    rcases List.mem_append.1 hm with h | h
    · exact g3 h
    · exact g4 (List.mem_append_right _ h), So3.dis⟩
  refine ⟨F4, ρ4, So4, hY.grow.trans gr, ?_, ?_, ?_, by cases o.dst <;> exact hY.df⟩
  · have := @TR.put F4 ρ4 _ w' ⟨s.t, H' ++ s.h.drop e.k⟩ a T4 o.dst _ _ (cv2 v3)
    generalize o.dst = d at this ⊢
    cases d <;> exact this
  · cases o.dst <;> exact S4
  · have := hY.mv.trans M
    cases o.dst <;> exact this
end Go.Proofs.Ythecninmmojkgaa.Ab
