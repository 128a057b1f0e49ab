/-
  The abstract machine, where slices are held: bodies are carried out, and what comes of it is what the model's call does.
-/
import Derived.Test.YthecninmmojkgaaAbMap
namespace Go.Proofs.Ythecninmmojkgaa.Ab
open Go
set_option linter.unusedVariables false
set_option linter.unusedSimpArgs false

theorem BC.mapB_id (c : BC) : c.mapB AVal.bun = c := by
  cases c with
  | typ c => rfl
  | cells vs => simp only [BC.mapB, Ab.mapBs_id]
theorem mapBH_id (H : Heap) : mapBH AVal.bun H = H := by
  rw [mapBH_eq]
  refine List.ext_getElem (by simp) fun i h1 h2 => ?_
  simp [BC.mapB_id]

theorem specX_sound [Pin] {P : Program} {C : XC} (hC : XCok P C) {o : Oper} {s s' : State} {m m' : Nat} (h : specX C s m o = some (some (true, s', m'))) {X : List Nat} {w0 : World} {a : Act} {w : World} (hs : RelX X w0 s m a w)
    {Q : Exit → Act → World → Prop} {K : Act → World → Prop} (hK : ∀ a' w', RelX X w0 s' m' a' w' → K a' w') : o.guard = none ∧ o.wp P a w K Q := by
  unfold specX at h
  split at h
  · cases h
  rename_i hg
  refine ⟨hg, ?_⟩
  split at h
  case h_2 => cases h
  rename_i f args ts hop
  split at h
  case h_2 => cases h
  rename_i g hf
  obtain ⟨Fb, ρ, T, S, k, hd⟩ := hs
  have hv := @TR.ev Fb ρ s.h w s a T f
  rw [hf] at hv
  have hc : a.eval f = .func (.func g) #[] #[] := by
    generalize a.eval f = c at hv
    cases hv
    rename_i cs hl hh
    have : cs = #[] := Array.eq_empty_of_size_eq_zero (by simpa using hl.symm)
    rw [this]
  have hargs : @VRs Fb ρ s.h w (mapL s.ev args.toList) (args.map a.eval).toList := by
    rw [mapL_eq, Array.toList_map]
    exact @TR.evs Fb ρ s.h w s a T _
  have hρ : ∀ b ∈ ρ, b < w.heap.size := by
    intro b hb
    obtain ⟨l, hl⟩ := List.getElem?_of_mem hb
    obtain ⟨_, _, _, _, h1, _⟩ := @Sim.lt Fb _ _ _ S _ _ hl
    exact heap_lt h1
  split at h
  · rename_i R hR
    split at h
    case h_2 => cases h
    rename_i b u n hRv
    simp only [Option.some.injEq, Prod.mk.injEq, Bool.and_eq_true] at h
    obtain ⟨⟨rfl, hno⟩, rfl, rfl⟩ := h
    obtain ⟨he, hcall⟩ := findK_ok hC.kk hR
    unfold Oper.wp
    rw [callee_run hop hc he, Oper.upon_enter]
    refine (hcall _ u n hRv w (args.map a.eval) (lendU_VRs S hargs)).mono fun en w' ⟨c, hen, F1, E1, n1, b1, v1, M1⟩ => ?_
    subst hen
    refine hK _ _ ?_
    let F2 : Forb := ⟨Fb.l ++ F1.l, Fb.bun ++ F1.bun⟩
    have old : ∀ b ∈ Fb.l, b < w.heap.size ∧ b ∉ ρ := @Sim.forb Fb _ _ _ S
    have hm := k.len
    have same : ∀ b, b < w.heap.size → w'.heap[b]? = w.heap[b]? := fun b hb => M1.frame b hb List.not_mem_nil
    obtain ⟨S2, conv⟩ := Sim.mapB (F1 := Fb) (F2 := F2) AVal.bun S (fun b hb => same b (hρ b hb))
      (fun b hb => by
        rcases List.mem_append.1 hb with hb | hb
        · exact ⟨Nat.lt_of_lt_of_le (old b hb).1 M1.size, (old b hb).2⟩
        · exact ⟨(b1 b hb).2, fun hr => by have := hρ b hr; have := (b1 b hb).1; omega⟩)
      (fun i c len x B he hB => @VR.bun F2 ρ _ w' i c len x B (by
          show (Fb.bun ++ F1.bun)[i]? = _
          rw [List.getElem?_append_left (List.getElem?_eq_some_iff.1 he).1]; exact he) (hB.mono fun b _ h1 h2 => ⟨h2, same b h1⟩))
      (fun b hb => ⟨⟨Nat.lt_of_lt_of_le hb.1 M1.size, hb.2.1, fun hm => by
        rcases List.mem_append.1 hm with hm | hm
        · exact hb.2.2 hm
        · have := (b1 b hm).1; have := hb.1; omega⟩, same b hb.1⟩)
    rw [mapBH_id] at S2 conv
    have T2 : @TR F2 ρ s.h w' s.t a.tmps := ⟨T.1, fun i v hv => by have := conv (T.2 i v hv); rwa [mapB_id] at this⟩
    have hnew : @VR F2 ρ s.h w' (u.mapB (shI m)) c := VR.mapB (F1 := F1) (F2 := F2) (shI m) (fun _ _ _ _ _ _ _ h => (own_nil h).elim) (fun _ _ _ _ h => (ptr_nil h).elim)
      (fun i c len x B he hB => @VR.bun F2 ρ _ w' (m + i) c len x B (by
          show (Fb.bun ++ F1.bun)[m + i]? = _
          rw [← hm, List.getElem?_append_right (Nat.le_add_right _ _), Nat.add_sub_cancel_left]; exact he) (hB.mono fun b hb h1 _ => ⟨fun hr => by have := hρ b hr; have := (b1 b (E1.sub i _ B he b hb)).1; omega, rfl⟩))
      v1 (.inr hno)
    refine ⟨F2, ρ, ?_, ?_, ⟨⟨fun i v B hi => ?_, fun i j v v' B B' hij hi hj => ?_⟩, ?_, k.mv.then (Y := []) M1 (fun y hy => by cases hy), k.ow, fun b hb => ?_, k.pin.trans (List.prefix_append _ _)⟩, by cases o.dst <;> exact hd⟩
    · have := @TR.put F2 ρ s.h w' s a T2 o.dst _ _ hnew
      generalize o.dst = d at this ⊢
      cases d <;> exact this
    · cases o.dst <;> exact S2
    · have hi' : (Fb.bun ++ F1.bun)[i]? = some (v, B) := hi
      intro b hb
      show b ∈ Fb.l ++ F1.l
      rw [List.getElem?_append] at hi'
      split at hi'
      · exact List.mem_append_left _ (k.env.sub i v B hi' b hb)
      · exact List.mem_append_right _ (E1.sub _ v B hi' b hb)
    · have hi' : (Fb.bun ++ F1.bun)[i]? = some (v, B) := hi
      have hj' : (Fb.bun ++ F1.bun)[j]? = some (v', B') := hj
      rw [List.getElem?_append] at hi' hj'
      intro b hb hb'
      split at hi' <;> split at hj'
      · exact k.env.dis i j v v' B B' hij hi' hj' b hb hb'
      · have := (old b (k.env.sub i v B hi' b hb)).1; have := (b1 b (E1.sub _ v' B' hj' b hb')).1; omega
      · have := (old b (k.env.sub j v' B' hj' b hb')).1; have := (b1 b (E1.sub _ v B hi' b hb)).1; omega
      · exact E1.dis _ _ v v' B B' (by omega) hi' hj' b hb hb'
    · show (Fb.bun ++ F1.bun).length = _
      rw [List.length_append, hm, n1]
    · rcases List.mem_append.1 hb with hb | hb
      · exact k.fb b hb
      · have := (b1 b hb).1; have := k.mv.size; left; omega
  · split at h
    case h_2 => cases h
    rename_i e hM
    split at h
    case h_2 => cases h
    rename_i x kk hxs
    split at h
    case h_2 => cases h
    rename_i b r hRx
    simp only [Option.some.injEq, Prod.mk.injEq] at h
    obtain ⟨rfl, rfl, rfl⟩ := h
    obtain ⟨⟨he, hcall⟩, rfl⟩ := findM_ok hC.mw hM
    rw [hxs] at hargs
    obtain ⟨c1, cs1, e1, v1, hv1⟩ := hargs.inv_cons
    obtain ⟨c2, cs2, rfl, v2, hv2⟩ := hv1.inv_cons
    obtain rfl := hv2.inv_nil
    cases v2
    have hargs' : args.map a.eval = #[c1, .int .i64 kk] := Array.ext' e1
    unfold Oper.wp
    rw [callee_run hop hc he, Oper.upon_enter, hargs']
    refine (hcall x kk r hRx Fb ρ s.h w c1 S k.env v1).mono fun en w' ⟨hen, M⟩ => ?_
    subst hen
    refine hK _ _ ?_
    have old : ∀ b ∈ Fb.l, b < w.heap.size ∧ b ∉ ρ := @Sim.forb Fb _ _ _ S
    have bl : ∀ b, b ∈ blksOf Fb (e.ix x) → b ∈ Fb.l := fun b hb => by
      obtain ⟨i, v, B, h1, h2, h3⟩ := blksOf_mem hb
      exact k.env.sub i v B h2 b h3
    obtain ⟨S2, conv⟩ := Sim.mapB (F1 := Fb) (F2 := Fb) (drp (e.ix x)) S (fun b hb => M.frame b (hρ b hb) fun hm => (old b (bl b hm)).2 hb)
      (fun b hb => ⟨Nat.lt_of_lt_of_le (old b hb).1 M.size, (old b hb).2⟩)
      (fun i c len y B he' hB => by
        unfold drp
        cases hi : hasN (e.ix x) i with
        | true => exact @VR.top Fb ρ _ w' _
        | false =>
          refine @VR.bun Fb ρ _ w' i c len y B he' (hB.mono fun b hb h1 h2 => ⟨h2, M.frame b h1 fun hm => ?_⟩)
          obtain ⟨j, v, B', h3, h4, h5⟩ := blksOf_mem hm
          have hij : i ≠ j := fun e => hasN_mem hi (e ▸ h3)
          exact k.env.dis i j _ v B B' hij he' h4 b hb h5)
      (fun b hb => ⟨⟨Nat.lt_of_lt_of_le hb.1 M.size, hb.2⟩, M.frame b hb.1 fun hm => hb.2.2 (bl b hm)⟩)
    have T2 : @TR Fb ρ (mapBS (drp (e.ix x)) s).h w' (mapBS (drp (e.ix x)) s).t a.tmps := by
      refine ⟨by simp only [mapBS, mapBs_eq, List.length_map]; exact T.1, fun i v hv => ?_⟩
      simp only [mapBS, mapBs_eq, List.getElem?_map, Option.map_eq_some_iff] at hv
      obtain ⟨u, hu, rfl⟩ := hv
      exact conv (T.2 i u hu)
    refine ⟨Fb, ρ, ?_, ?_, ⟨k.env, k.len, k.mv.then M fun y hy => k.fb y (bl y hy), k.ow, k.fb, k.pin⟩, by cases o.dst <;> exact hd⟩
    · have := @TR.put Fb ρ _ w' (mapBS (drp (e.ix x)) s) a T2 o.dst _ _ (@VR.int Fb ρ _ w' .i64 r)
      generalize o.dst = d at this ⊢
      cases d <;> exact this
    · cases o.dst <;> exact S2

/-! ### Maps -/

def setM (i : Nat) (c' : Cont) : Nat → Cont → Nat → AVal := fun j c len => bif eqN j i then .bun i c' 0 else .bun j c len
def specM (P : Program) (s : State) (m : Nat) (o : Oper) : Option (Option (Bool × State × Nat)) :=
  match o.guard with
  | some _ => none
  | none => match o.op with
    | .makeMap t none => bif mapT P t then some (some (true, s.put o.dst (.bun m (.rows .u16 []) 0), m + 1)) else none
    | .lookup t x ix true => match s.ev x, s.ev ix with
      | .bun _ (.rows .u16 ts) _, .agg [.int .i64 a, .int .i64 b] => some (some (mapT P t && (msm.sp a && msm.sp b), s.put o.dst (.tup [.int .i64 (mget.sv ts a b), .bool (mhas.sp ts a b)]), m))
      | _, _ => none
    | .mapUpdate t x ix v => match s.ev x, s.ev ix, s.ev v with
      | .bun i (.rows .u16 ts) _, .agg [.int .i64 a, .int .i64 b], .int .i64 n => some (some (mapT P t && ((msm.sp a && msm.sp b) && !mhas.sp ts a b), (mapBS (setM i (.rows .u16 (ts ++ [[a, b, n]]))) s).put o.dst .undef, m))
      | _, _, _ => none
    | _ => none
def topN.sv (n : Nat) : List AVal := List.replicate n .top
def specW (P : Program) (s : State) (m : Nat) (o : Oper) : Option (Option (Bool × State × Nat)) :=
  match o.guard with
  | some _ => none
  | none => match o.op with
    | .makeSlice t l c => match P.underlying t, s.ev l, s.ev c with
      | some (.slice e), .int _ n, .int _ n' => match P.info? e with
        | some i => match i.zero with
          | some _ => bif decide (2 ≤ i.size) then some (some (n == n' && (decide (0 ≤ n) && (decide (n * i.bytes ≤ 140737488355328) && decide (n ≤ 4611686018427387904))),
              (State.put ⟨s.t, snoc s.h ⟨.cells (topN.sv (mulN n.toNat i.size)), 0⟩⟩ o.dst (.own (hlen s.h) 0 n.toNat 0 i.size)), m)) else none
          | none => none
        | none => none
      | _, _, _ => none
    | _ => none
/-! ### Slices of what is held: one written out, and one put behind another -/

def allCell : List AVal → Bool
  | [] => true
  | v :: r => v.isCell && allCell r
theorem allCell_at : ∀ {vs : List AVal}, allCell vs = true → ∀ (i : Nat) (v : AVal), vs[i]? = some v → v.isCell = true := by
  intro vs
  induction vs with
  | nil => intro _ i v h; simp at h
  | cons x r ih =>
    intro h i v hi
    simp only [allCell, Bool.and_eq_true] at h
    cases i with
    | zero => simp only [List.getElem?_cons_zero, Option.some.injEq] at hi; subst hi; exact h.1
    | succ i => exact ih h.2 i v (by simpa using hi)
def aappendC (P : Program) (H : Heap) (t : TypeId) (s x : AVal) : Option (Bool × AVal × Heap) :=
  match P.underlying t with
  | some (.slice e) =>
    match P.info? e with
    | some i => match i.zero with
      | some z =>
          match s, x with
          | .own l off len ver z1, .own l2 off2 n ver2 z2 => match nth H l, nth H l2 with
            | some ⟨.cells vs, ver'⟩, some ⟨.cells us, ver2'⟩ => some ((i.size == 1 && z.cells.size == 1) && ((eqN ver ver' && (eqN off 0 && eqN z1 1)) && ((eqN ver2 ver2' && (eqN off2 0 && eqN z2 1)) &&
                  ((eqN (hlen vs) len && (eqN (hlen us) n && allCell us)) && (decide (len + n ≤ 4611686018427387904) && decide ((len + n) * i.bytes ≤ 140737488355328))))),
                    .own l 0 (len + n) (ver + 1) 1, upd H l ⟨.cells (app vs us), ver + 1⟩)
            | _, _ => none
          | _, _ => none
      | none => none
    | none => none
  | _ => none

theorem loads_ok [Fb : Forb] {P : Program} {ρ : List Nat} {H : Heap} {w : World} {us : List AVal} (p : Addr) (n : Nat) (hn : ∀ i, i < n → ∃ v u, us[i]? = some v ∧ w.cell? (p.add i) = some u ∧ VR ρ H w v u) :
    ∃ xs : List Value, xs.length = n ∧ (∀ i v, i < n → us[i]? = some v → ∃ u, xs[i]? = some u ∧ VR ρ H w v u) ∧ (∀ acc, (loadCellsFrom p 0 n acc).run P w = .ok (acc ++ xs.toArray) w) := by
  have aux : ∀ (m i : Nat), i + m = n → ∃ xs : List Value, xs.length = m ∧ (∀ j v, j < m → us[i + j]? = some v → ∃ u, xs[j]? = some u ∧ VR ρ H w v u) ∧ (∀ acc, (loadCellsFrom p i m acc).run P w = .ok (acc ++ xs.toArray) w) := by
    intro m
    induction m with
    | zero => intro i _; exact ⟨[], rfl, fun j v hj => by omega, fun acc => by simp [loadCellsFrom]⟩
    | succ m ih =>
      intro i hi
      obtain ⟨v0, u0, g1, g2, g3⟩ := hn i (by omega)
      obtain ⟨xs, k1, k2, k3⟩ := ih (i + 1) (by omega)
      refine ⟨u0 :: xs, by simp [k1], fun j v hj hv => ?_, fun acc => ?_⟩
      · cases j with
        | zero => rw [Nat.add_zero, g1] at hv; simp only [Option.some.injEq] at hv; subst hv; exact ⟨u0, rfl, g3⟩
        | succ j => exact k2 j v (by omega) (by rw [show i + 1 + j = i + (j + 1) by omega]; exact hv)
      · simp only [loadCellsFrom, Sem.run_bind, run_load g2, Result.andThen_ok, k3]
        congr 1
        simp
  obtain ⟨xs, k1, k2, k3⟩ := aux n 0 (by omega)
  exact ⟨xs, k1, fun i v hi hv => k2 i v hi (by rw [Nat.zero_add]; exact hv), k3⟩

/-- What a block of cells holds, read. -/
theorem readC_ok [Fb : Forb] {P : Program} {ρ : List Nat} {H : Heap} {w : World} (S : Sim ρ H w) {l len ver : Nat} {us : List AVal} {a : Addr} {cap : Nat} (ho : OwnR ρ H w l 0 len ver 1 a cap) (hb : H[l]? = some ⟨.cells us, ver⟩) (hl : us.length = len) :
    ∃ xs : List Value, xs.length = len ∧ (∀ (i : Nat) (v : AVal), us[i]? = some v → ∃ u, xs[i]? = some u ∧ VR ρ H w v u) ∧ (Builtin.firstCells 1 len (.slice (some a) len cap)).run P w = .ok xs.toArray w := by
  obtain ⟨blk, g1, g2, g3⟩ := ho
  have := g1.symm.trans hb
  simp only [Option.some.injEq] at this
  subst this
  obtain ⟨b, cs, e, r1, r2, r3, r4, r5⟩ := g3 rfl
  obtain ⟨cs', e', q1, q2⟩ := S.blk l b _ g1 r1
  obtain ⟨xs, k1, k2, k3⟩ := loads_ok (P := P) (us := us) a len (fun i hi => by
    have hlt : i < us.length := by omega
    obtain ⟨u, u1, u2⟩ := q2.2 i us[i] (by simp only [BC.get?, nth_eq]; exact List.getElem?_eq_getElem hlt)
    refine ⟨us[i], u, List.getElem?_eq_getElem hlt, ?_, u2⟩
    rw [r2, add_lit]
    simp only [World.cell?, q1]
    simpa using u1)
  refine ⟨xs, k1, fun i v hv => k2 i v (by have := (List.getElem?_eq_some_iff.1 hv).1; omega) hv, ?_⟩
  simp [Builtin.firstCells, loadCells, k3]

theorem appendC_ok [Fb : Forb] {P : Program} {ρ : List Nat} {H H' : Heap} {w : World} (S : Sim ρ H w) {t : TypeId} {s x v : AVal} {cs cx : Value} (h : aappendC P H t s x = some (true, v, H')) (hs : VR ρ H w s cs) (hx : VR ρ H w x cx) (ty : TypeId) :
    ∃ c w', (Builtin.append_ #[t, t] ty #[cs, cx]).run P w = .ok c w' ∧ G ρ H w v H' c w' := by
  unfold aappendC at h
  simp only [nth_eq, upd_eq, hlen_eq, app_eq] at h
  split at h
  case h_2 => cases h
  rename_i e hu
  split at h
  case h_2 => cases h
  rename_i i hi
  split at h
  case h_2 => cases h
  rename_i z hz
  split at h
  case h_2 => cases h
  rename_i l off len ver z1 l2 off2 n ver2 z2
  split at h
  case h_2 => cases h
  rename_i vs ver' us ver2' hb hb2
  simp only [Option.some.injEq, Prod.mk.injEq, Bool.and_eq_true, eqN_eq, beq_iff_eq, decide_eq_true_eq] at h
  obtain ⟨⟨⟨hsz, hzs⟩, ⟨rfl, rfl, rfl⟩, ⟨rfl, rfl, rfl⟩, ⟨hvl, hul, hall⟩, hbig, hbytes⟩, rfl, rfl⟩ := h
  cases hs with
  | own _ _ _ _ _ a capS ho hm =>
  cases hx with
  | own _ _ _ _ _ ax cap hox hmx =>
  obtain ⟨xs, hxl, hxv, hxr⟩ := readC_ok (P := P) S hox hb2 hul
  have ho0 := ho
  obtain ⟨blk, g1, g2, g3⟩ := ho
  have := g1.symm.trans hb
  simp only [Option.some.injEq] at this
  subst this
  obtain ⟨b, cs, e0, r1, rfl, r3, r4, r5⟩ := g3 rfl
  obtain ⟨cs0, e1, q1, q2⟩ := S.blk l b _ g1 r1
  have heq : cs0 = cs := by
    have := q1.symm.trans r4
    simp only [Option.some.injEq, Obj.cells.injEq] at this
    exact this.1
  subst heq
  have hxc : ∀ y ∈ xs, oneC y = true := by
    intro y hy
    obtain ⟨j, hj⟩ := List.mem_iff_getElem?.1 hy
    have hjl := (List.getElem?_eq_some_iff.1 hj).1
    have hju : j < us.length := by omega
    obtain ⟨y', y1, y2⟩ := hxv j us[j] (List.getElem?_eq_getElem hju)
    obtain rfl : y' = y := Option.some.inj (y1.symm.trans hj)
    exact oneC_of y2 (allCell_at hall j _ (List.getElem?_eq_getElem hju))
  have hlt := (List.getElem?_eq_some_iff.1 g1).1
  have hltρ := (List.getElem?_eq_some_iff.1 r1).1
  have hq1 : vs.length ≤ cs0.size := by have := q2.1; simpa only [BC.len, hlen_eq] using this
  by_cases hroom : len + n ≤ capS
  · obtain ⟨w', cs', k1, k2, k3, k4, k5, k6, k7, k8, k9, k10⟩ := run_storeCells' (P := P) b _ xs 0 len cs0 w q1 (by omega) hxc
    have hbr : BR ρ H w (.cells (vs ++ us)) cs' := by
      refine ⟨by simp only [BC.len, hlen_eq, List.length_append]; omega, fun j u hu => ?_⟩
      simp only [BC.get?, nth_eq] at hu
      by_cases hj : j < len
      · rw [List.getElem?_append_left (by omega)] at hu
        obtain ⟨y, y1, y2⟩ := q2.2 j u (by simp only [BC.get?, nth_eq]; exact hu)
        exact ⟨y, by rw [k9 j (by omega)]; exact y1, y2⟩
      · obtain ⟨m, rfl⟩ : ∃ m, j = len + m := ⟨j - len, by omega⟩
        rw [List.getElem?_append_right (by omega), hvl, Nat.add_sub_cancel_left] at hu
        obtain ⟨y, y1, y2⟩ := hxv m u hu
        exact ⟨y, by have := k10 m y y1; rwa [Nat.add_zero] at this, y2⟩
    obtain ⟨m1, m2⟩ := Sim.renew S (w' := w') (ver' := ver + 1) g1 r1 k4 k5 k6 (by omega) (fun k _ hk => k8 k hk) (.inl rfl) k2 hbr (Nat.lt_succ_self _)
    refine ⟨.slice (some ⟨b, 0, none⟩) (len + n) capS, w', ?_, _, .own _ _ _ _ _ _ _ ⟨⟨.cells (vs ++ us), ver + 1⟩, by simp [hlt], Nat.le_refl _, fun _ => ⟨b, cs', _, by simp [hltρ], rfl, by simp only [BC.len, hlen_eq, List.length_append]; omega, k2, by omega⟩⟩ hroom, m2, m1⟩
    simp [Builtin.append_, run_underlying hu, run_sizeOf' (show asz P e = some 1 by simp [asz, hi, hsz]), Builtin.lenOf, hroom, hxr, add_lit, k1]
  · have hd := Mv.drew ρ H w
    have Sd := S.drew
    have ho' : VR ρ H w.drew (.own l 0 len ver 1) (.slice (some ⟨b, 0, none⟩) len capS) := (VR.own l 0 len ver 1 ⟨b, 0, none⟩ capS ho0 hm).mv hd
    have hx' : VR ρ H w.drew (.own l2 0 n ver2 1) (.slice (some ax) n cap) := (VR.own l2 0 n ver2 1 ax cap hox hmx).mv hd
    have o1 : OwnR ρ H w.drew l 0 len ver 1 ⟨b, 0, none⟩ capS := by cases ho' with | own _ _ _ _ _ _ _ h _ => exact h
    have o2 : OwnR ρ H w.drew l2 0 n ver2 1 ax cap := by cases hx' with | own _ _ _ _ _ _ _ h _ => exact h
    obtain ⟨xo, hol, hov, hor⟩ := readC_ok (P := P) Sd o1 hb hvl
    obtain ⟨xs, hxl, hxv, hxr⟩ := readC_ok (P := P) Sd o2 hb2 hul
    have hrun := run_grow (P := P) w t ty e i z hu hi hz hsz _ _ len capS n cap xo xs hor hxr (by omega) hbig hbytes
    refine ⟨_, _, hrun, ?_⟩
    have hge := grownCap_ge w (len + n) capS e
    generalize grownCap w (len + n) capS e = gc at *
    have hbr : BR ρ H w.drew (.cells (vs ++ us)) (xo.toArray ++ xs.toArray ++ Builtin.zeroCells z.cells (gc - (len + n))) := by
      refine ⟨by simp only [BC.len, hlen_eq, List.length_append, Array.size_append, List.size_toArray]; omega, fun j u hu => ?_⟩
      simp only [BC.get?, nth_eq] at hu
      by_cases hj : j < len
      · rw [List.getElem?_append_left (by omega)] at hu
        obtain ⟨y, y1, y2⟩ := hov j u hu
        refine ⟨y, ?_, y2⟩
        rw [Array.getElem?_append_left (by simp; omega), Array.getElem?_append_left (by simp; omega)]
        simpa using y1
      · obtain ⟨m, rfl⟩ : ∃ m, j = len + m := ⟨j - len, by omega⟩
        rw [List.getElem?_append_right (by omega), hvl, Nat.add_sub_cancel_left] at hu
        have hml := (List.getElem?_eq_some_iff.1 hu).1
        obtain ⟨y, y1, y2⟩ := hxv m u hu
        refine ⟨y, ?_, y2⟩
        rw [Array.getElem?_append_left (by simp; omega), Array.getElem?_append_right (by simp; omega)]
        simp only [List.size_toArray, hol, Nat.add_sub_cancel_left]
        simpa using y1
    obtain ⟨m1, m2⟩ := Sim.renew Sd (w' := w.drew.alloc (Obj.cells (xo.toArray ++ xs.toArray ++ Builtin.zeroCells z.cells (gc - (len + n))) e (0, 0))) (ver' := ver + 1) (b' := w.heap.size) g1 r1 rfl rfl rfl (by simp) (fun k hk _ => alloc_old _ _ k hk) (.inr (Nat.le_refl _)) (alloc_new w.drew _) hbr (Nat.lt_succ_self _)
    refine ⟨_, .own _ _ _ _ _ _ _ ⟨⟨.cells (vs ++ us), ver + 1⟩, by simp [hlt], Nat.le_refl _, fun _ => ⟨w.heap.size, _, _, by simp [hltρ], rfl, by simp only [BC.len, hlen_eq, List.length_append]; omega, alloc_new w.drew _, ?_⟩⟩ hge, m2, hd.trans m1⟩
    simp only [Array.size_append, List.size_toArray, size_zeroCells, hzs]
    omega

def isBun : AVal → Bool
  | .bun .. => true
  | _ => false
def specA (P : Program) (s : State) (m : Nat) (o : Oper) : Option (Option (Bool × State × Nat)) :=
  match o.guard with
  | some _ => none
  | none => match o.op with
    | .buildSlice t 1 parts => match parts.toList with
      | [(j, x)] => bif isBun (s.ev x) then match P.underlying t with
        | some (.slice e) => match P.info? e with
          | some i => match i.zero with
            | some z => match abuild.fill s.ev (.cells [.top]) [(j, x)] with
              | some c' => some (some (i.size == 1 && z.cells.size == 1, (State.put ⟨s.t, snoc s.h ⟨c', 0⟩⟩ o.dst (.own (hlen s.h) 0 1 0 1)), m))
              | none => none
            | none => none
          | none => none
        | _ => none
        else none
      | _ => none
    | .call { callee := .builtin .append, args, argTypes := ts } => match args.toList, ts.toList with
      | [x, y], [t, t'] => bif eqN t t' then match aappendC P s.h t (s.ev x) (s.ev y) with
        | some (b, v, H') => some (some (b, (State.put ⟨s.t, H'⟩ o.dst v), m))
        | none => none
        else none
      | _, _ => none
    | _ => none

theorem specA_sound [Pin] {P : Program} {o : Oper} {s s' : State} {m m' : Nat} (h : specA P s m o = some (some (true, s', m'))) {X : List Nat} {w0 : World} {a : Act} {w : World} (hs : RelX X w0 s m a w)
    {Q : Exit → Act → World → Prop} {K : Act → World → Prop} (hK : ∀ a' w', RelX X w0 s' m' a' w' → K a' w') : o.guard = none ∧ o.wp P a w K Q := by
  unfold specA at h
  split at h
  · cases h
  rename_i hg
  refine ⟨hg, ?_⟩
  obtain ⟨Fb, ρ, T, S, k, hd⟩ := hs
  split at h
  · rename_i t parts hop
    split at h
    case h_2 => cases h
    rename_i j x hp
    simp only [Bool.cond_eq_ite] at h
    split at h
    case isFalse => cases h
    split at h
    case h_2 => cases h
    rename_i e hu
    split at h
    case h_2 => cases h
    rename_i i hi
    split at h
    case h_2 => cases h
    rename_i z hz
    split at h
    case h_2 => cases h
    rename_i c' hc'
    simp only [Option.some.injEq, Prod.mk.injEq, Bool.and_eq_true, beq_iff_eq, hlen_eq, snoc_eq] at h
    obtain ⟨⟨hsz, hzs⟩, rfl, rfl⟩ := h
    let cs0 : Array Value := (Array.range (1 * 1)).map fun j => (if 1 * 1 = 0 then #[] else z.cells)[j % (if 1 * 1 = 0 then #[] else z.cells).size]!
    have hc0 : cs0.size = 1 := by simp [cs0]
    have b0 : ∀ ρ, @BR Fb ρ s.h w (.cells [.top]) cs0 := by
      intro ρ
      refine ⟨by simp [BC.len, hlen_eq, hc0], fun j v hv => ?_⟩
      simp only [BC.get?, nth_eq] at hv
      cases j with
      | zero =>
        simp only [List.getElem?_cons_zero, Option.some.injEq] at hv; subst hv
        exact ⟨cs0[0]'(by omega), Array.getElem?_eq_getElem (by omega), @VR.top Fb _ _ _ _⟩
      | succ j => simp at hv
    obtain ⟨cs', k1, k2, k3, k4⟩ := @fill_ok Fb ρ s.h w s a T [(j, x)] (.cells [.top]) c' cs0 hc' (b0 ρ) (by simp [BC.len, hlen_eq, hc0])
    have k4' : c'.len = 1 := by rw [k4]; simp [BC.len, hlen_eq]
    have hpl : (parts.map fun (i, x) => (i, a.eval x)).toList = [(j, x)].map fun p => (p.1, a.eval p.2) := by simp [hp]
    have hr2 : (execOp a.eval o).run P w = .ok (.value (.slice (some ⟨w.heap.size, 0, none⟩) 1 1)) (w.alloc (Obj.cells cs' e (0, 0))) := by
      obtain ⟨dst, op, ty, pos, after, guard⟩ := o
      simp only [] at hop
      subst hop
      have : (Instr.buildSlice t 1 (parts.map fun (i, x) => (i, a.eval x))).run P w = .ok (.slice (some ⟨w.heap.size, 0, none⟩) 1 1) (w.alloc (Obj.cells cs' e (0, 0))) := by
        simp only [Instr.buildSlice, Sem.run_bind, run_underlying hu, Result.andThen_ok, run_sizeOf' (show asz P e = some 1 by simp [asz, hi, hsz]), if_false, Sem.run_pure, hpl]
        simp [cs0] at k1
        simp [zeroValue, typeInfo, hi, hz, k1, run_newRow']
      simp [execOp, this]
    unfold Oper.wp
    rw [hr2, Oper.upon_value]
    refine hK _ _ ?_
    exact RelX.of_St k (@St.put Fb ρ s.h w s a w _ ⟨⟨ρ, T, S, Mv.refl _ _ _⟩, hd⟩ o.dst _ _ _ (fun ρ' T' S' => by
      obtain ⟨cs2, m1, m2, m3, m4⟩ := @fill_ok Fb ρ' s.h w s a T' [(j, x)] (.cells [.top]) c' cs0 hc' (b0 ρ') (by simp [BC.len, hlen_eq, hc0])
      rw [k1] at m1
      simp only [Option.some.injEq] at m1
      subst m1
      exact @newslice Fb ρ' s.h w S' ⟨c', 0⟩ cs' e m2 rfl 1 1 (Nat.le_of_eq k4'.symm) (by rw [k3, k4']; exact Nat.le_refl _) (Nat.le_refl _)))
  · rename_i args ts hop
    split at h
    case h_2 => cases h
    rename_i x y t t' hargs hts
    simp only [Bool.cond_eq_ite, eqN_eq, beq_iff_eq] at h
    split at h
    case isFalse => cases h
    rename_i ht
    subst ht
    split at h
    case h_2 => cases h
    rename_i b v H' hap
    simp only [Option.some.injEq, Prod.mk.injEq] at h
    obtain ⟨rfl, rfl, rfl⟩ := h
    have hts' : ts = #[t, t] := by cases ts; simp at hts; simp [hts]
    have hargs' : args.map a.eval = #[a.eval x, a.eval y] := by
      apply Array.ext'
      rw [Array.toList_map, hargs]
      rfl
    obtain ⟨c, w', hrun, hG⟩ := @appendC_ok Fb P ρ s.h H' w S t _ _ v _ _ hap (@TR.ev Fb ρ s.h w s a T x) (@TR.ev Fb ρ s.h w s a T y) o.type
    unfold Oper.wp
    have hr2 : (execOp a.eval o).run P w = .ok (.value c) w' := by
      obtain ⟨dst, op, ty, pos, after, guard⟩ := o
      simp only [] at hop hrun
      subst hop
      simp [execOp, resolve, invoke, builtin, hargs', hts', hrun]
    rw [hr2, Oper.upon_value]
    refine hK _ _ ?_
    exact RelX.of_St k (@St.put Fb ρ s.h w s a w w' ⟨⟨ρ, T, S, Mv.refl _ _ _⟩, hd⟩ o.dst v H' c (fun ρ' T' S' => by
      obtain ⟨c2, w2, hrun2, hG2⟩ := @appendC_ok Fb P ρ' s.h H' w S' t _ _ v _ _ hap (@TR.ev Fb ρ' s.h w s a T' x) (@TR.ev Fb ρ' s.h w s a T' y) o.type
      rw [hrun] at hrun2
      simp only [Result.ok.injEq] at hrun2
      obtain ⟨rfl, rfl⟩ := hrun2
      exact hG2))
  · cases h
def setG (i : Nat) (c' : Cont) (m : Nat) : Nat → Cont → Nat → AVal := fun j c len => bif eqN j i then .bun i c' m else .bun j c len
def specG (C : XC) (s : State) (m : Nat) (o : Oper) : Option (Option (Bool × State × Nat)) :=
  match o.guard with
  | some _ => none
  | none => match o.op with
    | .call { callee := .value f, args, .. } => match s.ev f with
      | .fn g [] => match findG C.gw g with
        | some e => match mapL s.ev args.toList with
          | [x, .int .i64 k] => match e.R x k with
            | some (b, r, i, c', len) => some (some (b, (mapBS (setG i c' len) s).put o.dst (.int .i64 r), m))
            | none => some none
          | _ => some none
        | none => none
      | _ => none
    | _ => none
theorem specG_sound [Pin] {P : Program} {C : XC} (hC : XCok P C) {o : Oper} {s s' : State} {m m' : Nat} (h : specG C s m o = some (some (true, s', m'))) {X : List Nat} {w0 : World} {a : Act} {w : World} (hs : RelX X w0 s m a w)
    {Q : Exit → Act → World → Prop} {K : Act → World → Prop} (hK : ∀ a' w', RelX X w0 s' m' a' w' → K a' w') : o.guard = none ∧ o.wp P a w K Q := by
  unfold specG at h
  split at h
  · cases h
  rename_i hg
  refine ⟨hg, ?_⟩
  split at h
  case h_2 => cases h
  rename_i f args ts hop
  split at h
  case h_2 => cases h
  rename_i g hf
  obtain ⟨Fb, ρ, T, S, k, hd⟩ := hs
  have hv := @TR.ev Fb ρ s.h w s a T f
  rw [hf] at hv
  have hc : a.eval f = .func (.func g) #[] #[] := by
    generalize a.eval f = c at hv
    cases hv
    rename_i cs hl hh
    have : cs = #[] := Array.eq_empty_of_size_eq_zero (by simpa using hl.symm)
    rw [this]
  have hargs : @VRs Fb ρ s.h w (mapL s.ev args.toList) (args.map a.eval).toList := by
    rw [mapL_eq, Array.toList_map]
    exact @TR.evs Fb ρ s.h w s a T _
  have hρ : ∀ b ∈ ρ, b < w.heap.size := by
    intro b hb
    obtain ⟨l, hl⟩ := List.getElem?_of_mem hb
    obtain ⟨_, _, _, _, h1, _⟩ := @Sim.lt Fb _ _ _ S _ _ hl
    exact heap_lt h1
  split at h
  case h_2 => cases h
  rename_i e hM
  split at h
  case h_2 => cases h
  rename_i x kk hxs
  split at h
  case h_2 => cases h
  rename_i b r i c' len hRx
  simp only [Option.some.injEq, Prod.mk.injEq] at h
  obtain ⟨rfl, rfl, rfl⟩ := h
  obtain ⟨⟨he, hcall⟩, rfl⟩ := findG_ok hC.gw hM
  rw [hxs] at hargs
  obtain ⟨c1, cs1, e1, v1, hv1⟩ := hargs.inv_cons
  obtain ⟨c2, cs2, rfl, v2, hv2⟩ := hv1.inv_cons
  obtain rfl := hv2.inv_nil
  cases v2
  have hargs' : args.map a.eval = #[c1, .int .i64 kk] := Array.ext' e1
  unfold Oper.wp
  rw [callee_run hop hc he, Oper.upon_enter, hargs']
  refine (hcall x kk r i c' len hRx Fb ρ s.h w c1 S k.env v1).mono fun en w' ⟨hen, M, vn⟩ => ?_
  subst hen
  refine hK _ _ ?_
  have old : ∀ b ∈ Fb.l, b < w.heap.size ∧ b ∉ ρ := @Sim.forb Fb _ _ _ S
  have bl : ∀ b, b ∈ blksOf Fb [i] → b ∈ Fb.l := fun b hb => by
    obtain ⟨i, v, B, h1, h2, h3⟩ := blksOf_mem hb
    exact k.env.sub i v B h2 b h3
  have vn2 : ∃ B, Fb.bun[i]? = some (c1, B) ∧ BunV B ρ w' c' len c1 := by
    cases vn with
    | bun _ _ _ _ B he hB => exact ⟨B, he, hB⟩
  obtain ⟨B0, he0, hB0⟩ := vn2
  obtain ⟨S2, conv⟩ := Sim.mapB (F1 := Fb) (F2 := Fb) (setG i c' len) S (fun b hb => M.frame b (hρ b hb) fun hm => (old b (bl b hm)).2 hb)
    (fun b hb => ⟨Nat.lt_of_lt_of_le (old b hb).1 M.size, (old b hb).2⟩)
    (fun j c len' y B he' hB => by
      unfold setG
      cases hj : eqN j i with
      | true =>
        rw [eqN_eq, beq_iff_eq] at hj
        subst hj
        rw [he0] at he'
        simp only [Option.some.injEq, Prod.mk.injEq] at he'
        obtain ⟨rfl, rfl⟩ := he'
        exact @VR.bun Fb ρ _ w' j c' len c1 B0 he0 hB0
      | false =>
        rw [eqN_eq, beq_eq_false_iff_ne] at hj
        refine @VR.bun Fb ρ _ w' j c len' y B he' (hB.mono fun b hb h1 h2 => ⟨h2, M.frame b h1 fun hm => ?_⟩)
        obtain ⟨j2, v, B', h3, h4, h5⟩ := blksOf_mem hm
        simp only [List.mem_singleton] at h3
        subst h3
        exact k.env.dis j j2 _ v B B' hj he' h4 b hb h5)
    (fun b hb => ⟨⟨Nat.lt_of_lt_of_le hb.1 M.size, hb.2⟩, M.frame b hb.1 fun hm => hb.2.2 (bl b hm)⟩)
  have T2 : @TR Fb ρ (mapBS (setG i c' len) s).h w' (mapBS (setG i c' len) s).t a.tmps := by
    refine ⟨by simp only [mapBS, mapBs_eq, List.length_map]; exact T.1, fun i v hv => ?_⟩
    simp only [mapBS, mapBs_eq, List.getElem?_map, Option.map_eq_some_iff] at hv
    obtain ⟨u, hu, rfl⟩ := hv
    exact conv (T.2 i u hu)
  refine ⟨Fb, ρ, ?_, ?_, ⟨k.env, k.len, k.mv.then M fun y hy => k.fb y (bl y hy), k.ow, k.fb, k.pin⟩, by cases o.dst <;> exact hd⟩
  · have := @TR.put Fb ρ _ w' (mapBS (setG i c' len) s) a T2 o.dst _ _ (@VR.int Fb ρ _ w' .i64 r)
    generalize o.dst = d at this ⊢
    cases d <;> exact this
  · cases o.dst <;> exact S2
def specP (P : Program) (C : XC) (s : State) (m : Nat) (o : Oper) : Option (Option (Bool × State × Nat)) :=
  match specM P s m o with
  | some r => some r
  | none => match specW P s m o with
    | some r => some r
    | none => match specA P s m o with
      | some r => some r
      | none => match specG C s m o with
        | some r => some r
        | none => specX C s m o

theorem agg2_inv {Fb : Forb} {ρ : List Nat} {H : Heap} {w : World} {a b : Int} {c : Value} (h : @VR Fb ρ H w (.agg [.int .i64 a, .int .i64 b]) c) : c = .agg #[.int .i64 a, .int .i64 b] := by
  cases h with
  | agg vs cs hl h =>
    obtain ⟨cs⟩ := cs
    match cs, hl with
    | [c0, c1], _ =>
      have h0 := h 0 _ rfl
      have h1 := h 1 _ rfl
      simp only [Array.getD_eq_getD_getElem?, List.getElem?_toArray, List.getElem?_cons_zero, List.getElem?_cons_succ, Option.getD_some] at h0 h1
      cases h0
      cases h1
      rfl

theorem specM_sound [Pin] {P : Program} {o : Oper} {s s' : State} {m m' : Nat} (h : specM P s m o = some (some (true, s', m'))) {X : List Nat} {w0 : World} {a : Act} {w : World} (hs : RelX X w0 s m a w)
    {Q : Exit → Act → World → Prop} {K : Act → World → Prop} (hK : ∀ a' w', RelX X w0 s' m' a' w' → K a' w') : o.guard = none ∧ o.wp P a w K Q := by
  unfold specM at h
  split at h
  · cases h
  rename_i hg
  refine ⟨hg, ?_⟩
  obtain ⟨Fb, ρ, T, S, k, hd⟩ := hs
  have hρ : ∀ b ∈ ρ, b < w.heap.size := by
    intro b hb
    obtain ⟨l, hl⟩ := List.getElem?_of_mem hb
    obtain ⟨_, _, _, _, h1, _⟩ := @Sim.lt Fb _ _ _ S _ _ hl
    exact heap_lt h1
  have old : ∀ b ∈ Fb.l, b < w.heap.size ∧ b ∉ ρ := @Sim.forb Fb _ _ _ S
  split at h
  · rename_i t hop
    simp only [Bool.cond_eq_ite] at h
    split at h
    case isFalse => cases h
    rename_i hT
    simp only [Option.some.injEq, Prod.mk.injEq, true_and] at h
    obtain ⟨rfl, rfl⟩ := h
    unfold Oper.wp
    have hr : (execOp a.eval o).run P w = .ok (.value (.map (some w.heap.size))) (w.alloc (.map #[] 0)) := by
      obtain ⟨dst, op, ty, pos, after, guard⟩ := o
      simp only [] at hop
      subst hop
      simp [execOp, Instr.makeMap]
    rw [hr, Oper.upon_value]
    refine hK _ _ ?_
    let w' : World := w.alloc (.map #[] 0)
    have hsz : w'.heap = w.heap.push (.map #[] 0) := rfl
    have same : ∀ b, b < w.heap.size → w'.heap[b]? = w.heap[b]? := fun b hb => by rw [hsz, Array.getElem?_push_lt hb, Array.getElem?_eq_getElem hb]
    have hnew : w'.heap[w.heap.size]? = some (.map #[] 0) := by rw [hsz]; simp
    have hsize : w'.heap.size = w.heap.size + 1 := by rw [hsz]; simp
    let F2 : Forb := ⟨w.heap.size :: Fb.l, Fb.bun ++ [(.map (some w.heap.size), [w.heap.size])]⟩
    have hm := k.len
    have M1 : MvX [] w w' := ⟨rfl, rfl, rfl, by omega, fun b hb _ => same b hb⟩
    obtain ⟨S2, conv⟩ := Sim.mapB (F1 := Fb) (F2 := F2) (w' := w') AVal.bun S (fun b hb => same b (hρ b hb))
      (fun b hb => by
        rcases List.mem_cons.1 hb with rfl | hb
        · exact ⟨by omega, fun hr => by have := hρ _ hr; omega⟩
        · exact ⟨by have := (old b hb).1; omega, (old b hb).2⟩)
      (fun i c len x B he hB => @VR.bun F2 ρ _ w' i c len x B (by
          show (Fb.bun ++ _)[i]? = _
          rw [List.getElem?_append_left (List.getElem?_eq_some_iff.1 he).1]; exact he) (hB.mono fun b _ h1 h2 => ⟨h2, same b h1⟩))
      (fun b hb => ⟨⟨by have := hb.1; omega, hb.2.1, fun hm => by
        rcases List.mem_cons.1 hm with rfl | hm
        · exact absurd hb.1 (by omega)
        · exact hb.2.2 hm⟩, same b hb.1⟩)
    rw [mapBH_id] at S2 conv
    have T2 : @TR F2 ρ s.h w' s.t a.tmps := ⟨T.1, fun i v hv => by have := conv (T.2 i v hv); rwa [mapB_id] at this⟩
    have hv : @VR F2 ρ s.h w' (.bun m (.rows .u16 []) 0) (.map (some w.heap.size)) := by
      refine @VR.bun F2 ρ _ w' m _ 0 _ [w.heap.size] ?_ (.inr (.inl ⟨rfl, rfl, w.heap.size, #[], 0, rfl, List.mem_singleton_self _, fun hr => by have := hρ _ hr; omega, hnew, rfl, List.Pairwise.nil, fun j t hj => by simp [Cont.ents] at hj⟩))
      show (Fb.bun ++ _)[m]? = _
      rw [← hm, List.getElem?_append_right (Nat.le_refl _), Nat.sub_self]
      rfl
    refine ⟨F2, ρ, ?_, ?_, ⟨⟨fun i v B hi => ?_, fun i j v v' B B' hij hi hj => ?_⟩, ?_, k.mv.then (Y := []) M1 (fun y hy => by cases hy), k.ow, fun b hb => ?_, k.pin.trans (List.prefix_append _ _)⟩, by cases o.dst <;> exact hd⟩
    · have := @TR.put F2 ρ s.h w' s a T2 o.dst _ _ hv
      generalize o.dst = d at this ⊢
      cases d <;> exact this
    · cases o.dst <;> exact S2
    · have hi' : (Fb.bun ++ [(Value.map (some w.heap.size), [w.heap.size])])[i]? = some (v, B) := hi
      intro b hb
      show b ∈ w.heap.size :: Fb.l
      rw [List.getElem?_append] at hi'
      split at hi'
      · exact List.mem_cons_of_mem _ (k.env.sub i v B hi' b hb)
      · obtain ⟨_, h2⟩ := List.getElem?_eq_some_iff.1 hi'
        simp only [List.getElem_singleton, Prod.mk.injEq] at h2
        obtain ⟨_, rfl⟩ := h2
        exact (List.mem_singleton.1 hb) ▸ List.mem_cons_self
    · have hi' : (Fb.bun ++ [(Value.map (some w.heap.size), [w.heap.size])])[i]? = some (v, B) := hi
      have hj' : (Fb.bun ++ [(Value.map (some w.heap.size), [w.heap.size])])[j]? = some (v', B') := hj
      rw [List.getElem?_append] at hi' hj'
      intro b hb hb'
      split at hi' <;> split at hj'
      · exact k.env.dis i j v v' B B' hij hi' hj' b hb hb'
      · obtain ⟨_, h2⟩ := List.getElem?_eq_some_iff.1 hj'
        simp only [List.getElem_singleton, Prod.mk.injEq] at h2
        obtain ⟨_, rfl⟩ := h2
        have := (old b (k.env.sub i v B hi' b hb)).1
        have := List.mem_singleton.1 hb'
        omega
      · obtain ⟨_, h2⟩ := List.getElem?_eq_some_iff.1 hi'
        simp only [List.getElem_singleton, Prod.mk.injEq] at h2
        obtain ⟨_, rfl⟩ := h2
        have := (old b (k.env.sub j v' B' hj' b hb')).1
        have := List.mem_singleton.1 hb
        omega
      · have l1 := (List.getElem?_eq_some_iff.1 hi').1
        have l2 := (List.getElem?_eq_some_iff.1 hj').1
        simp only [List.length_singleton] at l1 l2
        omega
    · show (Fb.bun ++ _).length = _
      rw [List.length_append, hm]
      rfl
    · rcases List.mem_cons.1 hb with rfl | hb
      · left; exact k.mv.size
      · exact k.fb b hb
  · rename_i t x ix hop
    split at h
    case h_2 => cases h
    rename_i i ts len p q hx hix
    simp only [Option.some.injEq, Prod.mk.injEq, Bool.and_eq_true, msm.sp, decide_eq_true_eq] at h
    obtain ⟨⟨hT, hp, hq⟩, rfl, rfl⟩ := h
    obtain ⟨kt, et, L⟩ := mapT_law hT
    have v1 := @TR.ev Fb ρ s.h w s a T x
    have v2 := @TR.ev Fb ρ s.h w s a T ix
    rw [hx] at v1
    rw [hix] at v2
    have e2 := agg2_inv v2
    have e1 : ∃ (b : Nat) (arr : Array MapEntry) (clk : Nat), a.eval x = .map (some b) ∧ w.heap[b]? = some (Obj.map arr clk) ∧ MapR ts arr := by
      generalize a.eval x = c at v1
      cases v1 with
      | bun _ _ _ x B he hB =>
        rcases hB with ⟨hc, _⟩ | ⟨_, _, b, arr, clk, rfl, _, _, h4, h5⟩ | ⟨_, _, hc, _⟩
        · cases hc
        · exact ⟨b, arr, clk, rfl, h4, h5⟩
        · cases hc
    obtain ⟨b, arr, clk, e1, h4, h5⟩ := e1
    unfold Oper.wp
    have hr : (execOp a.eval o).run P w = .ok (.value (.tuple #[.int .i64 (mget.sv ts p q), .bool (mhas.sp ts p q)])) w := by
      obtain ⟨dst, op, ty, pos, after, guard⟩ := o
      simp only [] at hop
      subst hop
      simp [execOp, e1, e2, lookup_ok L h4 h5 hp hq]
    rw [hr, Oper.upon_value]
    refine hK _ _ ?_
    have hv : @VR Fb ρ s.h w (.tup [.int .i64 (mget.sv ts p q), .bool (mhas.sp ts p q)]) (.tuple #[.int .i64 (mget.sv ts p q), .bool (mhas.sp ts p q)]) := by
      refine @VR.tup Fb ρ s.h w _ _ rfl fun i v hi => ?_
      match i, hi with
      | 0, hi => simp only [List.getElem?_cons_zero, Option.some.injEq] at hi; subst hi; exact @VR.int Fb ρ s.h w _ _
      | 1, hi => simp only [List.getElem?_cons_succ, List.getElem?_cons_zero, Option.some.injEq] at hi; subst hi; exact @VR.bool Fb ρ s.h w _
      | i + 2, hi => simp at hi
    refine ⟨Fb, ρ, ?_, ?_, k, by cases o.dst <;> exact hd⟩
    · have := @TR.put Fb ρ s.h w s a T o.dst _ _ hv
      generalize o.dst = d at this ⊢
      cases d <;> exact this
    · cases o.dst <;> exact S
  · rename_i t x ix v hop
    split at h
    case h_2 => cases h
    rename_i i ts len p q n hx hix hvv
    simp only [Option.some.injEq, Prod.mk.injEq, Bool.and_eq_true, msm.sp, decide_eq_true_eq, Bool.not_eq_true'] at h
    obtain ⟨⟨hT, ⟨hp, hq⟩, hn⟩, rfl, rfl⟩ := h
    obtain ⟨kt, et, L⟩ := mapT_law hT
    have v1 := @TR.ev Fb ρ s.h w s a T x
    have v2 := @TR.ev Fb ρ s.h w s a T ix
    have v3 := @TR.ev Fb ρ s.h w s a T v
    rw [hx] at v1
    rw [hix] at v2
    rw [hvv] at v3
    have e2 := agg2_inv v2
    have e3 : a.eval v = .int .i64 n := by generalize a.eval v = c at v3; cases v3; rfl
    have e1 : ∃ (b : Nat) (arr : Array MapEntry) (clk : Nat) (B : List Nat), a.eval x = .map (some b) ∧ Fb.bun[i]? = some (.map (some b), B) ∧ b ∈ B ∧ b ∉ ρ ∧ w.heap[b]? = some (Obj.map arr clk) ∧ MapR ts arr := by
      generalize a.eval x = c at v1
      cases v1 with
      | bun _ _ _ x B he hB =>
        rcases hB with ⟨hc, _⟩ | ⟨_, _, b, arr, clk, rfl, h2, h3, h4, h5⟩ | ⟨_, _, hc, _⟩
        · cases hc
        · exact ⟨b, arr, clk, B, rfl, he, h2, h3, h4, h5⟩
        · cases hc
    obtain ⟨b, arr, clk, B, e1, he, hbB, hbρ, h4, h5⟩ := e1
    obtain ⟨hrun, hR2⟩ := update_ok L h4 h5 hp hq hn n
    let w' : World := { w with heap := w.heap.setIfInBounds b (Obj.map (arr.push ⟨.agg #[.int .i64 p, .int .i64 q], .int .i64 n, clk⟩) (clk + 1)) }
    unfold Oper.wp
    have hr : (execOp a.eval o).run P w = .ok .skip w' := by
      obtain ⟨dst, op, ty, pos, after, guard⟩ := o
      simp only [] at hop
      subst hop
      simp [execOp, e1, e2, e3, hrun, w']
    rw [hr, Oper.upon_skip]
    refine hK _ _ ?_
    have hbl : b ∈ Fb.l := k.env.sub i _ B he b hbB
    have hlt : b < w.heap.size := heap_lt h4
    have hsz : w'.heap.size = w.heap.size := by simp [w']
    have oth : ∀ x, x ≠ b → w'.heap[x]? = w.heap[x]? := fun x hx => by simp [w', Array.getElem?_setIfInBounds, Ne.symm hx]
    have own : w'.heap[b]? = some (Obj.map (arr.push ⟨.agg #[.int .i64 p, .int .i64 q], .int .i64 n, clk⟩) (clk + 1)) := by simp [w', Array.getElem?_setIfInBounds, hlt]
    obtain ⟨S2, conv⟩ := Sim.mapB (F1 := Fb) (F2 := Fb) (w' := w') (setM i (.rows .u16 (ts ++ [[p, q, n]]))) S (fun x hx => oth x fun e => (old b hbl).2 (e ▸ hx))
      (fun x hx => ⟨by rw [hsz]; exact (old x hx).1, (old x hx).2⟩)
      (fun j c len y B' he' hB => by
        unfold setM
        cases hj : eqN j i with
        | true =>
          rw [eqN_eq, beq_iff_eq] at hj
          subst hj
          rw [he] at he'
          simp only [Option.some.injEq, Prod.mk.injEq] at he'
          obtain ⟨rfl, rfl⟩ := he'
          exact @VR.bun Fb ρ _ w' j _ 0 _ B he (.inr (.inl ⟨rfl, rfl, b, _, _, rfl, hbB, hbρ, own, hR2⟩))
        | false =>
          rw [eqN_eq, beq_eq_false_iff_ne] at hj
          refine @VR.bun Fb ρ _ w' j c len y B' he' (hB.mono fun x hx h1 h2 => ⟨h2, oth x fun e => ?_⟩)
          exact k.env.dis i j _ _ B B' (Ne.symm hj) he he' b hbB (e ▸ hx))
      (fun x hx => ⟨⟨by rw [hsz]; exact hx.1, hx.2⟩, oth x fun e => hx.2.2 (e ▸ hbl)⟩)
    have T2 : @TR Fb ρ (mapBS (setM i (.rows .u16 (ts ++ [[p, q, n]]))) s).h w' (mapBS (setM i (.rows .u16 (ts ++ [[p, q, n]]))) s).t a.tmps := by
      refine ⟨by simp only [mapBS, mapBs_eq, List.length_map]; exact T.1, fun j u hu => ?_⟩
      simp only [mapBS, mapBs_eq, List.getElem?_map, Option.map_eq_some_iff] at hu
      obtain ⟨u0, hu0, rfl⟩ := hu
      exact conv (T.2 j u0 hu0)
    have M : MvX [b] w w' := ⟨rfl, rfl, rfl, by rw [hsz]; exact Nat.le_refl _, fun x _ hx => oth x fun e => hx (e ▸ List.mem_singleton_self _)⟩
    refine ⟨Fb, ρ, ?_, ?_, ⟨k.env, k.len, k.mv.then M fun y hy => (List.mem_singleton.1 hy) ▸ k.fb b hbl, k.ow, k.fb, k.pin⟩, by cases o.dst <;> exact hd⟩
    · have := @TR.put Fb ρ _ w' (mapBS (setM i (.rows .u16 (ts ++ [[p, q, n]]))) s) a T2 o.dst _ _ (@VR.undef Fb ρ _ w')
      generalize o.dst = d at this ⊢
      cases d <;> exact this
    · cases o.dst <;> exact S2
  · cases h

theorem specW_sound [Pin] {P : Program} {o : Oper} {s s' : State} {m m' : Nat} (h : specW P s m o = some (some (true, s', m'))) {X : List Nat} {w0 : World} {a : Act} {w : World} (hs : RelX X w0 s m a w)
    {Q : Exit → Act → World → Prop} {K : Act → World → Prop} (hK : ∀ a' w', RelX X w0 s' m' a' w' → K a' w') : o.guard = none ∧ o.wp P a w K Q := by
  unfold specW at h
  split at h
  · cases h
  rename_i hg
  refine ⟨hg, ?_⟩
  obtain ⟨Fb, ρ, T, S, k, hd⟩ := hs
  split at h
  case h_2 => cases h
  rename_i t l c hop
  split at h
  case h_2 => cases h
  rename_i e k1 n k2 n' hu hl hc
  split at h
  case h_2 => cases h
  rename_i i hi
  split at h
  case h_2 => cases h
  rename_i z hz
  simp only [Bool.cond_eq_ite] at h
  split at h
  case isFalse => cases h
  rename_i h2
  rw [decide_eq_true_eq] at h2
  simp only [Option.some.injEq, Prod.mk.injEq, Bool.and_eq_true, beq_iff_eq, decide_eq_true_eq, mulN_eq, hlen_eq, snoc_eq] at h
  obtain ⟨⟨rfl, h0, hb, hm⟩, rfl, rfl⟩ := h
  have v1 := @TR.ev Fb ρ s.h w s a T l
  have v2 := @TR.ev Fb ρ s.h w s a T c
  rw [hl] at v1
  rw [hc] at v2
  have e1 : a.eval l = .int k1 n := by generalize a.eval l = x at v1; cases v1; rfl
  have e2 : a.eval c = .int k2 n := by generalize a.eval c = x at v2; cases v2; rfl
  have hw := wrap_small h0 hm
  let cs : Array Value := (Array.range (n.toNat * i.size)).map fun j => z.cells[j % z.cells.size]!
  have ht : (i.bytes : Int) * n ≤ 281474976710656 := by rw [Int.mul_comm]; omega
  have hr : ¬ n.toNat * i.bytes > roomBytes := by
    have : (n.toNat * i.bytes : Int) = n * i.bytes := by rw [Int.toNat_of_nonneg h0]
    simp only [roomBytes]
    omega
  have hrun : (Instr.makeSlice t (.int k1 n) (.int k2 n)).run P w = .ok (.slice (some ⟨w.heap.size, 0, none⟩) n.toNat n.toNat) (w.alloc (Obj.cells cs e (0, 0))) := by
    simp [Instr.makeSlice, run_underlying hu, asInt, asIntOf, typeInfo, hi, hw, askRoom, hr, sizeOf, run_newRow', zeroValue, hz]
    have hcond : ¬((n < 0 ∨ 281474976710656 < (i.bytes : Int) * n) ∨ n < 0) := by omega
    rw [if_neg hcond]
    split
    · rename_i hz0
      have hr0 : (Array.range 0 : Array Nat) = #[] := by simp
      simp only [cs, hz0, hr0, List.map_toArray, List.map_nil]
    · rfl
  unfold Oper.wp
  have hr2 : (execOp a.eval o).run P w = .ok (.value (.slice (some ⟨w.heap.size, 0, none⟩) n.toNat n.toNat)) (w.alloc (Obj.cells cs e (0, 0))) := by
    obtain ⟨dst, op, ty, pos, after, guard⟩ := o
    simp only [] at hop
    subst hop
    simp [execOp, e1, e2, hrun]
  rw [hr2, Oper.upon_value]
  refine hK _ _ ?_
  have hbr : ∀ ρ, @BR Fb ρ s.h w (.cells (topN.sv (n.toNat * i.size))) cs := by
    intro ρ
    refine ⟨by simp [BC.len, hlen_eq, topN.sv, cs], fun j v hv => ?_⟩
    simp only [BC.get?, nth_eq, topN.sv, List.getElem?_replicate] at hv
    split at hv
    · rename_i hj
      simp only [Option.some.injEq] at hv
      subst hv
      have hlt : j < cs.size := by simp [cs, hj]
      exact ⟨cs[j], Array.getElem?_eq_getElem hlt, @VR.top Fb _ _ _ _⟩
    · cases hv
  exact RelX.of_St k (@St.put Fb ρ s.h w s a w _ ⟨⟨ρ, T, S, Mv.refl _ _ _⟩, hd⟩ o.dst _ _ _ (fun ρ' _ S' => @newsliceZ Fb ρ' s.h w S' ⟨.cells (topN.sv (n.toNat * i.size)), 0⟩ cs e (hbr ρ') rfl n.toNat i.size (by simp [BC.len, hlen_eq, topN.sv])))
theorem specP_sound [Pin] {P : Program} {C : XC} (hC : XCok P C) {o : Oper} {s s' : State} {m m' : Nat} (h : specP P C s m o = some (some (true, s', m'))) {X : List Nat} {w0 : World} {a : Act} {w : World} (hs : RelX X w0 s m a w)
    {Q : Exit → Act → World → Prop} {K : Act → World → Prop} (hK : ∀ a' w', RelX X w0 s' m' a' w' → K a' w') : o.guard = none ∧ o.wp P a w K Q := by
  unfold specP at h
  split at h
  · rename_i r hr
    simp only [Option.some.injEq] at h
    subst h
    exact specM_sound hr hs hK
  · split at h
    · rename_i r hr
      simp only [Option.some.injEq] at h
      subst h
      exact specW_sound hr hs hK
    · split at h
      · rename_i r hr
        simp only [Option.some.injEq] at h
        subst h
        exact specA_sound hr hs hK
      · split at h
        · rename_i r hr
          simp only [Option.some.injEq] at h
          subst h
          exact specG_sound hC hr hs hK
        · exact specX_sound hC h hs hK

/-! ### Slices that are held and given up -/

/-- Functions to which slices that are held are given up: what they hand back may lead into them. -/
class Give where
  fs : List FuncId
instance (priority := low) noGive : Give := ⟨[]⟩
class GiveOk [Pin] [Give] : Prop where
  ok : Give.fs = [] ∨ Pin.l = []
instance giveOk1 [Pin] : @GiveOk _ noGive := @GiveOk.mk _ noGive (.inl rfl)
instance giveOk2 [Give] : @GiveOk noPin _ := @GiveOk.mk noPin _ (.inr rfl)
def bunIx : List AVal → List Nat
  | [] => []
  | .bun i _ _ :: r => i :: bunIx r
  | _ :: r => bunIx r
def gvV (ix : List Nat) : Nat → Cont → Nat → AVal := fun i c len => bif hasN ix i then (match c with
  | .recs _ _ => .top
  | c => bif c.isMap then .top else .ro c len 1) else .bun i c len
theorem hasN_yes : ∀ {l : List Nat} {i : Nat}, hasN l i = true → i ∈ l
  | [], i, h => by cases h
  | j :: r, i, h => by
    simp only [hasN, eqN_eq, Bool.cond_eq_ite] at h
    split at h
    · rename_i hn
      have : i = j := by simpa using hn
      exact this ▸ List.mem_cons_self
    · exact List.mem_cons_of_mem _ (hasN_yes h)
theorem BunR.crF {F : Forb} {B ρ : List Nat} {w : World} {c : Cont} {cap : Nat} {a : Addr} (hB : ∀ b ∈ B, b ∉ F.l) (h : BunR B ρ w c cap a) : @CR F ρ w c 0 a := by
  cases c with
  | ints k r =>
    obtain ⟨b, cs, e, rfl, h2, h3, h4, _, h6⟩ := h
    intro i n hi
    rw [Nat.zero_add] at hi
    refine ⟨⟨heap_lt h4, h3, hB b h2⟩, ?_⟩
    rw [add_lit]
    simp [World.cell?, h4, h6 i n hi]
  | rows k xss =>
    obtain ⟨b, cs, e, bs, rfl, h2, h3, h4, _, _, h7, h8⟩ := h
    intro i r hi
    rw [Nat.zero_add] at hi
    have hlt : i < bs.length := by rw [h7]; exact (List.getElem?_eq_some_iff.1 hi).1
    obtain ⟨g1, g2, capj, csj, ej, g3, g4, g5, _, g7⟩ := h8 i r bs[i] hi (List.getElem?_eq_getElem hlt)
    refine ⟨⟨heap_lt h4, h3, hB b h2⟩, some ⟨bs[i], 0, none⟩, capj, ?_, g4, fun h => (by cases h), fun q hq j n hj => ?_⟩
    · rw [add_lit]
      simp [World.cell?, h4, g3]
    · simp only [Option.some.injEq] at hq
      subst hq
      refine ⟨⟨heap_lt g5, g2, hB _ g1⟩, ?_⟩
      rw [add_lit]
      simp [World.cell?, g5, g7 j n hj]
  | _ => exact h.elim

/-! ### Regions -/

structure SX where
  t : List AVal
  h : Heap
  m : Nat
def SX.s (x : SX) : State := ⟨x.t, x.h⟩
def sx (s : State) (m : Nat) : SX := ⟨s.t, s.h, m⟩
def mkX (n : Nat) (l : List (Nat × AVal)) (H : Heap) (m : Nat) : SX := ⟨mkT l 0 n, H, m⟩
def Rel [Pin] (X : List Nat) (w0 : World) (x : SX) (a : Act) (w : World) : Prop := RelX X w0 x.s x.m a w

def giveX [Give] (o : Oper) (x : SX) : SX := match Give.fs with
  | [] => x
  | fs => match o.guard with
    | some _ => x
    | none => match o.op with
      | .call { callee := .value f, args, .. } => match x.s.ev f with
        | .fn g [] => bif hasN fs g then ⟨AVal.mapB.mapBs (gvV (bunIx (mapL x.s.ev args.toList))) x.t, mapBH (gvV (bunIx (mapL x.s.ev args.toList))) x.h, x.m⟩ else x
        | _ => x
      | _ => x
theorem Rel.give0 [Pin] (hp : Pin.l = []) {X : List Nat} {w0 : World} {x : SX} {a : Act} {w : World} (ix : List Nat) (h : Rel X w0 x a w) : Rel X w0 ⟨AVal.mapB.mapBs (gvV ix) x.t, mapBH (gvV ix) x.h, x.m⟩ a w := by
  obtain ⟨Fb, ρ, T, S, k, hd⟩ := h
  let f : Nat → Value × List Nat → Value × List Nat := fun i p => bif hasN ix i then (p.1, []) else p
  let F2 : Forb := ⟨Fb.l.filter fun b => decide (b ∉ blksOf Fb ix), Fb.bun.mapIdx f⟩
  have at2 : ∀ (i : Nat) (v : Value) (B : List Nat), F2.bun[i]? = some (v, B) → (hasN ix i = true ∧ B = []) ∨ (hasN ix i = false ∧ Fb.bun[i]? = some (v, B)) := by
    intro i v B h
    have h' : (Fb.bun.mapIdx f)[i]? = some (v, B) := h
    rw [List.getElem?_mapIdx, Option.map_eq_some_iff] at h'
    obtain ⟨p, hp, he⟩ := h'
    cases hi : hasN ix i with
    | true => simp only [f, hi, cond_true, Prod.mk.injEq] at he; exact .inl ⟨rfl, he.2.symm⟩
    | false => simp only [f, hi, cond_false] at he; exact .inr ⟨rfl, he ▸ hp⟩
  have of2 : ∀ (i : Nat) (v : Value) (B : List Nat), hasN ix i = false → Fb.bun[i]? = some (v, B) → F2.bun[i]? = some (v, B) := by
    intro i v B hi h
    show (Fb.bun.mapIdx f)[i]? = _
    rw [List.getElem?_mapIdx, h]
    simp [f, hi]
  have sub2 : ∀ b, b ∈ F2.l → b ∈ Fb.l ∧ b ∉ blksOf Fb ix := fun b hb => by
    have hb' : b ∈ Fb.l.filter fun b => decide (b ∉ blksOf Fb ix) := hb
    simpa using List.mem_filter.1 hb'
  have out : ∀ (i : Nat) (v : Value) (B : List Nat), hasN ix i = false → Fb.bun[i]? = some (v, B) → ∀ b ∈ B, b ∉ blksOf Fb ix := by
    intro i v B hi h b hb hm
    obtain ⟨j, v', B', h1, h2, h3⟩ := blksOf_mem hm
    exact k.env.dis i j v v' B B' (fun e => hasN_mem hi (e ▸ h1)) h h2 b hb h3
  have into : ∀ (i : Nat) (v : Value) (B : List Nat), hasN ix i = true → Fb.bun[i]? = some (v, B) → ∀ b ∈ B, b ∉ F2.l := by
    intro i v B hi h b hb hm
    refine (sub2 b hm).2 ?_
    unfold blksOf
    exact List.mem_flatMap.2 ⟨i, hasN_yes hi, by rw [h]; exact hb⟩
  obtain ⟨S2, conv⟩ := Sim.mapB (F1 := Fb) (F2 := F2) (w' := w) (gvV ix) S (fun b _ => rfl) (fun b hb => @Sim.forb Fb _ _ _ S b (sub2 b hb).1)
    (fun i c len y B he hB => by
      unfold gvV
      cases hi : hasN ix i with
      | false => exact @VR.bun F2 ρ _ w i c len y B (of2 i y B hi he) hB
      | true =>
        have main : c.isRec = false → @VR F2 ρ (mapBH (gvV ix) x.h) w (bif c.isMap then .top else .ro c len 1) y := fun hr => by
          cases hc : c.isMap with
          | true => exact @VR.top F2 _ _ _ y
          | false =>
            obtain ⟨ad, cap, rfl, hR, hm, hl⟩ := hB.slice hc hr
            exact @VR.ro F2 ρ _ w c len 1 (some ad) cap (fun h => by cases h) (fun p hp => by simp only [Option.some.injEq] at hp; subst hp; exact hR.crF (into i _ B hi he)) hm (by simpa using hl)
        cases c with
        | recs sh fs => exact @VR.top F2 _ _ _ y
        | _ => exact main rfl)
    (fun b hb => ⟨⟨hb.1, hb.2.1, fun hm => hb.2.2 (sub2 b hm).1⟩, rfl⟩)
  refine ⟨F2, ρ, ⟨by simp only [SX.s, mapBs_eq, List.length_map]; exact T.1, fun i v hv => ?_⟩, S2, ⟨⟨fun i v B hi b hb => ?_, fun i j v v' B B' hij hi hj b hb hb' => ?_⟩, ?_, k.mv, k.ow, fun b hb => k.fb b (sub2 b hb).1, by rw [hp]; exact List.nil_prefix⟩, hd⟩
  · simp only [SX.s, mapBs_eq, List.getElem?_map, Option.map_eq_some_iff] at hv
    obtain ⟨u, hu, rfl⟩ := hv
    exact conv (T.2 i u hu)
  · rcases at2 i v B hi with ⟨_, rfl⟩ | ⟨h1, h2⟩
    · cases hb
    · show b ∈ Fb.l.filter fun b => decide (b ∉ blksOf Fb ix)
      exact List.mem_filter.2 ⟨k.env.sub i v B h2 b hb, by simpa using out i v B h1 h2 b hb⟩
  · rcases at2 i v B hi with ⟨_, rfl⟩ | ⟨h1, h2⟩
    · cases hb
    · rcases at2 j v' B' hj with ⟨_, rfl⟩ | ⟨h3, h4⟩
      · cases hb'
      · exact k.env.dis i j v v' B B' hij h2 h4 b hb hb'
  · show (Fb.bun.mapIdx f).length = _
    rw [List.length_mapIdx]; exact k.len
theorem Rel.give [Pin] [Give] [hg : GiveOk] {X : List Nat} {w0 : World} {x : SX} {a : Act} {w : World} (o : Oper) (h : Rel X w0 x a w) : Rel X w0 (giveX o x) a w := by
  unfold giveX
  split
  · exact h
  rename_i hne
  have hp : Pin.l = [] := hg.ok.resolve_left fun e => hne e
  split
  · exact h
  split
  · split
    · rename_i g _
      cases hasN Give.fs g with
      | true => exact Rel.give0 hp _ h
      | false => exact h
    · exact h
  · exact h
def runOpsX {γ : Type} [Give] (P : Program) (A : OrcK) (C : XC) (ops : Array Oper) (k : SX → Option γ) : List Oper → SX → Option γ
  | [], x => k x
  | o :: r, x => (fun x => match specP P C x.s x.m o with
    | some (some (b, s', m')) => bif b then runOpsX P A C ops k r (sx s' m') else none
    | some none => none
    | none => guardK ops o.guard x.s (fun s => opK P A o.op o.dst s fun s => runOpsX P A C ops k r (sx s x.m)) (fun s => runOpsX P A C ops k r (sx (s.put o.dst .undef) x.m))) (giveX o x)

theorem stpX [Pin] {P : Program} {A : OrcK} (hA : OrcOk P A.plain) {ops : Array Oper} {X : List Nat} {w0 : World} {Q : Exit → Act → World → Prop} {K : Act → World → Prop} {o : Oper} {s s1 : State} {m : Nat} {a : Act} {w : World}
    (h : Stp P A ops o s s1) (hs : RelX X w0 s m a w) (hK : ∀ a' w', RelX X w0 s1 m a' w' → K a' w') :
    if Region.wanted o (yielded ops a.tmps) then o.wp P a w K Q ∨ (o.asks P a w ∧ LetsOut Q) else K (a.put o.dst Go.undef) w := by
  obtain ⟨Fb, ρ, T, S, k, hd⟩ := hs
  exact @stp_sound Fb P A hA ops ρ s.h w Q K o s s1 a w h ⟨⟨ρ, T, S, Mv.refl _ _ _⟩, hd⟩ fun a' w' hst => hK a' w' (RelX.of_St k hst)
theorem one_stp {γ : Type} {P : Program} {A : OrcK} {ops : Array Oper} {o : Oper} {s : State} {next : State → Option γ} {r : γ} (h : guardK ops o.guard s (fun s => opK P A o.op o.dst s next) (fun s => next (s.put o.dst .undef)) = some r) :
    ∃ s', Stp P A ops o s s' ∧ next s' = some r := by
  have : runOps P A ops next [o] s = some r := by simpa only [runOps] using h
  obtain ⟨s', h1, h2⟩ := runOps_cons this
  exact ⟨s', h1, h2⟩
theorem opsX_sound [Pin] [Give] [GiveOk] {γ : Type} {P : Program} {A : OrcK} (hA : OrcOk P A.plain) {C : XC} (hC : XCok P C) {ops : Array Oper} {X : List Nat} {w0 : World} {Q : Exit → Act → World → Prop} {k : SX → Option γ} {r : γ}
    (hk : ∀ x a w, k x = some r → Rel X w0 x a w → Q .normal a w) :
    ∀ (l : List Oper) (x : SX) (a : Act) (w : World), runOpsX P A C ops k l x = some r → Rel X w0 x a w → wpList P ops Q l a w := by
  intro l
  induction l with
  | nil => intro x a w h hs; exact hk x a w h hs
  | cons o l ih =>
    intro x a w h hs
    simp only [runOpsX] at h
    have hs := hs.give o
    generalize giveX o x = x at h hs
    unfold wpList
    split at h
    · rename_i b s' m' hsp
      cases b with
      | false => cases h
      | true =>
        rw [cond_true] at h
        obtain ⟨hg, hwp⟩ := specP_sound hC hsp hs (Q := Q) (K := wpList P ops Q l) fun a' w' hs' => ih (sx s' m') a' w' h hs'
        have : Region.wanted o (yielded ops a.tmps) = true := by simp [Region.wanted, hg]
        rw [if_pos this]
        exact .inl hwp
    · cases h
    · obtain ⟨s1, h1, h2⟩ := one_stp h
      exact stpX hA h1 hs fun a' w' hs' => ih (sx s1 x.m) a' w' h2 hs'

/-! ### Bodies -/

/-- Rows that are not known are forgotten. -/
def tops.sv (xs : List (List Int)) : List AVal := List.replicate xs.length .top
def loos : Heap → Heap
  | [] => []
  | ⟨.typ (.rows k xs), v⟩ :: r => ⟨.cells (tops.sv xs), v⟩ :: loos r
  | b :: r => b :: loos r
/-- The heap is laid anew by what the slots reach. -/
def gcX (x : SX) : SX := match gcS 0 x.s with
  | some s => sx s x.m
  | none => x
/-- Only the first block is kept. -/
def res0.sv (H : Heap) (vs : List AVal) : List AVal := AVal.re.res [0] H vs
def oneX (x : SX) : SX := match x.h with
  | ⟨.cells vs, ver⟩ :: _ => ⟨AVal.re.res [0] x.h x.t, [⟨.cells (res0.sv x.h vs), ver⟩], x.m⟩
  | _ => x
def normX (keep : List Nat) (e : Exit) (x : SX) : SX := match e with
  | .ret => x
  | _ => bif hasN keep 998 then gcX ⟨kill keep 0 x.t, bif hasN keep 997 then loos x.h else x.h, x.m⟩ else bif hasN keep 994 then oneX ⟨kill keep 0 x.t, bif hasN keep 997 then loos x.h else x.h, x.m⟩ else ⟨kill keep 0 x.t, bif hasN keep 997 then loos x.h else x.h, x.m⟩
def iterX {γ : Type} (nrm : Exit → SX → SX) (rec : SX → Option γ) (k : Exit → SX → Option γ) (e : Exit) (x : SX) : Option γ :=
  match e with
  | .normal => rec (nrm .normal x)
  | e => k e (nrm e x)
def XR.loopRun {γ : Type} (body : (Exit → SX → Option γ) → SX → Option γ) (nrm : Exit → SX → SX) (k : Exit → SX → Option γ) : Nat → SX → Option γ
  | 0, _ => none
  | n + 1, x => body (iterX nrm (XR.loopRun body nrm k n) k) x
def seqX {γ : Type} (next : SX → Option γ) (k : Exit → SX → Option γ) (e : Exit) (x : SX) : Option γ :=
  match e with
  | .normal => next x
  | e => k e x
def blockX {γ : Type} (id : Nat) (k : Exit → SX → Option γ) (e : Exit) (x : SX) : Option γ :=
  match e with
  | .exit j => bif eqN j id then k .normal x else k (.exit j) x
  | e => k e x
def runX {γ : Type} [Give] (P : Program) (A : OrcK) (C : XC) (hd : Nat → List Nat) (dr : Nat → Dr) (fuel : Nat) : Code → Nat → (Exit → SX → Option γ) → SX → Option γ
  | .skip, _, k, x => k .normal x
  | .region id ops d, _, k, x => bif d then (dr id).run P A (hlen x.h) ops (fun s => k .normal (sx s x.m)) x.s else runOpsX P A C ops (fun x => k .normal x) ops.toList x
  | .seq a b, cur, k, x => runX P A C hd dr fuel a cur (seqX (fun x => runX P A C hd dr fuel b cur k x) k) x
  | .cond c a b, cur, k, x => match x.s.ev c with
    | .bool t => bif t then runX P A C hd dr fuel a cur k x else runX P A C hd dr fuel b cur k x
    | _ => none
  | .block id b, cur, k, x => runX P A C hd dr fuel b id (blockX id k) x
  | .loop b, cur, k, x => XR.loopRun (fun k' x' => runX P A C hd dr fuel b cur k' x') (normX (hd cur)) k fuel (normX (hd cur) .normal x)
  | .exit id, _, k, x => k (.exit id) x
  | .ret, _, k, x => k .ret x
  | _, _, _, _ => none
def contX {γ : Type} [Give] (P : Program) (A : OrcK) (C : XC) (hd : Nat → List Nat) (dr : Nat → Dr) (fuel : Nat) : Code → Nat → List Bool → (Exit → SX → Option γ) → Exit → SX → Option γ
  | .seq a b, cur, false :: p, k => contX P A C hd dr fuel a cur p (seqX (fun x => runX P A C hd dr fuel b cur k x) k)
  | .seq _ b, cur, true :: p, k => contX P A C hd dr fuel b cur p k
  | .cond _ a _, cur, false :: p, k => contX P A C hd dr fuel a cur p k
  | .cond _ _ b, cur, true :: p, k => contX P A C hd dr fuel b cur p k
  | .block id b, _, p, k => contX P A C hd dr fuel b id p (blockX id k)
  | _, _, _, k => k
def loopX {γ : Type} [Give] (P : Program) (A : OrcK) (C : XC) (hd : Nat → List Nat) (dr : Nat → Dr) (fuel : Nat) (c : Code) (cur : Nat) (p : List Bool) (k : Exit → SX → Option γ) (n : Nat) (x : SX) : Option γ :=
  XR.loopRun (fun k' x' => runX P A C hd dr fuel (bodyAt c p) (curAt c cur p) k' x') (normX (hd (curAt c cur p))) (contX P A C hd dr fuel c cur p k) n x

theorem Sim.loos [Fb : Forb] {ρ : List Nat} {H : Heap} {w : World} (S : Sim ρ H w) : Sim ρ (loos H) w ∧ ∀ {v : AVal} {c : Value}, VR ρ H w v c → VR ρ (loos H) w v c := by
  have hat : ∀ (H : Heap) (l : Nat) (blk : Blk), H[l]? = some blk → ∃ c', (Ab.loos H)[l]? = some ⟨c', blk.ver⟩ ∧ c'.len = blk.c.len ∧ (c' = blk.c ∨ ∃ n, c' = .cells (List.replicate n .top)) := by
    intro H
    induction H with
    | nil => intro l blk h; simp at h
    | cons b r ih =>
      intro l blk h
      cases l with
      | zero =>
        simp only [List.getElem?_cons_zero, Option.some.injEq] at h
        subst h
        obtain ⟨c, v⟩ := b
        unfold Ab.loos
        split
        · rename_i h0; cases h0
        · rename_i k xs v' r' h0
          simp only [List.cons.injEq, Blk.mk.injEq] at h0
          obtain ⟨⟨rfl, rfl⟩, rfl⟩ := h0
          exact ⟨_, rfl, by simp [BC.len, hlen_eq, Cont.len, tops.sv], .inr ⟨_, rfl⟩⟩
        · rename_i b' r' _ h0
          simp only [List.cons.injEq] at h0
          obtain ⟨rfl, rfl⟩ := h0
          exact ⟨_, rfl, rfl, .inl rfl⟩
      | succ l =>
        simp only [List.getElem?_cons_succ] at h
        obtain ⟨c', h1, h2⟩ := ih l blk h
        refine ⟨c', ?_, h2⟩
        obtain ⟨c, v⟩ := b
        unfold Ab.loos
        split
        · rename_i h0; cases h0
        · rename_i k xs v' r' h0
          simp only [List.cons.injEq] at h0
          obtain ⟨_, rfl⟩ := h0
          simpa using h1
        · rename_i b' r' _ h0
          simp only [List.cons.injEq] at h0
          obtain ⟨rfl, rfl⟩ := h0
          simpa using h1
  have hlen : ∀ H : Heap, (Ab.loos H).length = H.length := by
    intro H
    induction H with
    | nil => rfl
    | cons b r ih =>
      unfold Ab.loos
      split
      · rename_i h0; cases h0
      · rename_i h0; simp only [List.cons.injEq] at h0; obtain ⟨_, rfl⟩ := h0; simp [ih]
      · rename_i h0; simp only [List.cons.injEq] at h0; obtain ⟨rfl, rfl⟩ := h0; simp [ih]
  have hown : ∀ l off len ver z a cap, OwnR ρ H w l off len ver z a cap → OwnR ρ (Ab.loos H) w l off len ver z a cap := by
    intro l off len ver z a cap ⟨blk, h1, h2, h3⟩
    obtain ⟨c', g1, g2, _⟩ := hat H l blk h1
    refine ⟨_, g1, h2, fun e => ?_⟩
    obtain ⟨b, cs, t, r1, r2, r3, r4, r5⟩ := h3 e
    exact ⟨b, cs, t, r1, r2, by simpa only [g2] using r3, r4, r5⟩
  have hptr : ∀ l off ver a, PtrR ρ H l off ver a → PtrR ρ (Ab.loos H) l off ver a := by
    intro l off ver a ⟨blk, h1, h2, h3⟩
    obtain ⟨c', g1, g2, _⟩ := hat H l blk h1
    exact ⟨_, g1, h2, h3⟩
  have conv : ∀ {v : AVal} {c : Value}, VR ρ H w v c → VR ρ (Ab.loos H) w v c := fun {v c} h => by
    have := VR.mapB (F1 := Fb) (F2 := Fb) (ρ' := ρ) (H' := Ab.loos H) (w' := w) AVal.bun hown hptr (fun i c len x B he hB => .bun i c len x B he hB) h (.inl fun b hb => ⟨hb, rfl⟩)
    rwa [mapB_id] at this
  refine ⟨⟨by rw [hlen]; exact S.len, S.nodup, S.forb, fun l b blk hl hb => ?_⟩, conv⟩
  have hlt : l < H.length := by rw [← hlen]; exact (List.getElem?_eq_some_iff.1 hl).1
  obtain ⟨c', g1, g2, g3⟩ := hat H l H[l] (List.getElem?_eq_getElem hlt)
  rw [g1] at hl
  simp only [Option.some.injEq] at hl
  subst hl
  obtain ⟨cs, e, h1, h2, h3⟩ := S.blk l b _ (List.getElem?_eq_getElem hlt) hb
  refine ⟨cs, e, h1, by simpa only [g2] using h2, fun i u hu => ?_⟩
  rcases g3 with rfl | ⟨n, rfl⟩
  · obtain ⟨x, hx, hv⟩ := h3 i u hu
    exact ⟨x, hx, conv hv⟩
  · simp only [BC.get?, nth_eq, List.getElem?_replicate] at hu
    split at hu
    · rename_i hin
      simp only [Option.some.injEq] at hu
      subst hu
      have : i < cs.size := by
        rw [← g2] at h2
        simp only [BC.len, hlen_eq, List.length_replicate] at h2
        omega
      exact ⟨cs[i], Array.getElem?_eq_getElem this, .top _⟩
    · cases hu

theorem Rel.gc [Pin] {X : List Nat} {w0 : World} {x : SX} {a : Act} {w : World} (h : Rel X w0 x a w) : Rel X w0 (gcX x) a w := by
  unfold gcX
  split
  · rename_i s hs
    obtain ⟨Fb, ρ, T, S, k, hd⟩ := h
    unfold gcS gcOf at hs
    simp only [Bool.cond_eq_ite] at hs
    split at hs
    · split at hs
      · rename_i h1 h2
        simp only [Option.some.injEq] at hs; subst hs
        have hnd := nodupB_spec h1
        have hlt : ∀ j ∈ gcKs 0 x.s, j < x.s.h.length := by simpa [hlen_eq] using allLt_spec h2
        refine ⟨Fb, reρ ρ (gcKs 0 x.s), @TR.re ρ x.s.h w (gcKs 0 x.s) Fb S hlt _ _ T, @Sim.re ρ x.s.h w (gcKs 0 x.s) Fb S hnd hlt, ⟨k.env, k.len, k.mv, fun b hb => ?_, k.fb, k.pin⟩, hd⟩
        obtain ⟨j, _, hj⟩ := @reρ_mem ρ x.s.h w (gcKs 0 x.s) Fb S hlt b hb
        exact k.ow b (List.mem_of_getElem? hj)
      · cases hs
    · cases hs
  · exact h
theorem Rel.one [Pin] {X : List Nat} {w0 : World} {x : SX} {a : Act} {w : World} (h : Rel X w0 x a w) : Rel X w0 (oneX x) a w := by
  obtain ⟨t, H, m⟩ := x
  cases H with
  | nil => exact h
  | cons b r =>
    obtain ⟨c, ver⟩ := b
    cases c with
    | typ c => exact h
    | cells vs =>
      obtain ⟨Fb, ρ, T, S, k, hd⟩ := h
      have hlt : ∀ j ∈ [0], j < (⟨.cells vs, ver⟩ :: r : Heap).length := fun j hj => by
        simp only [List.mem_singleton] at hj
        subst hj
        simp
      refine ⟨Fb, reρ ρ [0], @TR.re ρ _ w [0] Fb S hlt _ _ T, @Sim.re ρ _ w [0] Fb S (by simp) hlt, ⟨k.env, k.len, k.mv, fun b hb => ?_, k.fb, k.pin⟩, hd⟩
      obtain ⟨j, _, hj⟩ := @reρ_mem ρ _ w [0] Fb S hlt b hb
      exact k.ow b (List.mem_of_getElem? hj)
theorem Rel.norm [Pin] {X : List Nat} {w0 : World} {x : SX} {a : Act} {w : World} (keep : List Nat) (e : Exit) (h : Rel X w0 x a w) : Rel X w0 (normX keep e x) a w := by
  have main : Rel X w0 ⟨kill keep 0 x.t, bif hasN keep 997 then loos x.h else x.h, x.m⟩ a w := by
    obtain ⟨Fb, ρ, T, S, k, hd⟩ := h
    have T1 := @TR.kill Fb ρ _ w _ _ T keep
    cases hasN keep 997 with
    | false => exact ⟨Fb, ρ, T1, S, k, hd⟩
    | true =>
      obtain ⟨S2, conv⟩ := @Sim.loos Fb ρ _ w S
      exact ⟨Fb, ρ, ⟨T1.1, fun i v hv => conv (T1.2 i v hv)⟩, S2, k, hd⟩
  have main2 : Rel X w0 (bif hasN keep 998 then gcX ⟨kill keep 0 x.t, bif hasN keep 997 then loos x.h else x.h, x.m⟩ else bif hasN keep 994 then oneX ⟨kill keep 0 x.t, bif hasN keep 997 then loos x.h else x.h, x.m⟩ else ⟨kill keep 0 x.t, bif hasN keep 997 then loos x.h else x.h, x.m⟩) a w := by
    cases hasN keep 998 with
    | false =>
      cases hasN keep 994 with
      | false => exact main
      | true => exact main.one
    | true => exact main.gc
  cases e <;> first | exact h | exact main2

theorem loopX_sound [Pin] {γ : Type} {P : Program} {c : Code} {body : (Exit → SX → Option γ) → SX → Option γ} {keep : List Nat} {X : List Nat} {w0 : World} {r : γ}
    (hb : ∀ (k : Exit → SX → Option γ) (x : SX) (a : Act) (w : World) (Q : Exit → Act → World → Prop), body k x = some r → Rel X w0 x a w → (∀ e x a w, k e x = some r → Rel X w0 x a w → Q e a w) → c.wp P Q a w)
    {k : Exit → SX → Option γ} {Q : Exit → Act → World → Prop} (hQ : ∀ e x a w, k e x = some r → Rel X w0 x a w → Q e a w) :
    ∀ (n : Nat) (x : SX) (a : Act) (w : World), XR.loopRun body (normX keep) k n x = some r → Rel X w0 x a w → Code.rounds P c Q n a w := by
  intro n
  induction n with
  | zero => intro x a w h; simp [XR.loopRun] at h
  | succ n ih =>
    intro x a w h hs
    simp only [XR.loopRun] at h
    rw [rounds_succ]
    refine hb _ x a w _ h hs fun e x' a' w' hk hs' => ?_
    unfold iterX at hk
    have hs1 := hs'.norm keep e
    cases e <;> first | exact ih _ a' w' hk hs1 | exact hQ _ _ _ _ hk hs1

theorem runX_sound [Pin] [Give] [GiveOk] {γ : Type} {P : Program} (hm : P.follows .mixedOrders = true) {A : OrcK} [hR : OrcRen A] [hL : OrcLoc A] (hA : OrcOk P A.plain) {C : XC} (hC : XCok P C) {hd : Nat → List Nat} {dr : Nat → Dr} {fuel : Nat} {X : List Nat} {w0 : World} {r : γ} :
    ∀ (c : Code) (hc : drawChk dr c = true) (cur : Nat) (k : Exit → SX → Option γ) (x : SX) (a : Act) (w : World) (Q : Exit → Act → World → Prop), runX P A C hd dr fuel c cur k x = some r → Rel X w0 x a w →
      (∀ e x a w, k e x = some r → Rel X w0 x a w → Q e a w) → c.wp P Q a w := by
  intro c
  induction c with
  | skip => intro hc cur k x a w Q h hs hQ; exact wp_skip (hQ _ _ _ _ h hs)
  | region id ops d =>
    intro hc cur k x a w Q h hs hQ
    cases d with
    | true =>
      simp only [runX, cond_true] at h
      simp only [drawChk, cond_true] at hc
      obtain ⟨Fb, ρ, T, S, kp, hdf⟩ := hs
      rw [hlen_eq] at h
      exact @region_sound Fb γ P hm A hR hL hA (dr id) id ops hc (fun s => k .normal (sx s x.m)) r ρ x.s.h w x.s a w Q h ⟨⟨ρ, T, S, Mv.refl _ _ _⟩, hdf⟩ fun s a w h' hs' => hQ .normal (sx s x.m) a w h' (RelX.of_St (s1 := s) kp hs')
    | false =>
      simp only [runX, cond_false] at h
      exact wp_region_list (opsX_sound hA hC (fun x a w h' hs' => hQ .normal x a w h' hs') ops.toList x a w h hs)
  | seq x y ihx ihy =>
    intro hc cur k s a w Q h hs hQ
    simp only [runX] at h
    simp only [drawChk, Bool.and_eq_true] at hc
    refine wp_seq (ihx hc.1 cur _ s a w _ h hs fun e s' a' w' hk hs' => ?_)
    cases e <;> first | exact ihy hc.2 cur k s' a' w' Q hk hs' hQ | exact hQ _ _ _ _ hk hs'
  | cond x y z ihy ihz =>
    intro hc cur k s a w Q h hs hQ
    simp only [runX] at h
    simp only [drawChk, Bool.and_eq_true] at hc
    obtain ⟨hc1, hc2⟩ := hc
    split at h
    · rename_i t ht
      have hs0 := hs
      obtain ⟨Fb, ρ, T, S, kp, hdf⟩ := hs
      have hv := @TR.ev Fb ρ s.s.h w s.s a T x
      rw [ht] at hv
      generalize hcv : a.eval x = cv at hv
      cases hv
      refine wp_cond (t := t) hcv ?_
      cases t
      · exact ihz hc2 cur k s a w Q h hs0 hQ
      · exact ihy hc1 cur k s a w Q h hs0 hQ
    · cases h
  | block id b ih =>
    intro hc cur k s a w Q h hs hQ
    simp only [runX] at h
    simp only [drawChk] at hc
    refine wp_block (ih hc id _ s a w _ h hs fun e s' a' w' hk hs' => ?_)
    cases e with
    | exit j =>
      simp only [Exit.inBlock]
      simp only [blockX, eqN_eq, Bool.cond_eq_ite, beq_iff_eq] at hk
      split
      · rename_i e; rw [if_pos e] at hk; exact hQ _ _ _ _ hk hs'
      · rename_i e; rw [if_neg e] at hk; exact hQ _ _ _ _ hk hs'
    | _ => exact hQ _ _ _ _ hk hs'
  | loop b ih =>
    intro hc cur k s a w Q h hs hQ
    simp only [runX] at h
    simp only [drawChk] at hc
    exact wp_loop_rounds fuel (loopX_sound (fun k s a w Q h hs hQ => ih hc cur k s a w Q h hs hQ) hQ fuel _ a w h (hs.norm (hd cur) .normal))
  | rangeFunc => intro hc cur k s a w Q h; simp [runX] at h
  | exit id => intro hc cur k s a w Q h hs hQ; exact wp_exit (hQ _ _ _ _ h hs)
  | scope => intro hc cur k s a w Q h; simp [runX] at h
  | label => intro hc cur k s a w Q h; simp [runX] at h
  | goto => intro hc cur k s a w Q h; simp [runX] at h
  | ret => intro hc cur k s a w Q h hs hQ; exact wp_ret (hQ _ _ _ _ h hs)
  | refuse => intro hc cur k s a w Q h; simp [runX] at h

/-! ### Calls -/

/-- What comes back: the value, the heap, how many slices are held. -/
def retX (P : Program) (ts : List ResultVar) (e : Exit) (x : SX) : Option (AVal × Heap × Nat) :=
  match e with
  | .normal => (match retVal P ts x.s with | some (b, v) => bif b then some (v, x.h, x.m) else none | none => none)
  | .ret => (match retVal P ts x.s with | some (b, v) => bif b then some (v, x.h, x.m) else none | none => none)
  | _ => none
def startX (n : Nat) (args : List AVal) (H : Heap) (m : Nat) : SX := ⟨pad .undef n args, H, m⟩
def runFnX [Give] (P : Program) (A : OrcK) (C : XC) (hd : Nat → List Nat) (dr : Nat → Dr) (fuel : Nat) (body : Code) (n : Nat) (ts : List ResultVar) (args : List AVal) (H : Heap) (m : Nat) : Option (AVal × Heap × Nat) :=
  runX P A C hd dr fuel body 0 (retX P ts) (startX n args H m)

theorem fnX_sound [Pin] [Give] [GiveOk] {P : Program} (hm : P.follows .mixedOrders = true) {A : OrcK} [hR : OrcRen A] [hL : OrcLoc A] (hA : OrcOk P A.plain) {C : XC} (hC : XCok P C) {hd : Nat → List Nat} {dr : Nat → Dr} {fuel : Nat} {f : FuncId} {fn : Func} {n : Nat} {ts : List ResultVar}
    (hf : P.funcs[f]? = some fn) (hbn : fn.body.isNone = false) (hn : fn.ntmps = n) (hr : fn.results = ts.toArray) (hc : drawChk dr (bodyOf fn) = true) {args : List AVal} {H H' : Heap} {m m' : Nat} {v : AVal}
    (h : runFnX P A C hd dr fuel (bodyOf fn) n ts args H m = some (v, H', m')) {X : List Nat} {w : World} {cargs : Array Value} {Fb : Forb} {ρ : List Nat} (hargs : @VRs Fb ρ H w args cargs.toList) (S : @Sim Fb ρ H w) (k : Kept X w Fb ρ m w) :
    Calls P f cargs w fun e w' => ∃ c, e = .returned c ∧ RelV X w v H' m' c w' := by
  have hb : fn.body = some (bodyOf fn) := by unfold bodyOf; cases hfb : fn.body <;> simp [hfb] at hbn ⊢
  refine calls_of_wp hf hb (runX_sound (X := X) (w0 := w) hm hA hC (bodyOf fn) hc 0 (retX P ts) (startX n args H m) _ w _ h ?_ ?_)
  · refine ⟨Fb, ρ, ?_, S, k, rfl⟩
    have hl := hargs.1
    simp only [Array.length_toList] at hl
    refine ⟨by simp [startX, SX.s, pad_eq, hl, hn], fun i u hu => ?_⟩
    simp only [startX, SX.s, pad_eq] at hu
    by_cases hi : i < args.length
    · rw [List.getElem?_append_left hi] at hu
      have hi' : i < cargs.size := by omega
      have := hargs.2 i u cargs[i] hu (by simp [hi'])
      show @VR Fb ρ H w u _
      simpa [Array.getD_eq_getD_getElem?, Array.getElem?_append_left hi', hi'] using this
    · rw [List.getElem?_append_right (by omega), List.getElem?_replicate] at hu
      split at hu
      · simp only [Option.some.injEq] at hu; subst hu
        have : (cargs ++ Array.replicate (fn.ntmps - cargs.size) Go.undef).getD i Go.undef = Go.undef := by
          simp only [Array.getD_eq_getD_getElem?]
          rw [Array.getElem?_append_right (by omega), Array.getElem?_replicate]
          split <;> rfl
        rw [this]; exact @VR.undef Fb ρ H w
      · cases hu
  · intro e x a w' hk hs
    obtain ⟨F2, ρ', T, S', k', hdf⟩ := hs
    have hfin : (match retVal P ts x.s with | some (b, v) => bif b then some (v, x.h, x.m) else none | none => none) = some (v, H', m') →
        ∃ c, (results fn a.tmps).run P w' = .ok c w' ∧ RelV X w v H' m' c w' := by
      intro hk'
      split at hk'
      · rename_i b u hu
        cases b with
        | false => cases hk'
        | true =>
          simp only [cond_true, Option.some.injEq, Prod.mk.injEq] at hk'
          obtain ⟨rfl, rfl, rfl⟩ := hk'
          obtain ⟨c, hrun, hval⟩ := @run_results F2 P fn ts hr ρ' x.s w' a T S' _ hu
          exact ⟨c, hrun, F2, ρ', hval, S', k'⟩
      · cases hk'
    cases e with
    | normal => obtain ⟨c, c1, c2⟩ := hfin hk; exact ⟨hdf, c, c1, c, rfl, c2⟩
    | ret => obtain ⟨c, c1, c2⟩ := hfin hk; exact ⟨hdf, c, c1, c, rfl, c2⟩
    | _ => simp only [retX, reduceCtorEq] at hk

/-- What comes back, and the first slot. -/
def retX0 (P : Program) (ts : List ResultVar) (e : Exit) (x : SX) : Option ((AVal × AVal) × Heap × Nat) :=
  match retX P ts e x with
  | some (v, H, m) => match nth x.t 0 with
    | some u => some ((v, u), H, m)
    | none => none
  | none => none
/-- The first slot's value at the end is told too. -/
theorem fnX_sound0 [Pin] [Give] [GiveOk] {P : Program} (hm : P.follows .mixedOrders = true) {A : OrcK} [hR : OrcRen A] [hL : OrcLoc A] (hA : OrcOk P A.plain) {C : XC} (hC : XCok P C) {hd : Nat → List Nat} {dr : Nat → Dr} {fuel : Nat} {f : FuncId} {fn : Func} {n : Nat} {ts : List ResultVar}
    (hf : P.funcs[f]? = some fn) (hbn : fn.body.isNone = false) (hn : fn.ntmps = n) (hr : fn.results = ts.toArray) (hc : drawChk dr (bodyOf fn) = true) {args : List AVal} {H H' : Heap} {m m' : Nat} {v : AVal}
    {u0 : AVal} (h : runX P A C hd dr fuel (bodyOf fn) 0 (retX0 P ts) (startX n args H m) = some ((v, u0), H', m')) {X : List Nat} {w : World} {cargs : Array Value} {Fb : Forb} {ρ : List Nat} (hargs : @VRs Fb ρ H w args cargs.toList) (S : @Sim Fb ρ H w) (k : Kept X w Fb ρ m w) :
    Calls P f cargs w fun e w' => ∃ c, e = .returned c ∧ ∃ (Fb : Forb) (ρ : List Nat) (c0 : Value), @VR Fb ρ H' w' v c ∧ @VR Fb ρ H' w' u0 c0 ∧ @Sim Fb ρ H' w' ∧ Kept X w Fb ρ m' w' := by
  have hb : fn.body = some (bodyOf fn) := by unfold bodyOf; cases hfb : fn.body <;> simp [hfb] at hbn ⊢
  refine calls_of_wp hf hb (runX_sound (X := X) (w0 := w) hm hA hC (bodyOf fn) hc 0 (retX0 P ts) (startX n args H m) _ w _ h ?_ ?_)
  · refine ⟨Fb, ρ, ?_, S, k, rfl⟩
    have hl := hargs.1
    simp only [Array.length_toList] at hl
    refine ⟨by simp [startX, SX.s, pad_eq, hl, hn], fun i u hu => ?_⟩
    simp only [startX, SX.s, pad_eq] at hu
    by_cases hi : i < args.length
    · rw [List.getElem?_append_left hi] at hu
      have hi' : i < cargs.size := by omega
      have := hargs.2 i u cargs[i] hu (by simp [hi'])
      show @VR Fb ρ H w u _
      simpa [Array.getD_eq_getD_getElem?, Array.getElem?_append_left hi', hi'] using this
    · rw [List.getElem?_append_right (by omega), List.getElem?_replicate] at hu
      split at hu
      · simp only [Option.some.injEq] at hu; subst hu
        have : (cargs ++ Array.replicate (fn.ntmps - cargs.size) Go.undef).getD i Go.undef = Go.undef := by
          simp only [Array.getD_eq_getD_getElem?]
          rw [Array.getElem?_append_right (by omega), Array.getElem?_replicate]
          split <;> rfl
        rw [this]; exact @VR.undef Fb ρ H w
      · cases hu
  · intro e x a w' hk hs
    obtain ⟨F2, ρ', T, S', k', hdf⟩ := hs
    have hfin : (match retVal P ts x.s with | some (b, v) => bif b then some (v, x.h, x.m) else none | none => none) = some (v, H', m') → nth x.t 0 = some u0 →
        ∃ c, (results fn a.tmps).run P w' = .ok c w' ∧ ∃ (Fb : Forb) (ρ : List Nat) (c0 : Value), @VR Fb ρ H' w' v c ∧ @VR Fb ρ H' w' u0 c0 ∧ @Sim Fb ρ H' w' ∧ Kept X w Fb ρ m' w' := by
      intro hk' hu0
      split at hk'
      · rename_i b u hu
        cases b with
        | false => cases hk'
        | true =>
          simp only [cond_true, Option.some.injEq, Prod.mk.injEq] at hk'
          obtain ⟨rfl, rfl, rfl⟩ := hk'
          obtain ⟨c, hrun, hval⟩ := @run_results F2 P fn ts hr ρ' x.s w' a T S' _ hu
          rw [nth_eq] at hu0
          exact ⟨c, hrun, F2, ρ', _, hval, T.2 0 u0 hu0, S', k'⟩
      · cases hk'
    unfold retX0 at hk
    split at hk
    case h_2 => cases hk
    rename_i v1 H1 m1 hr1
    split at hk
    case h_2 => cases hk
    rename_i u1 hu1
    simp only [Option.some.injEq, Prod.mk.injEq] at hk
    obtain ⟨⟨rfl, rfl⟩, rfl, rfl⟩ := hk
    cases e with
    | normal => obtain ⟨c, c1, c2⟩ := hfin hr1 hu1; exact ⟨hdf, c, c1, c, rfl, c2⟩
    | ret => obtain ⟨c, c1, c2⟩ := hfin hr1 hu1; exact ⟨hdf, c, c1, c, rfl, c2⟩
    | _ => simp only [retX, reduceCtorEq] at hr1

/-! ### A contract of a body in which slices or maps are held -/

def AVal.flat : AVal → Bool
  | .int .. => true
  | .bool .. => true
  | .flt .. => true
  | .cpx .. => true
  | .str .. => true
  | .nils => true
  | .tup vs => flats vs
  | _ => false
where flats : List AVal → Bool
  | [] => true
  | v :: vs => v.flat && flats vs
theorem flats_get {vs : List AVal} (h : AVal.flat.flats vs = true) : ∀ (i : Nat) (v : AVal), vs[i]? = some v → v.flat = true := by
  induction vs with
  | nil => intro i v hi; simp at hi
  | cons x r ih =>
    simp only [AVal.flat.flats, Bool.and_eq_true] at h
    intro i v hi
    cases i with
    | zero => simp only [List.getElem?_cons_zero, Option.some.injEq] at hi; subst hi; exact h.1
    | succ i => exact ih h.2 i v (by simpa using hi)
theorem VR.flat {F1 F2 : Forb} {ρ ρ' : List Nat} {H H' : Heap} {w w' : World} {v : AVal} {c : Value} (h : @VR F1 ρ H w v c) (hf : v.flat = true) : @VR F2 ρ' H' w' v c := by
  induction h with
  | bool b => exact .bool b
  | int k n => exact .int k n
  | flt k a b h => exact .flt k a b h
  | cpx k a b c d h h' => exact .cpx k a b c d h h'
  | str s => exact .str s
  | nils => exact .nils
  | tup vs cs hl _ ih => exact .tup vs cs hl fun i v hi => ih i v hi (flats_get hf i v hi)
  | _ => cases hf

theorem ent_okX [Give] {P : Program} (hm : P.follows .mixedOrders = true) {A : OrcK} [hR : OrcRen A] [hL : OrcLoc A] (hA : OrcOk P A.plain) {C : XC} (hC : XCok P C) {f : FuncId} {fn : Func} {R : List AVal → Option (Bool × AVal × List Blk)} {hd : Nat → List Nat} {dr : Nat → Dr} {n : Nat} {ts : List ResultVar}
    (hf : P.funcs[f]? = some fn) (hbn : fn.body.isNone = false) (hname : (fn.name == "runtime.NumGoroutine") = false) (hn : fn.ntmps = n) (hr : fn.results = ts.toArray) (hc : drawChk dr (bodyOf fn) = true)
    (h : ∀ args v new, R args = some (true, v, new) → new = [] ∧ v.flat = true ∧ lendU [] args = args ∧ ∃ fuel H' m', runFnX P A C hd dr fuel (bodyOf fn) n ts args [] 0 = some (v, H', m')) : EntOk P ⟨f, R⟩ := by
  refine ⟨⟨fn, hf, hbn, hname⟩, fun args v new hR0 => ?_⟩
  obtain ⟨rfl, hfl, hU, fuel, H', m', hrun⟩ := h args v new hR0
  intro Fb ρ w cargs S hargs
  have hρ : ρ = [] := List.eq_nil_of_length_eq_zero (@Sim.len Fb _ _ _ S)
  subst hρ
  have ha : @VRs noF [] [] w args cargs.toList := by have := lendU_VRs (F2 := Fb) S hargs; rwa [hU] at this
  have S0 : @Sim noF [] [] w := @Sim.mk noF [] [] w rfl List.nodup_nil (fun b hb => by cases hb) (fun l b blk h => by simp at h)
  have k0 : Kept [] w noF [] 0 w := ⟨⟨fun i v B hi => by
    have h' : ([] : List (Value × List Nat))[i]? = some (v, B) := hi
    simp at h', fun i j v v' B B' _ hi => by
    have h' : ([] : List (Value × List Nat))[i]? = some (v, B) := hi
    simp at h'⟩, rfl, MvX.refl _ _, fun b hb => (by cases hb), fun b hb => (by cases hb), List.nil_prefix⟩
  refine (fnX_sound (X := []) hm hA hC hf hbn hn hr hc hrun ha S0 k0).mono fun e w' ⟨c, he, F2, ρ', hv, S', k'⟩ => ⟨c, he, [], VR.flat hv hfl, ?_, ?_⟩
  · exact @Sim.mk Fb [] [] w' rfl List.nodup_nil (fun b hb => ⟨Nat.lt_of_lt_of_le (@Sim.forb Fb _ _ _ S b hb).1 k'.mv.size, List.not_mem_nil⟩) (fun l b blk h => by simp at h)
  · exact ⟨k'.mv.os, k'.mv.tape, k'.mv.output, k'.mv.size, fun b hb _ => ⟨k'.mv.frame b hb List.not_mem_nil, List.not_mem_nil⟩, fun l blk hl => by simp at hl⟩

end Go.Proofs.Ythecninmmojkgaa.Ab
