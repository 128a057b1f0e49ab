/-
  The abstract machine, where slices are held that others may read too: what is known of the memory; calls of what makes slices that are held; closures that are called.
-/
import Derived.Test.YthecninmmojkgaaAbBuX
namespace Go.Proofs.Ythecninmmojkgaa.Ab
open Go
set_option linter.unusedVariables false
set_option linter.unusedSimpArgs false

/-- Slices that are held: they have nothing in common. -/
structure Soft (lo : Nat) (Fb : Forb) (ρ : List Nat) (m : Nat) (w : World) : Prop where
  len : Fb.bun.length = m
  bl : ∀ (i : Nat) (x : Value) (B : List Nat), Fb.bun[i]? = some (x, B) → ∀ b ∈ B, lo ≤ b ∧ b < w.heap.size ∧ b ∉ ρ ∧ b ∉ Fb.l
  dis : ∀ (i j : Nat) (x x' : Value) (B B' : List Nat), i ≠ j → Fb.bun[i]? = some (x, B) → Fb.bun[j]? = some (x', B') → ∀ b ∈ B, b ∉ B'
structure Grow (F1 F2 : Forb) : Prop where
  l : F2.l = F1.l
  bun : F1.bun <+: F2.bun
theorem Grow.rfl' (F : Forb) : Grow F F := ⟨rfl, List.prefix_rfl⟩
theorem Grow.trans {F1 F2 F3 : Forb} (a : Grow F1 F2) (b : Grow F2 F3) : Grow F1 F3 := ⟨b.l.trans a.l, a.bun.trans b.bun⟩
theorem Grow.at {F1 F2 : Forb} (a : Grow F1 F2) {i : Nat} {p : Value × List Nat} (h : F1.bun[i]? = some p) : F2.bun[i]? = some p := by
  obtain ⟨t, ht⟩ := a.bun
  rw [← ht, List.getElem?_append_left (List.getElem?_eq_some_iff.1 h).1]; exact h
theorem VR.grow {F1 F2 : Forb} (g : Grow F1 F2) {ρ : List Nat} {H : Heap} {w : World} {v : AVal} {c : Value} (h : @VR F1 ρ H w v c) : @VR F2 ρ H w v c := by
  have := VR.mapB (F1 := F1) (F2 := F2) (ρ := ρ) (ρ' := ρ) (H := H) (H' := H) (w := w) (w' := w) AVal.bun (fun _ _ _ _ _ _ _ h => h) (fun _ _ _ _ h => h)
    (fun i c len x B he hB => .bun i c len x B (g.at he) hB) h (.inl fun b hb => ⟨⟨hb.1, hb.2.1, by rw [g.l]; exact hb.2.2⟩, rfl⟩)
  rwa [mapB_id] at this
theorem Sim.grow {F1 F2 : Forb} (g : Grow F1 F2) {ρ : List Nat} {H : Heap} {w : World} (S : @Sim F1 ρ H w) : @Sim F2 ρ H w :=
  @Sim.mk F2 ρ H w (@Sim.len F1 _ _ _ S) (@Sim.nodup F1 _ _ _ S) (fun b hb => @Sim.forb F1 _ _ _ S b (g.l ▸ hb)) fun l b blk hl hb => by
    obtain ⟨cs, e, h1, h2, h3⟩ := @Sim.blk F1 _ _ _ S l b blk hl hb
    exact ⟨cs, e, h1, h2, fun i v hv => let ⟨x, hx, hvx⟩ := h3 i v hv; ⟨x, hx, hvx.grow g⟩⟩
theorem VR.go {F1 F2 : Forb} (g : Grow F1 F2) {ρ ρ' : List Nat} {H H' : Heap} {w w' : World} (M : Mv ρ H w ρ' H' w') {v : AVal} {c : Value} (h : @VR F1 ρ H w v c) : @VR F2 ρ' H' w' v c := @VR.mv F2 ρ ρ' H H' w w' M v c (h.grow g)

theorem MvX.mv {ρ : List Nat} {H : Heap} {w w' : World} (h : MvX [] w w') (hρ : ∀ b ∈ ρ, b < w.heap.size) : Mv ρ H w ρ H w' :=
  ⟨h.os, h.tape, h.output, h.size, fun b h1 h2 => ⟨h.frame b h1 List.not_mem_nil, h2⟩, fun l blk hl => ⟨blk, hl, Nat.le_refl _, fun _ => ⟨rfl, rfl, fun b cs e hb hc => ⟨cs, (h.frame b (hρ b (List.mem_of_getElem? hb)) List.not_mem_nil).trans hc, rfl⟩⟩⟩⟩

/-- What is known of a frame and a world. -/
structure FY (lo : Nat) (F0 : Forb) (ρ0 : List Nat) (H0 : Heap) (w0 : World) (x : SX) (a : Act) (w : World) (Fb : Forb) (ρ : List Nat) : Prop where
  soft : Soft lo Fb ρ x.m w
  grow : Grow F0 Fb
  tr : @TR Fb ρ x.h w x.t a.tmps
  sim : @Sim Fb ρ x.h w
  mv : Mv ρ0 H0 w0 ρ x.h w
  df : a.defers = []
def RelY (lo : Nat) (F0 : Forb) (ρ0 : List Nat) (H0 : Heap) (w0 : World) (x : SX) (a : Act) (w : World) : Prop := ∃ Fb ρ, FY lo F0 ρ0 H0 w0 x a w Fb ρ

theorem Soft.mv {lo : Nat} {Fb : Forb} {ρ ρ' : List Nat} {H H' : Heap} {m : Nat} {w w' : World} (h : Soft lo Fb ρ m w) (M : Mv ρ H w ρ' H' w') : Soft lo Fb ρ' m w' :=
  ⟨h.len, fun i x B hi b hb => by
    obtain ⟨h1, h2, h3, h4⟩ := h.bl i x B hi b hb
    exact ⟨h1, Nat.lt_of_lt_of_le h2 M.size, (M.frame b h2 h3).2, h4⟩, h.dis⟩
theorem FY.step {lo : Nat} {F0 : Forb} {ρ0 : List Nat} {H0 : Heap} {w0 : World} {x : SX} {a a' : Act} {w w' : World} {Fb : Forb} {ρ : List Nat} (h : FY lo F0 ρ0 H0 w0 x a w Fb ρ) {s1 : State} (hst : @St Fb ρ x.h w s1 a' w') : RelY lo F0 ρ0 H0 w0 (sx s1 x.m) a' w' := by
  obtain ⟨⟨ρ', T, S, M⟩, hd⟩ := hst
  exact ⟨Fb, ρ', h.soft.mv M, h.grow, T, S, h.mv.trans M, hd⟩
theorem FY.st {lo : Nat} {F0 : Forb} {ρ0 : List Nat} {H0 : Heap} {w0 : World} {x : SX} {a : Act} {w : World} {Fb : Forb} {ρ : List Nat} (h : FY lo F0 ρ0 H0 w0 x a w Fb ρ) : @St Fb ρ x.h w x.s a w := ⟨⟨ρ, h.tr, h.sim, Mv.refl _ _ _⟩, h.df⟩
theorem FY.lt {lo : Nat} {F0 : Forb} {ρ0 : List Nat} {H0 : Heap} {w0 : World} {x : SX} {a : Act} {w : World} {Fb : Forb} {ρ : List Nat} (h : FY lo F0 ρ0 H0 w0 x a w Fb ρ) : ∀ b ∈ ρ, b < w.heap.size := by
  intro b hb
  obtain ⟨l, hl⟩ := List.getElem?_of_mem hb
  obtain ⟨_, _, _, _, h1, _⟩ := @Sim.lt Fb _ _ _ h.sim _ _ hl
  exact heap_lt h1

/-- A closure, or a function, that is called with what memory leads to: so many blocks, and how many slices are held. -/
structure EntY where
  f : FuncId
  k : Nat
  R : List AVal → Heap → Nat → Option (Bool × AVal × Heap × Nat)
structure EntYOk (P : Program) (e : EntY) : Prop where
  enters : Enters P e.f
  low : ∀ args H m v H' m', e.R args H m = some (true, v, H', m') → AVal.inR.inRs e.k args = true ∧ (∀ (l : Nat) (blk : Blk), H[l]? = some blk → blk.c.inR e.k = true) ∧ H.length = e.k ∧ H'.length = e.k
  calls : ∀ args H m v H' m', e.R args H m = some (true, v, H', m') → ∀ (lo : Nat) (Fb : Forb) (ρ : List Nat) (w : World) (cargs : Array Value), lo ≤ w.heap.size → Soft lo Fb ρ m w → @Sim Fb ρ H w → @VRs Fb ρ H w args cargs.toList →
    Calls P e.f cargs w fun en w' => ∃ c, en = .returned c ∧ ∃ (F1 : Forb) (ρ1 : List Nat), Soft lo F1 ρ1 m' w' ∧ Grow Fb F1 ∧ @VR F1 ρ1 H' w' v c ∧ @Sim F1 ρ1 H' w' ∧ Mv ρ H w ρ1 H' w'

structure YC where
  kk : List KEnt
  /-- What makes lists of lists, which are taken apart. -/
  op : List KEnt
  cw : List EntY
  /-- Slots from which is only read. -/
  vw : List Nat
  /-- The type of lists of lists. -/
  rt : List TypeId
  /-- Which block holds lists that are held, from which number on, and what they are. -/
  rw : List (Nat × Nat × List (List Int))
structure YCok (P : Program) (C : YC) : Prop where
  kk : ∀ e ∈ C.kk, KOk P e
  op : ∀ e ∈ C.op, KOk P e
  cw : ∀ e ∈ C.cw, EntYOk P e
def findY : List EntY → FuncId → Option EntY
  | [], _ => none
  | e :: r, f => bif eqN e.f f then some e else findY r f
theorem findY_ok {P : Program} {f : FuncId} {e : EntY} : ∀ {l : List EntY}, (∀ e ∈ l, EntYOk P e) → findY l f = some e → EntYOk P e ∧ e.f = f
  | [], _, h => by cases h
  | x :: r, he, h => by
    simp only [findY, eqN_eq] at h
    cases hb : x.f == f with
    | true =>
      simp only [hb, cond_true, Option.some.injEq] at h
      have hf : x.f = f := by simpa using hb
      subst h
      exact ⟨he x List.mem_cons_self, hf⟩
    | false =>
      simp only [hb, cond_false] at h
      exact findY_ok (fun e' he' => he e' (List.mem_cons_of_mem _ he')) h

/-- Lists that are held, one by one, from a number on. -/
def bunsB.sv : Nat → List (List Int) → List AVal
  | _, [] => []
  | i, r :: t => .bun i (.ints .i64 r) r.length :: bunsB.sv (i + 1) t
theorem bunsB_len : ∀ (i : Nat) (rs : List (List Int)), (bunsB.sv i rs).length = rs.length
  | _, [] => rfl
  | i, r :: t => by simp [bunsB.sv, bunsB_len (i + 1) t]
theorem bunsB_get : ∀ (rs : List (List Int)) (i j : Nat) (r : List Int), rs[j]? = some r → (bunsB.sv i rs)[j]? = some (.bun (i + j) (.ints .i64 r) r.length)
  | [], _, j, r, h => by simp at h
  | x :: t, i, 0, r, h => by simp at h; subst h; rfl
  | x :: t, i, j + 1, r, h => by
    simp only [List.getElem?_cons_succ] at h
    simp only [bunsB.sv, List.getElem?_cons_succ]
    rw [bunsB_get t (i + 1) j r h]
    congr 2; omega
theorem bunsB_app : ∀ (a : List (List Int)) (i : Nat) (b : List (List Int)), bunsB.sv i (a ++ b) = bunsB.sv i a ++ bunsB.sv (i + a.length) b
  | [], i, b => by simp [bunsB.sv]
  | x :: t, i, b => by simp [bunsB.sv, bunsB_app t (i + 1) b, Nat.add_assoc, Nat.add_comm 1]

/-! ### What is lent to a call: that it is as it was is told beside -/

def AVal.lendT (H : Heap) : AVal → AVal
  | .own l off len ver z => match nth H l with
    | some ⟨.typ c, _⟩ => .ro (c.fromC off) len z
    | _ => AVal.mapB lentB (AVal.lentD 0 H dep3 (.own l off len ver z))
  | v => AVal.mapB lentB (AVal.lentD 0 H dep3 v)
def AVal.lendC (H : Heap) : AVal → Bool
  | .own l _ _ ver _ => match nth H l with
    | some ⟨.typ _, ver'⟩ => eqN ver ver'
    | _ => true
  | _ => true
def lendTs (H : Heap) : List AVal → List AVal
  | [] => []
  | v :: r => v.lendT H :: lendTs H r
def lendCs (H : Heap) : List AVal → Bool
  | [] => true
  | v :: r => v.lendC H && lendCs H r
theorem lendT_eq {H : Heap} {v : AVal} (h : v.lendC H = true) : v.lendT H = AVal.mapB lentB (AVal.lentD 0 H dep3 v) := by
  cases v with
  | own l off len ver z =>
    simp only [AVal.lendC] at h
    simp only [AVal.lendT]
    split
    · rename_i c ver' hb
      simp only [hb] at h
      simp only [AVal.lentD, dep3, ltN_eq, Nat.not_lt_zero, decide_false, cond_false, hb, h, cond_true, AVal.mapB]
    · rfl
  | _ => rfl
theorem lendTs_eq {H : Heap} : ∀ {vs : List AVal}, lendCs H vs = true → lendTs H vs = lendU H vs
  | [], _ => rfl
  | v :: r, h => by
    simp only [lendCs, Bool.and_eq_true] at h
    have := lendTs_eq h.2
    simp only [lendTs, lendT_eq h.1, this]
    simp only [lendU, lend0, mapL, AVal.mapB.mapBs]
theorem ren_none {f : Nat → Nat} {G H H2 : Heap} (r : RenOk f G H H2) {l : Nat} (h : nth H l = none) : nth H2 (f l) = none := by
  rw [nth_eq, List.getElem?_eq_none_iff] at h ⊢
  have := r.new (l - H.length)
  rw [Nat.add_sub_cancel' h] at this
  omega
theorem lendT_ren {f : Nat → Nat} {G H H2 : Heap} (r : RenOk f G H H2) (v : AVal) : (v.ren f).lendT H2 = v.lendT H := by
  have hd := lentD_ren r dep3
  cases v with
  | own l off len ver z =>
    have h1 := hd (.own l off len ver z)
    simp only [AVal.ren] at h1
    simp only [AVal.ren, AVal.lendT]
    cases hb : nth H l with
    | none => rw [ren_none r hb]; simp only [h1]
    | some b =>
      have h2 := r.held l b (by rw [← nth_eq]; exact hb)
      rw [← nth_eq] at h2
      rw [h2]
      obtain ⟨c, ver'⟩ := b
      cases c with
      | typ c => rfl
      | cells vs => simp only [BC.ren, h1]
  | rom vs off => exact congrArg (AVal.mapB lentB) (hd (.rom vs off))
  | ros vs len z => exact congrArg (AVal.mapB lentB) (hd (.ros vs len z))
  | ptr l off ver => exact congrArg (AVal.mapB lentB) (hd (.ptr l off ver))
  | agg vs => exact congrArg (AVal.mapB lentB) (hd (.agg vs))
  | tup vs => exact congrArg (AVal.mapB lentB) (hd (.tup vs))
  | fn g vs => exact congrArg (AVal.mapB lentB) (hd (.fn g vs))
  | _ => rfl
theorem lendC_ren {f : Nat → Nat} {G H H2 : Heap} (r : RenOk f G H H2) (v : AVal) : (v.ren f).lendC H2 = v.lendC H := by
  cases v with
  | own l off len ver z =>
    simp only [AVal.ren, AVal.lendC]
    cases hb : nth H l with
    | none => rw [ren_none r hb]
    | some b =>
      have h2 := r.held l b (by rw [← nth_eq]; exact hb)
      rw [← nth_eq] at h2
      rw [h2]
      obtain ⟨c, ver'⟩ := b
      cases c <;> rfl
  | _ => rfl
theorem lendTs_ren {f : Nat → Nat} {G H H2 : Heap} (r : RenOk f G H H2) : ∀ vs : List AVal, lendTs H2 (vs.map (AVal.ren f)) = lendTs H vs
  | [] => rfl
  | v :: vs => by simp only [List.map_cons, lendTs, lendT_ren r, lendTs_ren r vs]
theorem lendCs_ren {f : Nat → Nat} {G H H2 : Heap} (r : RenOk f G H H2) : ∀ vs : List AVal, lendCs H2 (vs.map (AVal.ren f)) = lendCs H vs
  | [] => rfl
  | v :: vs => by simp only [List.map_cons, lendCs, lendC_ren r, lendCs_ren r vs]

def orcV (es : List Ent) : OrcK := fun f args H => match findE es f with
  | some R => match R (lendTs H args) with
    | some (b, v, new) => some (lendCs H args && (b && (AVal.free.frees args || (v.clean && cleanB new))), v.shift (hlen H), .ext (shiftB (hlen H) new))
    | none => none
  | none => none
instance orcV_loc (es : List Ent) : OrcLoc (orcV es) := by
  refine ⟨?_⟩
  intro f args H H' b v h l hl hn
  unfold orcV at h
  split at h
  · split at h
    · simp at h
    · cases h
  · cases h
instance orcV_ren (es : List Ent) : OrcRen (orcV es) := by
  refine ⟨?_⟩
  intro f G H H2 r g args b v n h
  unfold orcV at h ⊢
  split at h
  · rename_i R hR
    rw [lendTs_ren r args, lendCs_ren r args]
    split at h
    · rename_i b1 v1 new hv
      simp only [Option.some.injEq, Prod.mk.injEq, Eff.ext.injEq] at h
      obtain ⟨rfl, rfl, rfl⟩ := h
      have hn : ∀ i, f (hlen H + i) = hlen H2 + i := by rw [hlen_eq, hlen_eq]; exact r.new
      simp only [shift_ren hn, shiftB_ren hn, ← rens_eq, frees_ren]
    · cases h
  · cases h
theorem orcV_ok {P : Program} {es : List Ent} (h : ∀ e ∈ es, EntOk P e) : OrcOk P (orcV es).plain := by
  intro f args H v H' hh
  refine orcU_ok h f args H v H' ?_
  simp only [OrcK.plain, orcV] at hh
  simp only [OrcK.plain, orcU]
  split at hh
  · rename_i b u e hr
    split at hr
    · rename_i R hR
      split at hr
      · rename_i b0 v0 new hnew
        simp only [Option.some.injEq, Prod.mk.injEq] at hr
        obtain ⟨rfl, rfl, rfl⟩ := hr
        cases hc : lendCs H args with
        | false => rw [hc] at hh; simp at hh
        | true =>
          rw [hc, Bool.true_and] at hh
          rw [lendTs_eq hc] at hnew
          simp only [hR, hnew]
          exact hh
      · cases hr
    · cases hr
  · cases hh

/-! ### Calls that make slices that are held -/

def specK (C : YC) (s : State) (m : Nat) (o : Oper) : Option (Option (Bool × State × Nat)) :=
  match o.guard with
  | some _ => none
  | none => match o.op with
    | .call { callee := .value f, args, .. } => match s.ev f with
      | .fn g [] => match findK C.kk g with
        | some R => match R (lendTs s.h (mapL s.ev args.toList)) with
          | some (b, u, n) => some (some (lendCs s.h (mapL s.ev args.toList) && (b && u.noRo), s.put o.dst (u.mapB (shI m)), m + n))
          | none => some none
        | none => match findK C.op g with
          | some R => match R (lendTs s.h (mapL s.ev args.toList)) with
            | some (b, .tup [.bun 0 (.rows .i64 rs) n, .bool t], 1) => some (some (lendCs s.h (mapL s.ev args.toList) && b && decide (n = rs.length), State.put ⟨s.t, snoc s.h ⟨.cells (bunsB.sv m rs), 0⟩⟩ o.dst (.tup [.own (hlen s.h) 0 n 0 1, .bool t]), m + rs.length))
            | _ => some none
          | none => none
      | _ => none
    | _ => none

theorem tup2_inv {Fb : Forb} {ρ : List Nat} {H : Heap} {w : World} {u v : AVal} {c : Value} (h : @VR Fb ρ H w (.tup [u, v]) c) : ∃ a b, c = .tuple #[a, b] ∧ @VR Fb ρ H w u a ∧ @VR Fb ρ H w v b := by
  cases h with
  | tup vs cs hl h =>
    obtain ⟨cs⟩ := cs
    match cs, hl with
    | [c0, c1], _ =>
      have h0 := h 0 _ rfl
      have h1 := h 1 _ rfl
      simp only [Array.getD_eq_getD_getElem?, List.getElem?_toArray, List.getElem?_cons_zero, List.getElem?_cons_succ, Option.getD_some] at h0 h1
      exact ⟨c0, c1, rfl, h0, h1⟩
theorem tup2_mk {Fb : Forb} {ρ : List Nat} {H : Heap} {w : World} {u v : AVal} {a b : Value} (h : @VR Fb ρ H w u a) (h' : @VR Fb ρ H w v b) : @VR Fb ρ H w (.tup [u, v]) (.tuple #[a, b]) := by
  refine @VR.tup Fb ρ H w _ _ rfl fun i x hi => ?_
  match i, hi with
  | 0, hi => simp only [List.getElem?_cons_zero, Option.some.injEq] at hi; subst hi; exact h
  | 1, hi => simp only [List.getElem?_cons_succ, List.getElem?_cons_zero, Option.some.injEq] at hi; subst hi; exact h'
  | i + 2, hi => simp at hi

theorem specK_sound {P : Program} {C : YC} (hC : YCok P C) {lo : Nat} {F0 : Forb} {ρ0 : List Nat} {H0 : Heap} {w0 : World} (hlo : lo ≤ w0.heap.size) {o : Oper} {s s' : State} {m m' : Nat} (h : specK C s m o = some (some (true, s', m'))) {a : Act} {w : World} (hs : RelY lo F0 ρ0 H0 w0 (sx s m) a w)
    {Q : Exit → Act → World → Prop} {K : Act → World → Prop} (hK : ∀ a' w', RelY lo F0 ρ0 H0 w0 (sx s' m') a' w' → K a' w') : o.guard = none ∧ o.wp P a w K Q := by
  unfold specK at h
  split at h
  · cases h
  rename_i hg
  refine ⟨hg, ?_⟩
  split at h
  case h_2 => cases h
  rename_i f args ts hop
  split at h
  case h_2 => cases h
  rename_i g hf
  obtain ⟨Fb, ρ, hY⟩ := hs
  have T := hY.tr
  have S := hY.sim
  have hv := @TR.ev Fb ρ s.h w s a T f
  rw [hf] at hv
  have hc : a.eval f = .func (.func g) #[] #[] := by
    generalize a.eval f = c at hv
    cases hv
    rename_i cs hl hh
    have : cs = #[] := Array.eq_empty_of_size_eq_zero (by simpa using hl.symm)
    rw [this]
  have hargs : @VRs Fb ρ s.h w (mapL s.ev args.toList) (args.map a.eval).toList := by
    rw [mapL_eq, Array.toList_map]
    exact @TR.evs Fb ρ s.h w s a T _
  have hρ := hY.lt
  have old : ∀ b ∈ Fb.l, b < w.heap.size ∧ b ∉ ρ := @Sim.forb Fb _ _ _ S
  have hm := hY.soft.len
  have hws : w0.heap.size ≤ w.heap.size := hY.mv.size
  -- new ones
  have soft2 : ∀ (w' : World) (nb : List (Value × List Nat)) (ρ2 : List Nat), MvX [] w w' → (∀ (i : Nat) (x : Value) (B : List Nat), nb[i]? = some (x, B) → ∀ b ∈ B, w.heap.size ≤ b ∧ b < w'.heap.size ∧ b ∉ ρ2) → (∀ b ∈ ρ2, b ∈ ρ ∨ w.heap.size ≤ b) →
      (∀ (i j : Nat) (x x' : Value) (B B' : List Nat), i ≠ j → nb[i]? = some (x, B) → nb[j]? = some (x', B') → ∀ b ∈ B, b ∉ B') → Soft lo ⟨Fb.l, Fb.bun ++ nb⟩ ρ2 (m + nb.length) w' := by
    intro w' nb ρ2 M1 b1 r2 d1
    refine ⟨by simp [hm, sx], fun i x B hi b hb => ?_, fun i j x x' B B' hij hi hj b hb hb' => ?_⟩
    · have hi' : (Fb.bun ++ nb)[i]? = some (x, B) := hi
      rw [List.getElem?_append] at hi'
      split at hi'
      · obtain ⟨g1, g2, g3, g4⟩ := hY.soft.bl i x B hi' b hb
        refine ⟨g1, Nat.lt_of_lt_of_le g2 M1.size, fun hr => ?_, g4⟩
        rcases r2 b hr with h | h
        · exact g3 h
        · omega
      · obtain ⟨g1, g2, g3⟩ := b1 _ x B hi' b hb
        exact ⟨by omega, g2, g3, fun hl => by have := (old b hl).1; omega⟩
    · have hi' : (Fb.bun ++ nb)[i]? = some (x, B) := hi
      have hj' : (Fb.bun ++ nb)[j]? = some (x', B') := hj
      rw [List.getElem?_append] at hi' hj'
      split at hi' <;> split at hj'
      · exact hY.soft.dis i j x x' B B' hij hi' hj' b hb hb'
      · have := (hY.soft.bl i x B hi' b hb).2.1; have := (b1 _ x' B' hj' b hb').1; omega
      · have := (hY.soft.bl j x' B' hj' b hb').2.1; have := (b1 _ x B hi' b hb).1; omega
      · exact d1 _ _ x x' B B' (by omega) hi' hj' b hb hb'
  split at h
  · rename_i R hR
    split at h
    case h_2 => cases h
    rename_i b u n hRv
    simp only [Option.some.injEq, Prod.mk.injEq, Bool.and_eq_true] at h
    obtain ⟨⟨hlc0, rfl, hno⟩, rfl, rfl⟩ := h
    rw [lendTs_eq hlc0] at hRv
    obtain ⟨he, hcall⟩ := findK_ok hC.kk hR
    unfold Oper.wp
    rw [callee_run hop hc he, Oper.upon_enter]
    refine (hcall _ u n hRv w (args.map a.eval) (lendU_VRs S hargs)).mono fun en w' ⟨c, hen, F1, E1, n1, b1, v1, M1⟩ => ?_
    subst hen
    refine hK _ _ ?_
    let F2 : Forb := ⟨Fb.l, Fb.bun ++ F1.bun⟩
    have gr : Grow Fb F2 := ⟨rfl, List.prefix_append _ _⟩
    have M : Mv ρ s.h w ρ s.h w' := M1.mv hρ
    have hnew : @VR F2 ρ s.h w' (u.mapB (shI m)) c := VR.mapB (F1 := F1) (F2 := F2) (shI m) (fun _ _ _ _ _ _ _ h => (own_nil h).elim) (fun _ _ _ _ h => (ptr_nil h).elim)
      (fun i c len x B he hB => @VR.bun F2 ρ _ w' (m + i) c len x B (by
          show (Fb.bun ++ F1.bun)[m + i]? = _
          have hm' : Fb.bun.length = m := hm
          rw [← hm', List.getElem?_append_right (Nat.le_add_right _ _), Nat.add_sub_cancel_left]; exact he) (hB.mono fun b hb h1 _ => ⟨fun hr => by have := hρ b hr; have := (b1 b (E1.sub i _ B he b hb)).1; omega, rfl⟩))
      v1 (.inr hno)
    have T2 : @TR F2 ρ s.h w' s.t a.tmps := ⟨T.1, fun i v hv => (T.2 i v hv).go gr M⟩
    have S2 : @Sim F2 ρ s.h w' := by
      refine @Sim.mk F2 ρ s.h w' (@Sim.len Fb _ _ _ S) (@Sim.nodup Fb _ _ _ S) (fun b hb => ⟨Nat.lt_of_lt_of_le (old b hb).1 M1.size, (old b hb).2⟩) fun l b blk hl hb => ?_
      obtain ⟨cs, e, h1, h2, h3⟩ := @Sim.blk Fb _ _ _ S l b blk hl hb
      exact ⟨cs, e, (M1.frame b (heap_lt h1) List.not_mem_nil).trans h1, h2, fun i v hv => let ⟨x, hx, hvx⟩ := h3 i v hv; ⟨x, hx, hvx.go gr M⟩⟩
    have hsft := soft2 w' F1.bun ρ M1 (fun i x B hi b hb => ⟨(b1 b (E1.sub i x B hi b hb)).1, (b1 b (E1.sub i x B hi b hb)).2, fun hr => by have := hρ b hr; have := (b1 b (E1.sub i x B hi b hb)).1; omega⟩) (fun b hb => .inl hb) E1.dis
    refine ⟨F2, ρ, ?_, hY.grow.trans gr, ?_, ?_, ?_, by cases o.dst <;> exact hY.df⟩
    · rw [n1] at hsft; exact hsft
    · have := @TR.put F2 ρ s.h w' s a T2 o.dst _ _ hnew
      generalize o.dst = d at this ⊢
      cases d <;> exact this
    · cases o.dst <;> exact S2
    · have := hY.mv.trans M
      cases o.dst <;> exact this
  · split at h
    case h_2 => cases h
    rename_i R hR
    split at h
    case h_2 => cases h
    rename_i b rs n t hRv
    simp only [Option.some.injEq, Prod.mk.injEq, Bool.and_eq_true, decide_eq_true_eq, snoc_eq, hlen_eq] at h
    obtain ⟨⟨⟨hlc0, rfl⟩, hn⟩, rfl, rfl⟩ := h
    rw [lendTs_eq hlc0] at hRv
    obtain ⟨he, hcall⟩ := findK_ok hC.op hR
    unfold Oper.wp
    rw [callee_run hop hc he, Oper.upon_enter]
    refine (hcall _ _ _ hRv w (args.map a.eval) (lendU_VRs S hargs)).mono fun en w' ⟨c, hen, F1, E1, n1, b1, v1, M1⟩ => ?_
    subst hen
    refine hK _ _ ?_
    obtain ⟨x, y, rfl, vx, vy⟩ := tup2_inv v1
    cases vy
    cases vx with
    | bun _ _ _ _ B he1 hB =>
    obtain ⟨ad, cap, rfl, hB, hlc, hlr⟩ := hB.slice rfl rfl
    obtain ⟨b0, cs, e, bs, rfl, q1, _, q2, q3, q4, q5, q6⟩ := hB
    have hbB : ∀ y ∈ B, w.heap.size ≤ y ∧ y < w'.heap.size := fun y hy => b1 y (E1.sub 0 _ B he1 y hy)
    have hb0 := hbB b0 q1
    -- the lists' own blocks
    have row : ∀ (j : Nat), j < rs.length → ∃ (r : List Int) (bj capj : Nat) (csj : Array Value) (ej : TypeId), rs[j]? = some r ∧ bs[j]? = some bj ∧ bj ∈ B ∧ cs[j]? = some (Value.slice (some ⟨bj, 0, none⟩) r.length capj) ∧ r.length ≤ capj ∧ w'.heap[bj]? = some (Obj.cells csj ej (0, 0)) ∧ capj ≤ csj.size ∧ ∀ (i : Nat) (n : Int), r[i]? = some n → csj[i]? = some (Value.int .i64 n) := by
      intro j hj
      have e1 := List.getElem?_eq_getElem hj
      have e2 := List.getElem?_eq_getElem (show j < bs.length by omega)
      obtain ⟨g1, _, capj, csj, ej, g2, g3, g4, g5, g6⟩ := q6 j _ _ e1 e2
      exact ⟨_, _, capj, csj, ej, e1, e2, g1, g2, g3, g4, g5, g6⟩
    let nb : List (Value × List Nat) := (List.range rs.length).map fun j => (cs.getD j Go.undef, [bs.getD j 0])
    have nbl : nb.length = rs.length := by simp [nb]
    have nbg : ∀ (j : Nat) (v : Value) (B' : List Nat), nb[j]? = some (v, B') → j < rs.length ∧ v = cs.getD j Go.undef ∧ B' = [bs.getD j 0] := by
      intro j v B' h
      simp only [nb, List.getElem?_map, Option.map_eq_some_iff, Prod.mk.injEq] at h
      obtain ⟨i, hi, rfl, rfl⟩ := h
      have hlt : j < rs.length := by simpa using (List.getElem?_eq_some_iff.1 hi).1
      rw [List.getElem?_range hlt] at hi
      simp only [Option.some.injEq] at hi
      subst hi
      exact ⟨hlt, rfl, rfl⟩
    have hbne : ∀ (j bj : Nat), bs[j]? = some bj → bj ≠ b0 := fun j bj hj he => (List.nodup_cons.1 q4).1 (he ▸ List.mem_of_getElem? hj)
    let F2 : Forb := ⟨Fb.l, Fb.bun ++ nb⟩
    let ρ2 := ρ ++ [b0]
    let blk : Blk := ⟨.cells (bunsB.sv m rs), 0⟩
    have gr : Grow Fb F2 := ⟨rfl, List.prefix_append _ _⟩
    have hb0ρ : b0 ∉ ρ := fun hr => by have := hρ b0 hr; omega
    have M : Mv ρ s.h w ρ2 (s.h ++ [blk]) w' := by
      have m0 : Mv ρ s.h w ρ s.h w' := M1.mv hρ
      refine ⟨m0.os, m0.tape, m0.output, m0.size, fun b h1 h2 => ⟨(m0.frame b h1 h2).1, fun hm => ?_⟩, fun l bk hl => ?_⟩
      · rcases List.mem_append.1 hm with h | h
        · exact h2 h
        · simp only [List.mem_singleton] at h; omega
      · obtain ⟨bk', k1, k2, k3⟩ := m0.keep l bk hl
        have hl' := (List.getElem?_eq_some_iff.1 hl).1
        refine ⟨bk', by rw [List.getElem?_append_left hl']; exact k1, k2, fun e => ?_⟩
        obtain ⟨k4, k5⟩ := k3 e
        refine ⟨?_, k5⟩
        show (ρ ++ [b0])[l]? = _
        have hlr : l < ρ.length := by rw [@Sim.len Fb _ _ _ S]; exact hl'
        rw [List.getElem?_append_left hlr]
    have cell : ∀ (j : Nat) (v : AVal), (bunsB.sv m rs)[j]? = some v → ∃ x, cs[j]? = some x ∧ @VR F2 ρ2 (s.h ++ [blk]) w' v x := by
      intro j v hv
      have hj : j < rs.length := by have := (List.getElem?_eq_some_iff.1 hv).1; rwa [bunsB_len] at this
      obtain ⟨r, bj, capj, csj, ej, g1, g2, g3, g4, g5, g6, g7, g8⟩ := row j hj
      rw [bunsB_get rs m j r g1] at hv
      simp only [Option.some.injEq] at hv
      subst hv
      refine ⟨_, g4, @VR.bun F2 ρ2 _ w' (m + j) _ _ _ [bj] ?_ (.inl ⟨rfl, ⟨bj, 0, none⟩, capj, rfl, ⟨bj, csj, ej, rfl, List.mem_singleton_self _, ?_, g6, g7, g8⟩, g5, Nat.le_refl _⟩)⟩
      · show (Fb.bun ++ nb)[m + j]? = _
        have hm' : Fb.bun.length = m := hm
        rw [← hm', List.getElem?_append_right (Nat.le_add_right _ _), Nat.add_sub_cancel_left]
        simp only [nb, List.getElem?_map]
        rw [List.getElem?_range hj]
        simp [Array.getD_eq_getD_getElem?, g4, List.getD_eq_getElem?_getD, g2]
      · intro hr
        rcases List.mem_append.1 hr with h | h
        · have := hρ bj h; have := (hbB bj g3).1; omega
        · simp only [List.mem_singleton] at h; exact hbne j bj g2 h
    have T2 : @TR F2 ρ2 (s.h ++ [blk]) w' s.t a.tmps := ⟨T.1, fun i v hv => (T.2 i v hv).go gr M⟩
    have S2 : @Sim F2 ρ2 (s.h ++ [blk]) w' := by
      refine @Sim.mk F2 ρ2 _ w' (by have h0 : ρ.length = s.h.length := @Sim.len Fb _ _ _ S; simp only [ρ2, List.length_append, List.length_singleton, h0]) (List.nodup_append.2 ⟨@Sim.nodup Fb _ _ _ S, by simp, fun x hx y hy => by simp only [List.mem_singleton] at hy; subst hy; exact fun e => hb0ρ (e ▸ hx)⟩) (fun b hb => ⟨Nat.lt_of_lt_of_le (old b hb).1 M1.size, fun hr => ?_⟩) fun l b bk hl hb => ?_
      · rcases List.mem_append.1 hr with h | h
        · exact (old b hb).2 h
        · simp only [List.mem_singleton] at h; have := (old b hb).1; omega
      · by_cases hll : l < s.h.length
        · rw [List.getElem?_append_left hll] at hl
          have hb' : ρ[l]? = some b := by
            have hlr : l < ρ.length := by rw [@Sim.len Fb _ _ _ S]; exact hll
            have hb2 : (ρ ++ [b0])[l]? = some b := hb
            rwa [List.getElem?_append_left hlr] at hb2
          obtain ⟨cs', e', h1, h2, h3⟩ := @Sim.blk Fb _ _ _ S l b bk hl hb'
          exact ⟨cs', e', (M1.frame b (heap_lt h1) List.not_mem_nil).trans h1, h2, fun i v hv => let ⟨x, hx, hvx⟩ := h3 i v hv; ⟨x, hx, hvx.go gr M⟩⟩
        · have hlr := @Sim.len Fb _ _ _ S
          rw [List.getElem?_append_right (by omega)] at hl
          have hb2 : (ρ ++ [b0])[l]? = some b := hb
          have hsl : (sx s m).h = s.h := rfl
          rw [List.getElem?_append_right (by rw [hlr, hsl]; omega), hlr, hsl] at hb2
          have h0 : l - s.h.length = 0 := by have := (List.getElem?_eq_some_iff.1 hl).1; simpa using this
          rw [h0] at hl hb2
          simp only [List.getElem?_cons_zero, Option.some.injEq] at hl hb2
          subst hl hb2
          refine ⟨cs, e, q2, ?_, fun i v hv => cell i v (by simpa [blk, BC.get?, nth_eq] using hv)⟩
          simp only [blk, BC.len, hlen_eq, bunsB_len]
          have := row
          omega
    have hsft := soft2 w' nb ρ2 M1 (fun i x B' hi b hb => ?_) (fun b hb => ?_) (fun i j x x' Bi Bj hij hi hj b hb hb' => ?_)
    · refine ⟨F2, ρ2, ?_, hY.grow.trans gr, ?_, ?_, ?_, by cases o.dst <;> exact hY.df⟩
      · rw [nbl] at hsft; exact hsft
      · have hval : @VR F2 ρ2 (s.h ++ [blk]) w' (.tup [.own s.h.length 0 n 0 1, .bool t]) (.tuple #[.slice (some ⟨b0, 0, none⟩) n cap, .bool t]) := by
          refine tup2_mk (@VR.own F2 ρ2 _ w' _ _ _ _ _ _ _ ⟨blk, by simp, Nat.le_refl _, fun _ => ⟨b0, cs, e, ?_, rfl, ?_, q2, by omega⟩⟩ hlc) (@VR.bool F2 ρ2 _ w' t)
          · show (ρ ++ [b0])[s.h.length]? = _
            have hlr : ρ.length = s.h.length := @Sim.len Fb _ _ _ S
            rw [← hlr]; simp
          · simp [blk, BC.len, hlen_eq, bunsB_len, hn]
        have := @TR.put F2 ρ2 (s.h ++ [blk]) w' ⟨s.t, s.h ++ [blk]⟩ a T2 o.dst _ _ hval
        generalize o.dst = d at this ⊢
        cases d <;> exact this
      · cases o.dst <;> exact S2
      · have := hY.mv.trans M
        cases o.dst <;> exact this
    · obtain ⟨hj, _, rfl⟩ := nbg i x B' hi
      obtain ⟨r, bj, capj, csj, ej, g1, g2, g3, _⟩ := row i hj
      simp only [List.getD_eq_getElem?_getD, g2, Option.getD_some, List.mem_singleton] at hb
      subst hb
      refine ⟨(hbB b g3).1, (hbB b g3).2, fun hr => ?_⟩
      rcases List.mem_append.1 hr with h | h
      · have := hρ b h; have := (hbB b g3).1; omega
      · simp only [List.mem_singleton] at h; exact hbne i b g2 h
    · rcases List.mem_append.1 hb with h | h
      · exact .inl h
      · simp only [List.mem_singleton] at h; subst h; exact .inr hb0.1
    · obtain ⟨hi', _, rfl⟩ := nbg i x Bi hi
      obtain ⟨hj', _, rfl⟩ := nbg j x' Bj hj
      obtain ⟨_, bi, _, _, _, _, g2, _⟩ := row i hi'
      obtain ⟨_, bj, _, _, _, _, g3, _⟩ := row j hj'
      simp only [List.getD_eq_getElem?_getD, g2, g3, Option.getD_some, List.mem_singleton] at hb hb'
      subst hb
      subst hb'
      have e1 := (List.getElem?_eq_some_iff.1 g2).1
      exact hij ((List.getElem?_inj e1 (List.nodup_cons.1 q4).2).1 (g2.trans g3.symm))

end Go.Proofs.Ythecninmmojkgaa.Ab
