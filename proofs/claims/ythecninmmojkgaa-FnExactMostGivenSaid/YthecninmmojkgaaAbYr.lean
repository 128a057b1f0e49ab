/-
  The abstract machine, where slices are held that others may read too: bodies are carried out.
-/
import Derived.Test.YthecninmmojkgaaAbYb
namespace Go.Proofs.Ythecninmmojkgaa.Ab
open Go
set_option linter.unusedVariables false
set_option linter.unusedSimpArgs false

noncomputable def specY (P : Program) (C : YC) (s : State) (m : Nat) (o : Oper) : Option (Option (Bool × State × Nat)) :=
  match specE P C s m o with
  | some r => some r
  | none => match specR P C s m o with
    | some r => some r
    | none => match specA P s m o with
      | some r => some r
      | none => match specC C s m o with
        | some r => some r
        | none => specK C s m o
theorem specY_sound {P : Program} {C : YC} (hC : YCok P C) {lo : Nat} {F0 : Forb} {ρ0 : List Nat} {H0 : Heap} {w0 : World} (hlo : lo ≤ w0.heap.size) {o : Oper} {s s' : State} {m m' : Nat} (h : specY P C s m o = some (some (true, s', m'))) {a : Act} {w : World} (hs : RelY lo F0 ρ0 H0 w0 (sx s m) a w)
    {Q : Exit → Act → World → Prop} {K : Act → World → Prop} (hK : ∀ a' w', RelY lo F0 ρ0 H0 w0 (sx s' m') a' w' → K a' w') : o.guard = none ∧ o.wp P a w K Q := by
  unfold specY at h
  split at h
  · rename_i r hr
    simp only [Option.some.injEq] at h
    subst h
    obtain ⟨Fb, ρ, hY⟩ := hs
    exact specE_St hr hY.tr hY.sim hY.df fun a' w' hst hm => hK a' w' (by rw [hm]; exact hY.step hst)
  split at h
  · rename_i r hr
    simp only [Option.some.injEq] at h
    subst h
    obtain ⟨Fb, ρ, hY⟩ := hs
    exact specR_St hr hY.tr hY.sim hY.df fun a' w' hst hm => hK a' w' (by rw [hm]; exact hY.step hst)
  split at h
  · rename_i r hr
    simp only [Option.some.injEq] at h
    subst h
    obtain ⟨Fb, ρ, hY⟩ := hs
    exact specA_St hr hY.tr hY.sim hY.df fun a' w' hst hm => hK a' w' (by rw [hm]; exact hY.step hst)
  split at h
  · rename_i r hr
    simp only [Option.some.injEq] at h
    subst h
    exact specC_sound hC hlo hr hs hK
  · exact specK_sound hC hlo h hs hK

noncomputable def runOpsY {γ : Type} (P : Program) (A : OrcK) (C : YC) (ops : Array Oper) (k : SX → Option γ) : List Oper → SX → Option γ
  | [], x => k x
  | o :: r, x => match specY P C x.s x.m o with
    | some (some (b, s', m')) => bif b then runOpsY P A C ops k r (viewD C.vw o.dst (sx s' m')) else none
    | some none => none
    | none => guardK ops o.guard x.s (fun s => opK P A o.op o.dst s fun s => runOpsY P A C ops k r (viewD C.vw o.dst (sx s x.m))) (fun s => runOpsY P A C ops k r (viewD C.vw o.dst (sx (s.put o.dst .undef) x.m)))

/-- One operation's step. -/
def StepY (P : Program) (A : OrcK) (C : YC) (ops : Array Oper) (o : Oper) (x x1 : SX) : Prop :=
  (∃ s' m', specY P C x.s x.m o = some (some (true, s', m')) ∧ x1 = viewD C.vw o.dst (sx s' m')) ∨
  (specY P C x.s x.m o = none ∧ ∃ s1, Stp P A ops o x.s s1 ∧ x1 = viewD C.vw o.dst (sx s1 x.m))
theorem StepY.det {P : Program} {A : OrcK} {C : YC} {ops : Array Oper} {o : Oper} {x x1 x2 : SX} (h1 : StepY P A C ops o x x1) (h2 : StepY P A C ops o x x2) : x1 = x2 := by
  rcases h1 with ⟨s1, m1, e1, rfl⟩ | ⟨e1, s1, t1, rfl⟩ <;> rcases h2 with ⟨s2, m2, e2, rfl⟩ | ⟨e2, s2, t2, rfl⟩
  · rw [e1] at e2
    simp only [Option.some.injEq, Prod.mk.injEq, true_and] at e2
    obtain ⟨rfl, rfl⟩ := e2
    rfl
  · rw [e1] at e2; cases e2
  · rw [e1] at e2; cases e2
  · unfold Stp at t1 t2
    rw [t1] at t2
    simp only [Option.some.injEq] at t2
    rw [t2]
theorem runOpsY_cons {γ : Type} {P : Program} {A : OrcK} {C : YC} {ops : Array Oper} {k : SX → Option γ} {o : Oper} {l : List Oper} {x : SX} {r : γ} (h : runOpsY P A C ops k (o :: l) x = some r) :
    ∃ x1, StepY P A C ops o x x1 ∧ runOpsY P A C ops k l x1 = some r := by
  simp only [runOpsY] at h
  split at h
  · rename_i b s' m' hsp
    cases b with
    | false => cases h
    | true => rw [cond_true] at h; exact ⟨_, .inl ⟨s', m', hsp, rfl⟩, h⟩
  · cases h
  · rename_i hsp
    obtain ⟨s1, h1, h2⟩ := one_stp (next := fun s => runOpsY P A C ops k l (viewD C.vw o.dst (sx s x.m))) h
    exact ⟨_, .inr ⟨hsp, s1, h1, rfl⟩, h2⟩

section
variable {P : Program} {A : OrcK} (hA : OrcOk P A.plain) {C : YC} (hC : YCok P C) {lo : Nat} {F0 : Forb} {ρ0 : List Nat} {H0 : Heap} {w0 : World} (hlo : lo ≤ w0.heap.size) (hv : C.vw = [] ∨ F0.l = [])
include hA hC hlo hv

theorem stepY_sound {ops : Array Oper} {Q : Exit → Act → World → Prop} {K : Act → World → Prop} {o : Oper} {x x1 : SX} {a : Act} {w : World} (h : StepY P A C ops o x x1) (hs : RelY lo F0 ρ0 H0 w0 x a w) (hK : ∀ a' w', RelY lo F0 ρ0 H0 w0 x1 a' w' → K a' w') :
    if Region.wanted o (yielded ops a.tmps) then o.wp P a w K Q ∨ (o.asks P a w ∧ LetsOut Q) else K (a.put o.dst Go.undef) w := by
  rcases h with ⟨s', m', hsp, rfl⟩ | ⟨_, s1, h1, rfl⟩
  · obtain ⟨hg, hwp⟩ := specY_sound hC hlo hsp hs (Q := Q) (K := K) fun a' w' hs' => hK a' w' (hs'.view hv)
    have : Region.wanted o (yielded ops a.tmps) = true := by simp [Region.wanted, hg]
    rw [if_pos this]
    exact .inl hwp
  · obtain ⟨Fb, ρ, hY⟩ := hs
    exact @stp_sound Fb P A hA ops ρ x.s.h w Q K o x.s s1 a w h1 hY.st fun a' w' hst => hK a' w' ((hY.step hst).view hv)
theorem opsY_sound {γ : Type} {ops : Array Oper} {Q : Exit → Act → World → Prop} {k : SX → Option γ} {r : γ} (hk : ∀ x a w, k x = some r → RelY lo F0 ρ0 H0 w0 x a w → Q .normal a w) :
    ∀ (l : List Oper) (x : SX) (a : Act) (w : World), runOpsY P A C ops k l x = some r → RelY lo F0 ρ0 H0 w0 x a w → wpList P ops Q l a w := by
  intro l
  induction l with
  | nil => intro x a w h hs; exact hk x a w h hs
  | cons o l ih =>
    intro x a w h hs
    obtain ⟨x1, h1, h2⟩ := runOpsY_cons h
    unfold wpList
    exact stepY_sound hA hC hlo hv h1 hs fun a' w' hs' => ih x1 a' w' h2 hs'
end

/-! ### All orders of a region -/

def tailsOf (i : Nat) : List (List Nat) → List (List Nat)
  | [] => []
  | [] :: r => tailsOf i r
  | (j :: l) :: r => bif eqN j i then l :: tailsOf i r else tailsOf i r
theorem tailsOf_mem {i : Nat} : ∀ {ords : List (List Nat)} {l : List Nat}, l ∈ tailsOf i ords → (i :: l) ∈ ords
  | [], l, h => by simp [tailsOf] at h
  | [] :: r, l, h => List.mem_cons_of_mem _ (tailsOf_mem (ords := r) h)
  | (j :: t) :: r, l, h => by
    simp only [tailsOf, eqN_eq] at h
    cases hb : j == i with
    | true =>
      have : j = i := by simpa using hb
      subst this
      rw [hb, cond_true] at h
      rcases List.mem_cons.1 h with rfl | h
      · exact List.mem_cons_self
      · exact List.mem_cons_of_mem _ (tailsOf_mem h)
    | false => rw [hb, cond_false] at h; exact List.mem_cons_of_mem _ (tailsOf_mem h)
def isEmp {α : Type} : List α → Bool
  | [] => true
  | _ => false
/-- Do these orders tell all that may be drawn? -/
def cover (ops : Array Oper) : Nat → Array Bool → List (List Nat) → Bool
  | 0, listed, ords => isEmp (Region.ready .any ops listed) && (!isEmp ords && ords.all isEmp)
  | n + 1, listed, ords => !isEmp (Region.ready .any ops listed) && (Region.ready .any ops listed).all fun i => (match ops[i]? with | some _ => true | none => false) && cover ops n (listed.setIfInBounds i true) (tailsOf i ords)
theorem cover_ne {ops : Array Oper} : ∀ {n : Nat} {listed : Array Bool} {ords : List (List Nat)}, cover ops n listed ords = true → ∃ l, l ∈ ords
  | 0, listed, ords, h => by
    simp only [cover, Bool.and_eq_true] at h
    cases ords with
    | nil => simp [isEmp] at h
    | cons l r => exact ⟨l, List.mem_cons_self⟩
  | n + 1, listed, ords, h => by
    simp only [cover, Bool.and_eq_true, List.all_eq_true] at h
    obtain ⟨h1, h2⟩ := h
    cases hr : Region.ready .any ops listed with
    | nil => rw [hr] at h1; simp [isEmp] at h1
    | cons i t =>
      obtain ⟨_, h3⟩ := h2 i (by rw [hr]; exact List.mem_cons_self)
      obtain ⟨l, hl⟩ := cover_ne h3
      exact ⟨_, tailsOf_mem hl⟩
theorem pickOps_cons {l : List Oper} {i : Nat} {o : Oper} {r : List Nat} (h : l[i]? = some o) : pickOps l (i :: r) = o :: pickOps l r := by
  simp only [pickOps, nth_eq, h]

theorem coverY_sound {P : Program} {A : OrcK} (hA : OrcOk P A.plain) {C : YC} (hC : YCok P C) {lo : Nat} {F0 : Forb} {ρ0 : List Nat} {H0 : Heap} {w0 : World} (hlo : lo ≤ w0.heap.size) (hv : C.vw = [] ∨ F0.l = []) {γ : Type} {ops : Array Oper} {Q : Exit → Act → World → Prop} {k : SX → Option γ} {r : γ}
    (hk : ∀ x a w, k x = some r → RelY lo F0 ρ0 H0 w0 x a w → Q .normal a w) : ∀ (n : Nat) (listed : Array Bool) (ords : List (List Nat)) (x : SX) (a : Act) (w : World), cover ops n listed ords = true →
      (∀ l ∈ ords, runOpsY P A C ops k (pickOps ops.toList l) x = some r) → RelY lo F0 ρ0 H0 w0 x a w → wpAny P .any ops Q n listed a w
  | 0, listed, ords, x, a, w, hc, hr, hs => by
    obtain ⟨l, hl⟩ := cover_ne hc
    simp only [cover, Bool.and_eq_true, List.all_eq_true] at hc
    obtain ⟨h1, _, h3⟩ := hc
    have hl0 : l = [] := by have := h3 l hl; cases l <;> simp [isEmp] at this ⊢
    subst hl0
    refine ⟨?_, hk x a w (hr _ hl) hs⟩
    cases hrd : Region.ready .any ops listed with
    | nil => rfl
    | cons i t => rw [hrd] at h1; simp [isEmp] at h1
  | n + 1, listed, ords, x, a, w, hc, hr, hs => by
    simp only [cover, Bool.and_eq_true, List.all_eq_true] at hc
    obtain ⟨h1, h2⟩ := hc
    refine ⟨fun h0 => (by rw [h0] at h1; simp [isEmp] at h1), fun i hi => ?_⟩
    obtain ⟨h3, h4⟩ := h2 i hi
    cases ho : ops[i]? with
    | none => rw [ho] at h3; cases h3
    | some o =>
      obtain ⟨l0, hl0⟩ := cover_ne h4
      have step : ∀ l ∈ tailsOf i ords, ∃ x1, StepY P A C ops o x x1 ∧ runOpsY P A C ops k (pickOps ops.toList l) x1 = some r := fun l hl => by
        have := hr _ (tailsOf_mem hl)
        rw [pickOps_cons (by rw [Array.getElem?_toList]; exact ho)] at this
        exact runOpsY_cons this
      obtain ⟨x1, hx1, _⟩ := step l0 hl0
      unfold wpOp
      rw [ho]
      refine stepY_sound hA hC hlo hv hx1 hs fun a' w' hs' => coverY_sound hA hC hlo hv hk n _ _ x1 a' w' h4 (fun l hl => ?_) hs'
      obtain ⟨x2, hx2, h5⟩ := step l hl
      rw [hx1.det hx2]
      exact h5

open Classical in
/-- Two that come to the same. -/
noncomputable def same.sv {γ : Type} (a b : Option γ) : Option γ := if a = b then a else none
theorem same_rfl {γ : Type} (a : Option γ) : same.sv a a = a := by simp [same.sv]
theorem same_some {γ : Type} {a b : Option γ} {r : γ} (h : same.sv a b = some r) : a = some r ∧ b = some r := by
  unfold same.sv at h
  split at h
  · rename_i e; exact ⟨h, e ▸ h⟩
  · cases h
noncomputable def ordsY {γ : Type} (P : Program) (A : OrcK) (C : YC) (ops : Array Oper) (k : SX → Option γ) (x : SX) : List Nat → List (List Nat) → Option γ
  | l, [] => runOpsY P A C ops k (pickOps ops.toList l) x
  | l, l2 :: r => same.sv (runOpsY P A C ops k (pickOps ops.toList l) x) (ordsY P A C ops k x l2 r)
theorem ordsY_all {γ : Type} {P : Program} {A : OrcK} {C : YC} {ops : Array Oper} {k : SX → Option γ} {x : SX} {v : γ} : ∀ {l : List Nat} {r : List (List Nat)}, ordsY P A C ops k x l r = some v → ∀ t ∈ l :: r, runOpsY P A C ops k (pickOps ops.toList t) x = some v
  | l, [], h, t, ht => by simp only [List.mem_singleton] at ht; subst ht; exact h
  | l, l2 :: r, h, t, ht => by
    obtain ⟨h1, h2⟩ := same_some (a := runOpsY P A C ops k (pickOps ops.toList l) x) (b := ordsY P A C ops k x l2 r) h
    rcases List.mem_cons.1 ht with rfl | ht
    · exact h1
    · exact ordsY_all h2 t ht

/-! ### Heads -/

/-- The slots that are kept, the blocks that are (so many from the first on, and those to which slots point), and those that hold slices that are held. -/
structure HeadY where
  keep : List Nat
  j : Nat
  ss : List Nat
  rb : List Nat
def ptrsOf (t : List AVal) : List Nat → List Nat
  | [] => []
  | i :: r => match nth t i with
    | some (.ptr l _ _) => l :: ptrsOf t r
    | _ => ptrsOf t r
def allBun.sp (vs : List AVal) : Bool := vs.all isBun
theorem allBun_re {vs : List AVal} (h : allBun.sp vs = true) (ks : List Nat) (H : Heap) : AVal.re.res ks H vs = vs := by
  rw [res_eq]
  unfold allBun.sp at h
  rw [List.all_eq_true] at h
  refine (List.map_congr_left fun v hv => ?_).trans (List.map_id vs)
  have := h v hv
  cases v <;> simp [isBun] at this
  rfl
theorem allBun_in {vs : List AVal} (h : allBun.sp vs = true) (n : Nat) : AVal.inR.inRs n vs = true := by
  unfold allBun.sp at h
  induction vs with
  | nil => rfl
  | cons v r ih =>
    simp only [List.all_cons, Bool.and_eq_true] at h
    simp only [AVal.inR.inRs, Bool.and_eq_true]
    refine ⟨?_, ih h.2⟩
    have := h.1
    cases v <;> simp [isBun] at this
    rfl
theorem allBun_bunsB : ∀ (i : Nat) (rs : List (List Int)), allBun.sp (bunsB.sv i rs) = true
  | _, [] => rfl
  | i, r :: t => by
    have := allBun_bunsB (i + 1) t
    simp only [allBun.sp] at this ⊢
    simp only [bunsB.sv, List.all_cons, isBun, this, Bool.and_true]
theorem allBun_app (a b : List AVal) : allBun.sp (a ++ b) = (allBun.sp a && allBun.sp b) := by simp [allBun.sp]
def chkB (H : Heap) : List Nat → Bool
  | [] => true
  | k :: r => (match nth H k with
    | some ⟨.cells vs, _⟩ => allBun.sp vs
    | _ => true) && chkB H r
def reBY (rb : List Nat) (ks : List Nat) (H : Heap) : List Nat → List Blk
  | [] => []
  | k :: r => match nth H k with
    | some ⟨.cells vs, ver⟩ => ⟨.cells (bif hasN rb k then vs else AVal.re.res ks H vs), ver⟩ :: reBY rb ks H r
    | some b => b :: reBY rb ks H r
    | none => ⟨.cells [], 0⟩ :: reBY rb ks H r
theorem chkB_get {H : Heap} : ∀ {rb : List Nat}, chkB H rb = true → ∀ (k : Nat) (vs : List AVal) (ver : Nat), hasN rb k = true → H[k]? = some ⟨.cells vs, ver⟩ → allBun.sp vs = true
  | [], _, k, vs, ver, h, _ => by cases h
  | j :: r, hc, k, vs, ver, h, hk => by
    simp only [chkB, Bool.and_eq_true] at hc
    simp only [hasN, eqN_eq] at h
    cases hb : k == j with
    | true =>
      have : k = j := by simpa using hb
      subst this
      have h1 := hc.1
      simp only [nth_eq, hk] at h1
      exact h1
    | false => rw [hb, cond_false] at h; exact chkB_get hc.2 k vs ver h hk
theorem reBY_eq {rb ks : List Nat} {H : Heap} (hc : chkB H rb = true) : ∀ r, reBY rb ks H r = reB ks H r
  | [] => rfl
  | k :: r => by
    simp only [reBY, reB]
    rw [reBY_eq hc r]
    cases hk : nth H k with
    | none => rfl
    | some b =>
      obtain ⟨c, ver⟩ := b
      cases c with
      | typ c => rfl
      | cells vs =>
        simp only [BC.re]
        cases hr : hasN rb k with
        | true => rw [cond_true, allBun_re (chkB_get hc k vs ver hr (by rw [← nth_eq]; exact hk))]
        | false => rfl
def headKs (hd : HeadY) (x : SX) : List Nat := app (rangeN 0 hd.j) (ptrsOf x.t hd.ss)
def headOf (h0 : Nat) (hd : HeadY) (ks : List Nat) (x : SX) : Option SX :=
  bif nodupB ks then bif allLt (hlen x.h) ks then bif ltN h0 (hd.j + 1) then bif chkB x.h hd.rb then some ⟨AVal.re.res ks x.h (kill hd.keep 0 x.t), reBY hd.rb ks x.h ks, x.m⟩ else none else none else none else none
def headY (h0 : Nat) (hd : HeadY) (x : SX) : Option SX := headOf h0 hd (headKs hd x) x
def normY (h0 : Nat) (hd : HeadY) (e : Exit) (x : SX) : Option SX := match e with
  | .ret => some x
  | _ => headY h0 hd x
theorem FY.re {lo : Nat} {F0 : Forb} {ρ0 : List Nat} {H0 : Heap} {w0 : World} {x : SX} {a : Act} {w : World} {Fb : Forb} {ρ ks : List Nat} (h : FY lo F0 ρ0 H0 w0 x a w Fb ρ) (p : Perm H0.length x.h.length ks) : FY lo F0 ρ0 H0 w0 ⟨AVal.re.res ks x.h x.t, reB ks x.h ks, x.m⟩ a w Fb (reρ ρ ks) := by
  refine ⟨⟨h.soft.len, fun i y B hi b hb => ?_, h.soft.dis⟩, h.grow, @TR.re ρ x.h w ks Fb h.sim p.lt _ _ h.tr, @Sim.re ρ x.h w ks Fb h.sim p.nodup p.lt, @Mv.re ρ x.h w ks Fb _ _ _ h.sim h.mv p, h.df⟩
  obtain ⟨g1, g2, g3, g4⟩ := h.soft.bl i y B hi b hb
  refine ⟨g1, g2, fun hm => ?_, g4⟩
  obtain ⟨j, _, hj⟩ := @reρ_mem ρ x.h w ks Fb h.sim p.lt b hm
  exact g3 (List.mem_of_getElem? hj)
theorem headPerm {h0 n : Nat} {hd : HeadY} {ks t : List Nat} (e : ks = app (rangeN 0 hd.j) t) (h1 : nodupB ks = true) (h2 : allLt n ks = true) (h3 : ltN h0 (hd.j + 1) = true) : Perm h0 n ks := by
  rw [ltN_eq, decide_eq_true_eq] at h3
  refine ⟨nodupB_spec h1, allLt_spec h2, fun i hi _ => ?_⟩
  rw [e, app_eq]
  have hr := rangeN_get hd.j 0 i (by omega)
  rw [List.getElem?_append_left (List.getElem?_eq_some_iff.1 hr).1, hr, Nat.zero_add]
theorem RelY.head {lo : Nat} {F0 : Forb} {ρ0 : List Nat} {H0 : Heap} {w0 : World} {hd : HeadY} {x x1 : SX} {a : Act} {w : World} (hh : headY H0.length hd x = some x1) (h : RelY lo F0 ρ0 H0 w0 x a w) : RelY lo F0 ρ0 H0 w0 x1 a w := by
  unfold headY headOf at hh
  simp only [Bool.cond_eq_ite] at hh
  split at hh
  case isFalse => cases hh
  rename_i h1
  split at hh
  case isFalse => cases hh
  rename_i h2
  split at hh
  case isFalse => cases hh
  rename_i h3
  split at hh
  case isFalse => cases hh
  rename_i h4
  simp only [Option.some.injEq] at hh
  subst hh
  obtain ⟨Fb, ρ, hY⟩ := h
  have hk : FY lo F0 ρ0 H0 w0 ⟨kill hd.keep 0 x.t, x.h, x.m⟩ a w Fb ρ := ⟨hY.soft, hY.grow, @TR.kill Fb _ _ _ _ _ hY.tr _, hY.sim, hY.mv, hY.df⟩
  rw [reBY_eq h4]
  exact ⟨Fb, _, hk.re (headPerm rfl h1 (by rwa [hlen_eq] at h2) h3)⟩
theorem RelY.norm {lo : Nat} {F0 : Forb} {ρ0 : List Nat} {H0 : Heap} {w0 : World} {hd : HeadY} {e : Exit} {x x1 : SX} {a : Act} {w : World} (hh : normY H0.length hd e x = some x1) (h : RelY lo F0 ρ0 H0 w0 x a w) : RelY lo F0 ρ0 H0 w0 x1 a w := by
  unfold normY at hh
  split at hh
  · simp only [Option.some.injEq] at hh; subst hh; exact h
  · exact h.head hh

def headC {γ : Type} (h0 : Nat) (hd : HeadY) (ks : List Nat) (x : SX) (k : SX → Option γ) : Option γ :=
  bif nodupB ks then bif allLt (hlen x.h) ks then bif ltN h0 (hd.j + 1) then bif chkB x.h hd.rb then k ⟨AVal.re.res ks x.h (kill hd.keep 0 x.t), reBY hd.rb ks x.h ks, x.m⟩ else none else none else none else none
theorem headC_some {γ : Type} {h0 : Nat} {hd : HeadY} {x : SX} {k : SX → Option γ} {r : γ} (h : headC h0 hd (headKs hd x) x k = some r) : ∃ x1, headY h0 hd x = some x1 ∧ k x1 = some r := by
  unfold headC at h
  unfold headY headOf
  simp only [Bool.cond_eq_ite] at h ⊢
  split at h
  case isFalse => cases h
  rename_i h1
  rw [if_pos h1]
  split at h
  case isFalse => cases h
  rename_i h2
  rw [if_pos h2]
  split at h
  case isFalse => cases h
  rename_i h3
  rw [if_pos h3]
  split at h
  case isFalse => cases h
  rename_i h4
  rw [if_pos h4]
  exact ⟨_, rfl, h⟩
def normC {γ : Type} (h0 : Nat) (hd : HeadY) (e : Exit) (x : SX) (k : SX → Option γ) : Option γ := match e with
  | .ret => k x
  | _ => headC h0 hd (headKs hd x) x k
theorem normC_some {γ : Type} {h0 : Nat} {hd : HeadY} {e : Exit} {x : SX} {k : SX → Option γ} {r : γ} (h : normC h0 hd e x k = some r) : ∃ x1, normY h0 hd e x = some x1 ∧ k x1 = some r := by
  cases e <;> first | exact ⟨_, rfl, h⟩ | exact headC_some h

/-! ### Bodies -/

def iterY {γ : Type} (nrm : Exit → SX → (SX → Option γ) → Option γ) (rec : SX → Option γ) (k : Exit → SX → Option γ) (e : Exit) (x : SX) : Option γ :=
  nrm e x fun x1 => match e with
    | .normal => rec x1
    | e => k e x1
def YR.loopRun {γ : Type} (body : (Exit → SX → Option γ) → SX → Option γ) (nrm : Exit → SX → (SX → Option γ) → Option γ) (k : Exit → SX → Option γ) : Nat → SX → Option γ
  | 0, _ => none
  | n + 1, x => body (iterY nrm (YR.loopRun body nrm k n) k) x
noncomputable def runY {γ : Type} (P : Program) (A : OrcK) (C : YC) (hd : Nat → HeadY) (dr : Nat → Dr) (en : Nat → List (List Nat)) (h0 fuel : Nat) : Code → Nat → (Exit → SX → Option γ) → SX → Option γ
  | .skip, _, k, x => k .normal x
  | .region id ops d, _, k, x => bif d then (match en id with
    | [] => (dr id).run P A (hlen x.h) ops (fun s => k .normal (sx s x.m)) x.s
    | l :: r => ordsY P A C ops (fun x => k .normal x) x l r) else runOpsY P A C ops (fun x => k .normal x) ops.toList x
  | .seq a b, cur, k, x => runY P A C hd dr en h0 fuel a cur (seqX (fun x => runY P A C hd dr en h0 fuel b cur k x) k) x
  | .cond c a b, cur, k, x => match x.s.ev c with
    | .bool t => bif t then runY P A C hd dr en h0 fuel a cur k x else runY P A C hd dr en h0 fuel b cur k x
    | _ => none
  | .block id b, cur, k, x => runY P A C hd dr en h0 fuel b id (blockX id k) x
  | .loop b, cur, k, x => headC h0 (hd cur) (headKs (hd cur) x) x fun x1 => YR.loopRun (fun k' x' => runY P A C hd dr en h0 fuel b cur k' x') (normC h0 (hd cur)) k fuel x1
  | .exit id, _, k, x => k (.exit id) x
  | .ret, _, k, x => k .ret x
  | _, _, _, _ => none
noncomputable def contY {γ : Type} (P : Program) (A : OrcK) (C : YC) (hd : Nat → HeadY) (dr : Nat → Dr) (en : Nat → List (List Nat)) (h0 fuel : Nat) : Code → Nat → List Bool → (Exit → SX → Option γ) → Exit → SX → Option γ
  | .seq a b, cur, false :: p, k => contY P A C hd dr en h0 fuel a cur p (seqX (fun x => runY P A C hd dr en h0 fuel b cur k x) k)
  | .seq _ b, cur, true :: p, k => contY P A C hd dr en h0 fuel b cur p k
  | .cond _ a _, cur, false :: p, k => contY P A C hd dr en h0 fuel a cur p k
  | .cond _ _ b, cur, true :: p, k => contY P A C hd dr en h0 fuel b cur p k
  | .block id b, _, p, k => contY P A C hd dr en h0 fuel b id p (blockX id k)
  | _, _, _, k => k
noncomputable def loopY {γ : Type} (P : Program) (A : OrcK) (C : YC) (hd : Nat → HeadY) (dr : Nat → Dr) (en : Nat → List (List Nat)) (h0 fuel : Nat) (c : Code) (cur : Nat) (p : List Bool) (k : Exit → SX → Option γ) (n : Nat) (x : SX) : Option γ :=
  YR.loopRun (fun k' x' => runY P A C hd dr en h0 fuel (bodyAt c p) (curAt c cur p) k' x') (normC h0 (hd (curAt c cur p))) (contY P A C hd dr en h0 fuel c cur p k) n x
/-- Are all orders there? -/
def drawChkY (dr : Nat → Dr) (en : Nat → List (List Nat)) : Code → Bool
  | .region id ops d => bif d then (match en id with
    | [] => (dr id).chk ops
    | l :: r => cover ops ops.size (Array.replicate ops.size false) (l :: r)) else true
  | .seq a b => drawChkY dr en a && drawChkY dr en b
  | .cond _ a b => drawChkY dr en a && drawChkY dr en b
  | .block _ b => drawChkY dr en b
  | .loop b => drawChkY dr en b
  | _ => true

theorem loopY_sound {γ : Type} {P : Program} {c : Code} {body : (Exit → SX → Option γ) → SX → Option γ} {hd : HeadY} {lo : Nat} {F0 : Forb} {ρ0 : List Nat} {H0 : Heap} {w0 : World} {r : γ}
    (hb : ∀ (k : Exit → SX → Option γ) (x : SX) (a : Act) (w : World) (Q : Exit → Act → World → Prop), body k x = some r → RelY lo F0 ρ0 H0 w0 x a w → (∀ e x a w, k e x = some r → RelY lo F0 ρ0 H0 w0 x a w → Q e a w) → c.wp P Q a w)
    {k : Exit → SX → Option γ} {Q : Exit → Act → World → Prop} (hQ : ∀ e x a w, k e x = some r → RelY lo F0 ρ0 H0 w0 x a w → Q e a w) :
    ∀ (n : Nat) (x : SX) (a : Act) (w : World), YR.loopRun body (normC H0.length hd) k n x = some r → RelY lo F0 ρ0 H0 w0 x a w → Code.rounds P c Q n a w := by
  intro n
  induction n with
  | zero => intro x a w h; simp [YR.loopRun] at h
  | succ n ih =>
    intro x a w h hs
    simp only [YR.loopRun] at h
    rw [rounds_succ]
    refine hb _ x a w _ h hs fun e x' a' w' hk hs' => ?_
    unfold iterY at hk
    obtain ⟨x1, h1, hk⟩ := normC_some hk
    have hs1 := hs'.norm h1
    cases e <;> first | exact ih x1 a' w' hk hs1 | exact hQ _ _ _ _ hk hs1
theorem runY_sound {γ : Type} {P : Program} (hm : P.follows .mixedOrders = true) {A : OrcK} [hR : OrcRen A] [hL : OrcLoc A] (hA : OrcOk P A.plain) {C : YC} (hC : YCok P C) {hd : Nat → HeadY} {dr : Nat → Dr} {en : Nat → List (List Nat)} {fuel : Nat} {lo : Nat} {F0 : Forb} {ρ0 : List Nat} {H0 : Heap} {w0 : World} (hlo : lo ≤ w0.heap.size) (hv : C.vw = [] ∨ F0.l = []) {r : γ} :
    ∀ (c : Code) (hc : drawChkY dr en c = true) (cur : Nat) (k : Exit → SX → Option γ) (x : SX) (a : Act) (w : World) (Q : Exit → Act → World → Prop), runY P A C hd dr en H0.length fuel c cur k x = some r → RelY lo F0 ρ0 H0 w0 x a w →
      (∀ e x a w, k e x = some r → RelY lo F0 ρ0 H0 w0 x a w → Q e a w) → c.wp P Q a w := by
  intro c
  induction c with
  | skip => intro hc cur k x a w Q h hs hQ; exact wp_skip (hQ _ _ _ _ h hs)
  | region id ops d =>
    intro hc cur k x a w Q h hs hQ
    cases d with
    | true =>
      simp only [runY, cond_true] at h
      simp only [drawChkY, cond_true] at hc
      cases hen : en id with
      | nil =>
        rw [hen] at h hc
        simp only [] at h hc
        obtain ⟨Fb, ρ, hY⟩ := hs
        rw [hlen_eq] at h
        exact @region_sound Fb γ P hm A hR hL hA (dr id) id ops hc (fun s => k .normal (sx s x.m)) r ρ x.s.h w x.s a w Q h hY.st fun s a w h' hs' => hQ .normal (sx s x.m) a w h' (hY.step hs')
      | cons l t =>
        rw [hen] at h hc
        simp only [] at h hc
        refine wp_region_any hm ?_
        obtain ⟨Fb, ρ, hY⟩ := hs
        have hM : Mv ρ x.h w ρ x.h { w with drawn := w.drawn + 1 } := Mv.same ρ x.h rfl rfl rfl rfl
        have hs' : RelY lo F0 ρ0 H0 w0 x a { w with drawn := w.drawn + 1 } := ⟨Fb, ρ, hY.soft.mv hM, hY.grow, @TR.mv Fb _ _ _ _ _ _ hM _ _ hY.tr, @Sim.mvSame Fb _ _ _ _ hY.sim rfl hM, hY.mv.trans hM, hY.df⟩
        exact coverY_sound hA hC hlo hv (fun x a w h' hs' => hQ .normal x a w h' hs') _ _ _ x a _ hc (ordsY_all h) hs'
    | false =>
      simp only [runY, cond_false] at h
      exact wp_region_list (opsY_sound hA hC hlo hv (fun x a w h' hs' => hQ .normal x a w h' hs') ops.toList x a w h hs)
  | seq x y ihx ihy =>
    intro hc cur k s a w Q h hs hQ
    simp only [runY] at h
    simp only [drawChkY, Bool.and_eq_true] at hc
    refine wp_seq (ihx hc.1 cur _ s a w _ h hs fun e s' a' w' hk hs' => ?_)
    cases e <;> first | exact ihy hc.2 cur k s' a' w' Q hk hs' hQ | exact hQ _ _ _ _ hk hs'
  | cond x y z ihy ihz =>
    intro hc cur k s a w Q h hs hQ
    simp only [runY] at h
    simp only [drawChkY, Bool.and_eq_true] at hc
    obtain ⟨hc1, hc2⟩ := hc
    split at h
    · rename_i t ht
      have hs0 := hs
      obtain ⟨Fb, ρ, hY⟩ := hs
      have hvx := @TR.ev Fb ρ s.s.h w s.s a hY.tr x
      rw [ht] at hvx
      generalize hcv : a.eval x = cv at hvx
      cases hvx
      refine wp_cond (t := t) hcv ?_
      cases t
      · exact ihz hc2 cur k s a w Q h hs0 hQ
      · exact ihy hc1 cur k s a w Q h hs0 hQ
    · cases h
  | block id b ih =>
    intro hc cur k s a w Q h hs hQ
    simp only [runY] at h
    simp only [drawChkY] at hc
    refine wp_block (ih hc id _ s a w _ h hs fun e s' a' w' hk hs' => ?_)
    cases e with
    | exit j =>
      simp only [Exit.inBlock]
      simp only [blockX, eqN_eq, Bool.cond_eq_ite, beq_iff_eq] at hk
      split
      · rename_i e; rw [if_pos e] at hk; exact hQ _ _ _ _ hk hs'
      · rename_i e; rw [if_neg e] at hk; exact hQ _ _ _ _ hk hs'
    | _ => exact hQ _ _ _ _ hk hs'
  | loop b ih =>
    intro hc cur k s a w Q h hs hQ
    simp only [runY] at h
    simp only [drawChkY] at hc
    obtain ⟨x1, h1, h⟩ := headC_some h
    exact wp_loop_rounds fuel (loopY_sound (fun k s a w Q h hs hQ => ih hc cur k s a w Q h hs hQ) hQ fuel _ a w h (hs.head h1))
  | rangeFunc => intro hc cur k s a w Q h; simp [runY] at h
  | exit id => intro hc cur k s a w Q h hs hQ; exact wp_exit (hQ _ _ _ _ h hs)
  | scope => intro hc cur k s a w Q h; simp [runY] at h
  | label => intro hc cur k s a w Q h; simp [runY] at h
  | goto => intro hc cur k s a w Q h; simp [runY] at h
  | ret => intro hc cur k s a w Q h hs hQ; exact wp_ret (hQ _ _ _ _ h hs)
  | refuse => intro hc cur k s a w Q h; simp [runY] at h

/-! ### Calls -/

/-- What comes back: the value, the heap, how many slices are held. -/
def endY (h0 : Nat) (cut : HeadY) (ks : List Nat) (v : AVal) (x : SX) : Option (AVal × Heap × Nat) :=
  bif nodupB ks then bif allLt (hlen x.h) ks then bif ltN h0 (cut.j + 1) then bif chkB x.h cut.rb then some (v.re ks x.h, reBY cut.rb ks x.h ks, x.m) else none else none else none else none
def retC.y (P : Program) (ts : List ResultVar) (h0 : Nat) (cut : HeadY) (x : SX) : Option (AVal × Heap × Nat) :=
  match retVal P ts x.s with
  | some (b, v) => bif b then endY h0 cut (rangeN 0 cut.j) v x else none
  | none => none
def retY (P : Program) (ts : List ResultVar) (h0 : Nat) (cut : HeadY) (e : Exit) (x : SX) : Option (AVal × Heap × Nat) :=
  match e with
  | .normal => retC.y P ts h0 cut x
  | .ret => retC.y P ts h0 cut x
  | _ => none
noncomputable def runFnY (P : Program) (A : OrcK) (C : YC) (hd : Nat → HeadY) (dr : Nat → Dr) (en : Nat → List (List Nat)) (cut : HeadY) (fuel : Nat) (body : Code) (n : Nat) (ts : List ResultVar) (args : List AVal) (H : Heap) (m : Nat) : Option (AVal × Heap × Nat) :=
  runY P A C hd dr en (hlen H) fuel body 0 (retY P ts (hlen H) cut) (startX n args H m)

theorem fnY_sound {P : Program} (hm : P.follows .mixedOrders = true) {A : OrcK} [hR : OrcRen A] [hL : OrcLoc A] (hA : OrcOk P A.plain) {C : YC} (hC : YCok P C) {hd : Nat → HeadY} {dr : Nat → Dr} {en : Nat → List (List Nat)} {cut : HeadY} {fuel : Nat} {f : FuncId} {fn : Func} {n : Nat} {ts : List ResultVar}
    (hf : P.funcs[f]? = some fn) (hbn : fn.body.isNone = false) (hn : fn.ntmps = n) (hr : fn.results = ts.toArray) (hc : drawChkY dr en (bodyOf fn) = true) {args : List AVal} {H H' : Heap} {m m' : Nat} {v : AVal}
    (h : runFnY P A C hd dr en cut fuel (bodyOf fn) n ts args H m = some (v, H', m')) {lo : Nat} {w : World} {cargs : Array Value} {Fb : Forb} {ρ : List Nat} (hlo : lo ≤ w.heap.size) (hv : C.vw = [] ∨ Fb.l = []) (So : Soft lo Fb ρ m w) (S : @Sim Fb ρ H w) (hargs : @VRs Fb ρ H w args cargs.toList) :
    Calls P f cargs w fun e w' => ∃ c, e = .returned c ∧ ∃ (F1 : Forb) (ρ1 : List Nat), Soft lo F1 ρ1 m' w' ∧ Grow Fb F1 ∧ @VR F1 ρ1 H' w' v c ∧ @Sim F1 ρ1 H' w' ∧ Mv ρ H w ρ1 H' w' := by
  have hb : fn.body = some (bodyOf fn) := by unfold bodyOf; cases hfb : fn.body <;> simp [hfb] at hbn ⊢
  unfold runFnY at h
  rw [hlen_eq] at h
  refine calls_of_wp hf hb (runY_sound (lo := lo) (F0 := Fb) (ρ0 := ρ) (H0 := H) (w0 := w) hm hA hC hlo hv (bodyOf fn) hc 0 (retY P ts H.length cut) (startX n args H m) _ w _ h ?_ ?_)
  · refine ⟨Fb, ρ, So, Grow.rfl' _, ?_, S, Mv.refl _ _ _, rfl⟩
    have hl := hargs.1
    simp only [Array.length_toList] at hl
    refine ⟨by simp [startX, SX.s, pad_eq, hl, hn], fun i u hu => ?_⟩
    simp only [startX, SX.s, pad_eq] at hu
    by_cases hi : i < args.length
    · rw [List.getElem?_append_left hi] at hu
      have hi' : i < cargs.size := by omega
      have := hargs.2 i u cargs[i] hu (by simp [hi'])
      show @VR Fb ρ H w u _
      simpa [Array.getD_eq_getD_getElem?, Array.getElem?_append_left hi', hi'] using this
    · rw [List.getElem?_append_right (by omega), List.getElem?_replicate] at hu
      split at hu
      · simp only [Option.some.injEq] at hu; subst hu
        have : (cargs ++ Array.replicate (fn.ntmps - cargs.size) Go.undef).getD i Go.undef = Go.undef := by
          simp only [Array.getD_eq_getD_getElem?]
          rw [Array.getElem?_append_right (by omega), Array.getElem?_replicate]
          split <;> rfl
        rw [this]; exact @VR.undef Fb ρ H w
      · cases hu
  · intro e x a w' hk hs
    obtain ⟨F2, ρ', hY⟩ := hs
    have hfin : retC.y P ts H.length cut x = some (v, H', m') → ∃ c, (results fn a.tmps).run P w' = .ok c w' ∧ ∃ (F1 : Forb) (ρ1 : List Nat), Soft lo F1 ρ1 m' w' ∧ Grow Fb F1 ∧ @VR F1 ρ1 H' w' v c ∧ @Sim F1 ρ1 H' w' ∧ Mv ρ H w ρ1 H' w' := by
      intro hk'
      unfold retC.y at hk'
      split at hk'
      case h_2 => cases hk'
      rename_i b u hu
      cases b with
      | false => cases hk'
      | true =>
        rw [cond_true] at hk'
        unfold endY at hk'
        simp only [Bool.cond_eq_ite] at hk'
        split at hk'
        case isFalse => cases hk'
        rename_i h1
        split at hk'
        case isFalse => cases hk'
        rename_i h2
        split at hk'
        case isFalse => cases hk'
        rename_i h3
        split at hk'
        case isFalse => cases hk'
        rename_i h4
        simp only [Option.some.injEq, Prod.mk.injEq] at hk'
        obtain ⟨rfl, rfl, rfl⟩ := hk'
        obtain ⟨c, hrun, hval⟩ := @run_results F2 P fn ts hr ρ' x.s w' a hY.tr hY.sim _ hu
        have p : Perm H.length x.h.length (rangeN 0 cut.j) := headPerm (hd := cut) (t := []) (by rw [app_eq, List.append_nil]) h1 (by rwa [hlen_eq] at h2) h3
        have hZ := hY.re p
        rw [reBY_eq h4]
        exact ⟨c, hrun, F2, _, hZ.soft, hZ.grow, @VR.re ρ' x.h w' _ F2 hY.sim p.lt _ _ hval, hZ.sim, hZ.mv⟩
    cases e with
    | normal => obtain ⟨c, c1, c2⟩ := hfin hk; exact ⟨hY.df, c, c1, c, rfl, c2⟩
    | ret => obtain ⟨c, c1, c2⟩ := hfin hk; exact ⟨hY.df, c, c1, c, rfl, c2⟩
    | _ => simp only [retY, reduceCtorEq] at hk

end Go.Proofs.Ythecninmmojkgaa.Ab
