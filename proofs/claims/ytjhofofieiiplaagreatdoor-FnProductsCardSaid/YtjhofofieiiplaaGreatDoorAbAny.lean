/-
  The abstract machine: every order that may be drawn comes to what the one order that is carried out comes to.
-/
import Derived.Test.YtjhofofieiiplaaGreatDoorAbDraw
namespace Go.Proofs.YtjhofofieiiplaaGreatDoor.Ab
open Go
set_option linter.unusedVariables false
set_option linter.unusedSimpArgs false

theorem astepK_zero {P : Program} {A : OrcK} {s : State} {o : Op} (h0 : cls o = 0) {b : Bool} {v : AVal} {h' : Heap} (h : astepK P A s o = some (b, v, h')) :
    h' = s.h ∧ ∀ h1, astepK P A ⟨s.t, h1⟩ o = some (b, v, h1) := by
  have hev : ∀ h, State.ev ⟨s.t, h⟩ = s.ev := fun h => ev_heap s.t h s.h
  obtain ⟨m1, m2⟩ := low_mem (P := P) (A := A) (s := s) (o := o) h0
  unfold astepK at h ⊢
  rw [m1, m2] at h
  split at h
  · rename_i b' v' hp
    simp only [Option.some.injEq, Prod.mk.injEq] at h
    obtain ⟨rfl, rfl, rfl⟩ := h
    exact ⟨rfl, fun h1 => by rw [hev, hp]⟩
  · cases h

theorem opOf_zero {P : Program} {A : OrcK} {ops : Array Oper} {o : Oper} {s : State} (h0 : cls o.op = 0) {v : AVal} {h' : Heap} (h : opOf P A ops o s = some (v, h')) :
    h' = s.h ∧ ∀ h1, opOf P A ops o ⟨s.t, h1⟩ = some (v, h1) := by
  have hy : ∀ {v h'}, opY P A o.op s = some (v, h') → h' = s.h ∧ ∀ h1, opY P A o.op ⟨s.t, h1⟩ = some (v, h1) := by
    intro v h' hh
    unfold opY at hh ⊢
    have hev : ∀ h, State.ev ⟨s.t, h⟩ = s.ev := fun h => ev_heap s.t h s.h
    split at hh
    · split at hh
      · rename_i c a b hop t ht
        simp only [Option.some.injEq, Prod.mk.injEq] at hh
        obtain ⟨rfl, rfl⟩ := hh
        exact ⟨rfl, fun new => by rw [hev, ht]⟩
      · cases hh
    · obtain ⟨u, h1, hs, hh⟩ := thenK_some hh
      simp only [Option.some.injEq, Prod.mk.injEq] at hh
      obtain ⟨rfl, rfl⟩ := hh
      obtain ⟨k1, k2⟩ := astepK_zero h0 hs
      exact ⟨k1, fun new => by rw [k2 new]; rfl⟩
  have no : ∀ {v h'}, some (AVal.undef, s.h) = some (v, h') → h' = s.h ∧ ∀ h1 : Heap, some (AVal.undef, h1) = some (v, h1) := by
    intro v h' hh
    simp only [Option.some.injEq, Prod.mk.injEq] at hh
    obtain ⟨rfl, rfl⟩ := hh
    exact ⟨rfl, fun _ => rfl⟩
  unfold opOf guardY at h ⊢
  generalize o.guard = g at h ⊢
  cases g with
  | none => exact hy h
  | some jw =>
    obtain ⟨j, want⟩ := jw
    simp only [] at h ⊢
    split at h
    · split at h
      · rename_i b _
        cases b <;> cases want <;> simp only [cond_true, cond_false] at h ⊢ <;> first | exact hy h | exact no h
      · exact no h
      · cases h
    · cases h

def isCallV : Op → Bool
  | .call { callee := .value _, .. } => true
  | _ => false
/-- 'full': what is called may write. -/
def clsF (full : Bool) (o : Op) : Nat := bif full && isCallV o then 3 else cls o
def OrcK.pick (A : OrcK) (full : Bool) : OrcK := bif full then A else A.exts

theorem clsF_low {full : Bool} {o : Op} (h : clsF full o ≤ 1) : cls o ≤ 1 := by
  unfold clsF at h
  cases hb : full && isCallV o <;> simp only [hb, cond_true, cond_false] at h <;> omega
theorem clsF_zero {full : Bool} {o : Op} (h : clsF full o = 0) : cls o = 0 := by
  unfold clsF at h
  cases hb : full && isCallV o <;> simp only [hb, cond_true, cond_false] at h <;> omega

theorem acallK_only {A A' : OrcK} {s : State} {o : Op} (h : isCallV o = false) : acallK A s o = acallK A' s o := by
  cases o <;> simp only [acallK]
  case call c =>
    obtain ⟨callee, args, ts⟩ := c
    cases callee <;> simp only []
    simp [isCallV] at h
theorem opOf_only {P : Program} {A A' : OrcK} {ops : Array Oper} {o : Oper} {s : State} (h : isCallV o.op = false) : opOf P A ops o s = opOf P A' ops o s := by
  have : opY P A o.op s = opY P A' o.op s := by
    unfold opY
    split
    · rfl
    · unfold astepK; rw [acallK_only h]
  unfold opOf; rw [this]
theorem opOf_extF {P : Program} {A : OrcK} {full : Bool} {ops : Array Oper} {o : Oper} {s : State} (h0 : clsF full o.op ≤ 2) {v : AVal} {h' : Heap} (h : opOf P (A.pick full) ops o s = some (v, h')) : h' = s.h ∨ ∃ new, h' = app s.h new := by
  unfold clsF at h0
  cases full with
  | false => exact opOf_ext h0 h
  | true =>
    cases hb : isCallV o.op with
    | true => simp [hb] at h0
    | false =>
      simp only [hb, Bool.and_false, cond_false] at h0
      rw [opOf_only (A' := A.exts) hb] at h
      exact opOf_ext h0 h

theorem nth_put {s : State} {h : Heap} {d : Option Tmp} {v : AVal} {t : Nat} (hne : d ≠ some t) : nth (State.put ⟨s.t, h⟩ d v).t t = nth s.t t := by
  cases d with
  | none => rfl
  | some d =>
    have : d ≠ t := fun e => hne (by rw [e])
    simp only [State.put, nth_eq, upd_eq, List.getElem?_set, this, if_false]
theorem put_put {t : List AVal} {h : Heap} {d e : Option Tmp} {v u : AVal} (hne : ∀ x, d = some x → e ≠ some x) : State.put (State.put ⟨t, h⟩ e u) d v = State.put (State.put ⟨t, h⟩ d v) e u := by
  cases d with
  | none => rfl
  | some d =>
    cases e with
    | none => rfl
    | some e =>
      have : d ≠ e := fun h => hne d rfl (by rw [h])
      simp only [State.put, upd_eq]
      rw [List.set_comm _ _ this.symm]
theorem put_h (s : State) (d : Option Tmp) (v : AVal) : (s.put d v).h = s.h := by cases d <;> rfl
theorem put_re (t : List AVal) (h h2 : Heap) (d : Option Tmp) (v : AVal) : (⟨(State.put ⟨t, h⟩ d v).t, h2⟩ : State) = State.put ⟨t, h2⟩ d v := by cases d <;> rfl

theorem stp_comm {P : Program} {A : OrcK} {full : Bool} {ops : Array Oper} {oi oj : Oper} {s s' s'' : State} (hap : oi.apart ops oj = true)
    (hc : cls oi.op = 0 ∨ (cls oi.op ≤ 1 ∧ clsF full oj.op ≤ 2)) (h1 : Stp P (A.pick full) ops oi s s') (h2 : Stp P (A.pick full) ops oj s' s'') :
    ∃ s1, Stp P (A.pick full) ops oj s s1 ∧ Stp P (A.pick full) ops oi s1 s'' := by
  obtain ⟨a1, a2, a3⟩ := Oper.apart_spec hap
  obtain ⟨v, hi, e1, rfl⟩ := stp_iff.1 h1
  obtain ⟨u, hj, e2, rfl⟩ := stp_iff.1 h2
  have hlow : cls oi.op ≤ 1 := by rcases hc with h | h <;> omega
  obtain ⟨rfl, hl⟩ := opOf_low hlow e1
  rw [opOf_congr (s' := s) (fun t ht => nth_put fun hd => a1 t hd ht) (put_h _ _ _)] at e2
  refine ⟨State.put ⟨s.t, hj⟩ oj.dst u, stp_iff.2 ⟨u, hj, e2, rfl⟩, stp_iff.2 ⟨v, hj, ?_, ?_⟩⟩
  · rw [opOf_congr (s' := ⟨s.t, hj⟩) (fun t ht => nth_put (s := s) fun hd => a3 t hd ht) (put_h _ _ _)]
    rcases hc with h | ⟨_, h⟩
    · exact (opOf_zero h e1).2 hj
    · rcases opOf_extF h e2 with rfl | ⟨new, rfl⟩
      · exact e1
      · exact hl new
  · rw [put_re, put_re]
    exact (put_put fun x hx => a2 x hx).symm

/-! ### Any order -/

def AnyA (P : Program) (A : OrcK) (ops : Array Oper) (F : State → Prop) : Nat → Array Bool → State → Prop
  | 0, listed, s => Region.ready .any ops listed = [] ∧ F s
  | n + 1, listed, s => (Region.ready .any ops listed = [] → F s) ∧
    ∀ i ∈ Region.ready .any ops listed, ∃ o s', ops[i]? = some o ∧ Stp P A ops o s s' ∧ AnyA P A ops F n (listed.setIfInBounds i true) s'

theorem AnyA.sound [Fb : Forb] {P : Program} {A : OrcK} (hA : OrcOk P A.plain) {ops : Array Oper} {ρ0 : List Nat} {H0 : Heap} {w0 : World} {Q : Exit → Act → World → Prop} {F : State → Prop}
    (hQ : ∀ s a w, F s → St ρ0 H0 w0 s a w → Q .normal a w) : ∀ (n : Nat) (listed : Array Bool) (s : State) (a : Act) (w : World), AnyA P A ops F n listed s → St ρ0 H0 w0 s a w → wpAny P .any ops Q n listed a w
  | 0, listed, s, a, w, h, hs => ⟨h.1, hQ s a w h.2 hs⟩
  | n + 1, listed, s, a, w, h, hs => by
    refine ⟨fun h0 => hQ s a w (h.1 h0) hs, fun i hi => ?_⟩
    obtain ⟨o, s', ho, h1, h2⟩ := h.2 i hi
    unfold wpOp
    rw [ho]
    exact stp_sound hA h1 hs fun a' w' hs' => AnyA.sound hA hQ n _ s' a' w' h2 hs'

/-- 'B': those that cannot be taken before 'i'. -/
theorem AnyA.first {P : Program} {A : OrcK} {full : Bool} {ops : Array Oper} {F : State → Prop} {i : Nat} {oi : Oper} {B : Nat → Bool} (hi : ops[i]? = some oi) (hl : cls oi.op ≤ 1)
    (hB : ∀ j oj, ops[j]? = some oj → B j = true → ∃ e ∈ oj.after, Region.binds .any e = true ∧ (e.on = i ∨ B e.on = true)) :
    ∀ (fuel : Nat) (listed : Array Bool) (s s' : State), (∀ j, B j = true → listed.getD j true = false) →
      (∀ j oj, ops[j]? = some oj → j ≠ i → listed.getD j true = false → B j = false → oi.apart ops oj = true ∧ (cls oi.op = 0 ∨ clsF full oj.op ≤ 2)) →
      i ∈ Region.ready .any ops listed → Stp P (A.pick full) ops oi s s' → AnyA P (A.pick full) ops F fuel (listed.setIfInBounds i true) s' → AnyA P (A.pick full) ops F (fuel + 1) listed s := by
  intro fuel
  induction fuel with
  | zero =>
    intro listed s s' _ _ hr hy H
    refine ⟨fun h => (by rw [h] at hr; cases hr), fun j hj => ?_⟩
    by_cases hji : j = i
    · subst hji; exact ⟨oi, s', hi, hy, H⟩
    · have := ready_mono hj hji
      rw [H.1] at this
      cases this
  | succ fuel ih =>
    intro listed s s' hbun hfree hr hy H
    refine ⟨fun h => (by rw [h] at hr; cases hr), fun j hj => ?_⟩
    by_cases hji : j = i
    · subst hji; exact ⟨oi, s', hi, hy, H⟩
    · obtain ⟨oj, s'', hoj', h1, h3⟩ := H.2 j (ready_mono hj hji)
      obtain ⟨hjun, oj', hoj, hall⟩ := mem_ready.1 hj
      rw [hoj] at hoj'
      simp only [Option.some.injEq] at hoj'; subst hoj'
      have listedOn : ∀ {x : Nat}, (listed.getD x false = true) → listed.getD x true = false → False := fun {x} h1 h0 => by
        rcases Nat.lt_or_ge x listed.size with h' | h'
        · simp [h'] at h0 h1; rw [h0] at h1; cases h1
        · simp [Array.getElem?_eq_none h'] at h1
      have hBj : B j = false := by
        cases hb : B j with
        | false => rfl
        | true =>
          obtain ⟨e, he, hbind, hon⟩ := hB j oj' hoj hb
          have h1 := hall e he hbind
          rcases hon with heq | hBe
          · rw [heq] at h1
            exact (listedOn h1 (mem_ready.1 hr).1).elim
          · exact (listedOn h1 (hbun _ hBe)).elim
      obtain ⟨hap, hcl⟩ := hfree j oj' hoj hji hjun hBj
      obtain ⟨s1, c1, c2⟩ := stp_comm hap (hcl.imp id fun h => ⟨hl, h⟩) hy h1
      have hbun' : ∀ k, B k = true → (listed.setIfInBounds j true).getD k true = false := fun k hk => by
        have hjk : j ≠ k := fun e => by subst e; rw [hBj] at hk; cases hk
        rw [getD_set_ne true hjk]; exact hbun k hk
      have hfree' : ∀ k ok, ops[k]? = some ok → k ≠ i → (listed.setIfInBounds j true).getD k true = false → B k = false →
          oi.apart ops ok = true ∧ (cls oi.op = 0 ∨ clsF full ok.op ≤ 2) := fun k ok hk hki hun hno => by
        refine hfree k ok hk hki ?_ hno
        by_cases hjk : j = k
        · subst hjk; exact hjun
        · rw [getD_set_ne true hjk] at hun; exact hun
      refine ⟨oj', s1, hoj, c1, ih _ s1 s'' hbun' hfree' (ready_mono hr (Ne.symm hji)) c2 ?_⟩
      rw [Array.setIfInBounds_comm _ _ hji]
      exact h3

/-! ### The check -/

/-- Those that have to wait for 'i'. -/
def behind (ops : Array Oper) (listed : Array Bool) (i : Nat) : List Nat :=
  (List.range ops.size).foldl (fun L j => bif !(listed.getD j true) && (match ops[j]? with
    | some oj => oj.after.any fun e => Region.binds .any e && (e.on == i || L.contains e.on)
    | none => false) then j :: L else L) []
/-- May this one be taken now, whatever else may? -/
def freeIn (full : Bool) (ops : Array Oper) (listed : Array Bool) (i : Nat) (oi : Oper) (L : List Nat) : Bool :=
  Nat.ble (cls oi.op) 1 && ((List.range ops.size).all fun j => j == i || listed.getD j true || match ops[j]? with
    | some oj => L.contains j || (oi.apart ops oj && (cls oi.op == 0 || Nat.ble (clsF full oj.op) 2))
    | none => true) && L.all fun j => !(listed.getD j true) && match ops[j]? with
    | some oj => oj.after.any fun e => Region.binds .any e && (e.on == i || L.contains e.on)
    | none => true
def freeOf (full : Bool) (ops : Array Oper) (listed : Array Bool) (i : Nat) (oi : Oper) : Bool := freeIn full ops listed i oi (behind ops listed i)
def chkGo (full : Bool) (ops : Array Oper) : List Nat → Array Bool → Bool
  | [], listed => (Region.ready .any ops listed).isEmpty
  | i :: r, listed => match ops[i]? with
    | none => false
    | some o => ((Region.ready .any ops listed == [i]) || ((Region.ready .any ops listed).contains i && freeOf full ops listed i o)) && chkGo full ops r (listed.setIfInBounds i true)
def chk (full : Bool) (ops : Array Oper) (l : List Nat) : Bool := l.length == ops.size && chkGo full ops l (Array.replicate ops.size false)

def pickOps (l : List Oper) : List Nat → List Oper
  | [] => []
  | i :: r => match nth l i with
    | some o => o :: pickOps l r
    | none => pickOps l r

theorem freeOf_spec {full : Bool} {ops : Array Oper} {listed : Array Bool} {i : Nat} {oi : Oper} (h : freeOf full ops listed i oi = true) : ∃ B : Nat → Bool, cls oi.op ≤ 1 ∧
    (∀ j oj, ops[j]? = some oj → B j = true → ∃ e ∈ oj.after, Region.binds .any e = true ∧ (e.on = i ∨ B e.on = true)) ∧ (∀ j, B j = true → listed.getD j true = false) ∧
    ∀ j oj, ops[j]? = some oj → j ≠ i → listed.getD j true = false → B j = false → oi.apart ops oj = true ∧ (cls oi.op = 0 ∨ clsF full oj.op ≤ 2) := by
  unfold freeOf at h
  generalize behind ops listed i = L at h
  simp only [freeIn, Bool.and_eq_true, Nat.ble_eq, List.all_eq_true, List.mem_range] at h
  obtain ⟨⟨h1, h2⟩, h3⟩ := h
  refine ⟨L.contains, h1, fun j oj hj hb => ?_, fun j hb => ?_, fun j oj hj hne hun hno => ?_⟩
  · have := (h3 j (by simpa using hb)).2
    simp only [hj] at this
    obtain ⟨e, he, hx⟩ := Array.any_eq_true'.1 this
    simp only [Bool.and_eq_true, Bool.or_eq_true, beq_iff_eq] at hx
    exact ⟨e, he, hx.1, hx.2⟩
  · have := (h3 j (by simpa using hb)).1
    simpa using this
  · have := h2 j (Array.getElem?_eq_some_iff.1 hj).1
    simp only [hj, Bool.or_eq_true, beq_iff_eq, hne, false_or, hun, hno, Bool.false_eq_true] at this
    simpa only [Bool.and_eq_true, Bool.or_eq_true, beq_iff_eq, Nat.ble_eq] using this

theorem anyA_go {γ : Type} {P : Program} {A : OrcK} {full : Bool} {ops : Array Oper} {k : State → Option γ} {r : γ} :
    ∀ (l : List Nat) (listed : Array Bool) (s : State), chkGo full ops l listed = true → runOps P (A.pick full) ops k (pickOps ops.toList l) s = some r → AnyA P (A.pick full) ops (fun s => k s = some r) l.length listed s
  | [], listed, s, hc, h => ⟨by simpa [chkGo] using hc, h⟩
  | i :: l, listed, s, hc, h => by
    simp only [chkGo] at hc
    split at hc
    · cases hc
    · rename_i o ho
      simp only [Bool.and_eq_true, Bool.or_eq_true, beq_iff_eq] at hc
      have : pickOps ops.toList (i :: l) = o :: pickOps ops.toList l := by
        simp only [pickOps, nth_eq, Array.getElem?_toList, ho]
      rw [this] at h
      obtain ⟨s1, h1, h2⟩ := runOps_cons h
      have hrec := anyA_go l (listed.setIfInBounds i true) s1 hc.2 h2
      rcases hc.1 with he | ⟨hr, hf⟩
      · refine ⟨fun h0 => (by rw [he] at h0; cases h0), fun j hj => ?_⟩
        rw [he] at hj
        simp only [List.mem_singleton] at hj; subst hj
        exact ⟨o, s1, ho, h1, hrec⟩
      · obtain ⟨B, f1, f2, f3, f4⟩ := freeOf_spec hf
        exact AnyA.first ho f1 f2 l.length listed s s1 f3 f4 (by simpa using hr) h1 hrec

end Go.Proofs.YtjhofofieiiplaaGreatDoor.Ab
