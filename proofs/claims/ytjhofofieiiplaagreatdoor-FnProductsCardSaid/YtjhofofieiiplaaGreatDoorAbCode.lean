/-
  The abstract machine: whole bodies.
-/
import Derived.Test.YtjhofofieiiplaaGreatDoorAbSwp
import Derived.Test.YtjhofofieiiplaaGreatDoorAbLend
import Derived.Test.YtjhofofieiiplaaGreatDoorAbZer
namespace Go.Proofs.YtjhofofieiiplaaGreatDoor.Ab
open Go
set_option linter.unusedVariables false
set_option linter.unusedSimpArgs false

/-- At a loop's head all slots but these are forgotten; 'cut': and all blocks but so many beyond those that came in. -/
structure Head where
  keep : List Nat
  cut : Option Nat
def hasN : List Nat → Nat → Bool
  | [], _ => false
  | j :: r, i => bif eqN i j then true else hasN r i
def kill (keep : List Nat) : Nat → List AVal → List AVal
  | _, [] => []
  | i, v :: r => (bif hasN keep i then v else .top) :: kill keep (i + 1) r
def allIn (n : Nat) : List AVal → Bool
  | [] => true
  | v :: r => v.inR n && allIn n r
def blksIn (n : Nat) : Nat → Heap → Bool
  | 0, _ => true
  | _ + 1, [] => true
  | m + 1, b :: r => b.c.inR n && blksIn n m r
def takeN {α : Type} : Nat → List α → List α
  | 0, _ => []
  | _ + 1, [] => []
  | n + 1, a :: r => a :: takeN n r
theorem takeN_eq {α : Type} (n : Nat) (l : List α) : takeN n l = l.take n := by
  induction n generalizing l with
  | zero => simp [takeN]
  | succ n ih => cases l with
    | nil => rfl
    | cons a r => simp [takeN, ih]
/-- The blocks that values lead to, in the order in which they are met. -/
def AVal.reach (H : Heap) (visit : List AVal → List Nat → List Nat) : AVal → List Nat → List Nat
  | .own l _ _ _ _, acc => bif hasN acc l then acc else match nth H l with
    | some ⟨.cells vs, _⟩ => visit vs (snoc acc l)
    | _ => snoc acc l
  | .ptr l _ _, acc => bif hasN acc l then acc else match nth H l with
    | some ⟨.cells vs, _⟩ => visit vs (snoc acc l)
    | _ => snoc acc l
  | .agg vs, acc => reaches H visit vs acc
  | .tup vs, acc => reaches H visit vs acc
  | .fn _ vs, acc => reaches H visit vs acc
  | .rom vs _, acc => reaches H visit vs acc
  | _, acc => acc
  where reaches (H : Heap) (visit : List AVal → List Nat → List Nat) : List AVal → List Nat → List Nat
  | [], acc => acc
  | v :: vs, acc => reaches H visit vs (v.reach H visit acc)
def reachD (H : Heap) : Dep → List AVal → List Nat → List Nat
  | .z, vs, acc => AVal.reach.reaches H (fun _ acc => acc) vs acc
  | .s d, vs, acc => AVal.reach.reaches H (reachD H d) vs acc

/-! ### A load that may come before a call or behind it -/

def skipN {α : Type} : Nat → List α → List α
  | 0, l => l
  | _ + 1, [] => []
  | n + 1, _ :: r => skipN n r
/-- Does the load look at a block that the call does not reach? -/
def disL (s : State) (oi oj : Oper) : Bool := match oi.op with
  | .load _ x => match s.ev x with
    | .ptr l _ _ => ltN l (hlen s.h) && match oj.op with
      | .call { callee := .value f, args, .. } => match s.ev f with
        | .fn _ caps => bif hasN (reachD s.h dep3 (app (mapL s.ev args.toList) caps) []) l then false else true
        | _ => false
      | _ => false
    | _ => false
  | _ => false
/-- Calls leave what they do not reach as it is. -/
class OrcLoc (A : OrcK) : Prop where
  loc : ∀ {f : FuncId} {args : List AVal} {H H' : Heap} {b : Bool} {v : AVal}, A f args H = some (b, v, .full H') → ∀ l, l < H.length → hasN (reachD H dep3 args []) l = false → nth H' l = nth H l
theorem acellK_same {H H' : Heap} {l off ver : Nat} (h : nth H' l = nth H l) (i : Nat) : acellK H' (.ptr l off ver) i = acellK H (.ptr l off ver) i := by simp only [acellK, h]
theorem acellsK_same {H H' : Heap} {l off ver : Nat} (h : nth H' l = nth H l) : ∀ n i, acellsK H' (.ptr l off ver) i n = acellsK H (.ptr l off ver) i n
  | 0, _ => rfl
  | n + 1, i => by simp only [acellsK, acellK_same h, acellsK_same h n]
theorem aloadK_same {P : Program} {H H' : Heap} {t : TypeId} {l off ver : Nat} (h : nth H' l = nth H l) : aloadK P H' t (.ptr l off ver) = aloadK P H t (.ptr l off ver) := by
  simp only [aloadK, acellK_same h, acellsK_same h]
theorem opY_load {P : Program} {A : OrcK} {t : TypeId} {x : Operand} {s : State} : opY P A (.load t x) s = thenK (match aloadK P s.h t (s.ev x) with | some (b, v) => some (b, v, s.h) | none => none) fun v h' => some (v, h') := by
  unfold opY astepK
  cases h : aloadK P s.h t (s.ev x) with
  | none => simp [apureK, apure, amemK, acallK, h]
  | some p => obtain ⟨b, v⟩ := p; simp [apureK, apure, amemK, h]
theorem stp_pair {P : Program} {A : OrcK} (hL : OrcLoc A) {ops : Array Oper} {oi oj : Oper} {s s1 s12 : State} (gi : oi.guard = none) (gj : oj.guard = none) (hap : oi.apart ops oj = true) (hd : disL s oi oj = true)
    (h1 : Stp P A ops oi s s1) (h2 : Stp P A ops oj s1 s12) : ∃ s2, Stp P A ops oj s s2 ∧ Stp P A ops oi s2 s12 := by
  obtain ⟨a1, a2, a3⟩ := Oper.apart_spec hap
  obtain ⟨v, hi, e1, rfl⟩ := stp_iff.1 h1
  obtain ⟨u, hj, e2, rfl⟩ := stp_iff.1 h2
  unfold disL at hd
  split at hd
  case h_2 => cases hd
  rename_i t x hload
  split at hd
  case h_2 => cases hd
  rename_i l off ver hx
  simp only [Bool.and_eq_true, ltN_eq, decide_eq_true_eq, hlen_eq] at hd
  obtain ⟨hlt, hd⟩ := hd
  split at hd
  case h_2 => cases hd
  rename_i f args ts hcall
  split at hd
  case h_2 => cases hd
  rename_i g caps hf
  have hre : hasN (reachD s.h dep3 (app (mapL s.ev args.toList) caps) []) l = false := by
    cases hh : hasN (reachD s.h dep3 (app (mapL s.ev args.toList) caps) []) l with
    | false => rfl
    | true => rw [hh] at hd; cases hd
  have hlow : cls oi.op ≤ 1 := by rw [hload]; simp [cls]
  obtain ⟨rfl, _⟩ := opOf_low hlow e1
  rw [opOf_congr (s' := s) (fun t ht => nth_put fun hd => a1 t hd ht) (put_h _ _ _)] at e2
  have hsame : nth hj l = nth s.h l := by
    unfold opOf guardY at e2
    rw [gj] at e2
    simp only [hcall] at e2
    unfold opY at e2
    simp only [] at e2
    have hst : astepK P A s (.call { callee := .value f, args := args, argTypes := ts }) = match A g (app (mapL s.ev args.toList) caps) s.h with
        | some (b, v, e) => some (b, v, e.heap s.h)
        | none => none := by
      unfold astepK
      simp [apureK, apure, amemK, acallK, hf]
      rfl
    rw [hst] at e2
    cases hA : A g (app (mapL s.ev args.toList) caps) s.h with
    | none => rw [hA] at e2; simp [thenK] at e2
    | some p =>
      obtain ⟨b, v', ef⟩ := p
      rw [hA] at e2
      cases b with
      | false => simp [thenK] at e2
      | true =>
        simp only [thenK, cond_true, Option.some.injEq, Prod.mk.injEq] at e2
        obtain ⟨rfl, rfl⟩ := e2
        cases ef with
        | ext new =>
          cases new with
          | nil => rfl
          | cons b r => simp only [Eff.heap, app_eq, nth_eq]; rw [List.getElem?_append_left hlt]
        | full H' => exact hL.loc hA l hlt hre
  refine ⟨State.put ⟨s.t, hj⟩ oj.dst u, stp_iff.2 ⟨u, hj, e2, rfl⟩, stp_iff.2 ⟨v, hj, ?_, ?_⟩⟩
  · rw [opOf_congr (s' := ⟨s.t, hj⟩) (fun t ht => nth_put (s := s) fun hd => a3 t hd ht) (put_h _ _ _)]
    unfold opOf guardY at e1 ⊢
    rw [gi] at e1 ⊢
    simp only [hload, opY_load] at e1 ⊢
    have hev : State.ev ⟨s.t, hj⟩ x = s.ev x := by cases x <;> rfl
    rw [hev, hx] at *
    simp only [aloadK_same hsame]
    cases hA : aloadK P s.h t (.ptr l off ver) with
    | none => rw [hA] at e1; simp [thenK] at e1
    | some p =>
      obtain ⟨b, v'⟩ := p
      rw [hA] at e1
      cases b with
      | false => simp [thenK] at e1
      | true =>
        simp only [thenK, cond_true, Option.some.injEq, Prod.mk.injEq, and_true] at e1 ⊢
        exact e1
  · rw [put_re, put_re]
    exact (put_put fun x hx => a2 x hx).symm

/-- The load 'i', the call 'j', and nothing else that is ready. -/
def pairOk (ops : Array Oper) (listed : Array Bool) (i j : Nat) (oi oj : Oper) : Bool :=
  (oi.guard.isNone && oj.guard.isNone) && (oi.apart ops oj && ((Region.ready .any ops listed == [i, j] || Region.ready .any ops listed == [j, i]) && (Region.ready .any ops (listed.setIfInBounds i true) == [j] && ((Region.ready .any ops (listed.setIfInBounds j true)).contains i &&
    (!(i == j) && freeOf true ops (listed.setIfInBounds j true) i oi)))))
def chkP (ops : Array Oper) : Nat → List Nat → Array Bool → Bool
  | 0, i :: j :: r, listed => match ops[i]?, ops[j]? with
    | some oi, some oj => pairOk ops listed i j oi oj && chkGo true ops r ((listed.setIfInBounds i true).setIfInBounds j true)
    | _, _ => false
  | k + 1, i :: r, listed => match ops[i]? with
    | none => false
    | some o => ((Region.ready .any ops listed == [i]) || ((Region.ready .any ops listed).contains i && freeOf true ops listed i o)) && chkP ops k r (listed.setIfInBounds i true)
  | _, _, _ => false
def runP {γ : Type} (P : Program) (A : OrcK) (ops : Array Oper) (k : State → Option γ) (n : Nat) (l : List Nat) (s : State) : Option γ := match skipN n l with
  | i :: j :: r => match nth ops.toList i, nth ops.toList j with
    | some oi, some oj => runOps P A ops (fun s => bif disL s oi oj then runOps P A ops k (oi :: oj :: pickOps ops.toList r) s else none) (pickOps ops.toList (takeN n l)) s
    | _, _ => none
  | _ => none
theorem anyA_pair {γ : Type} {P : Program} {A : OrcK} (hL : OrcLoc A) {ops : Array Oper} {k : State → Option γ} {r : γ} :
    ∀ (n : Nat) (l : List Nat) (listed : Array Bool) (s : State), chkP ops n l listed = true → runP P (A.pick true) ops k n l s = some r → AnyA P (A.pick true) ops (fun s => k s = some r) l.length listed s
  | 0, i :: j :: l, listed, s, hc, h => by
    simp only [chkP] at hc
    split at hc
    case h_2 => cases hc
    rename_i oi oj hi hj
    simp only [pairOk, Bool.and_eq_true, Bool.or_eq_true, beq_iff_eq, Option.isNone_iff_eq_none, Bool.not_eq_true', beq_eq_false_iff_ne] at hc
    obtain ⟨⟨⟨gi, gj⟩, hap, hr, hr2, hr3, hne, hf⟩, hgo⟩ := hc
    have ei : nth ops.toList i = some oi := by simp only [nth_eq, Array.getElem?_toList, hi]
    have ej : nth ops.toList j = some oj := by simp only [nth_eq, Array.getElem?_toList, hj]
    simp only [runP, skipN, takeN, ei, ej, pickOps, runOps, Bool.cond_eq_ite] at h
    split at h
    case isFalse => cases h
    rename_i hd
    have h' : runOps P (A.pick true) ops k (oi :: oj :: pickOps ops.toList l) s = some r := h
    obtain ⟨s1, h1, h2⟩ := runOps_cons h'
    obtain ⟨s12, h3, h4⟩ := runOps_cons h2
    have hrec := anyA_go l _ s12 hgo h4
    obtain ⟨s2, c1, c2⟩ := stp_pair (A := A.pick true) hL gi gj hap hd h1 h3
    have hmem : ∀ x, x ∈ Region.ready .any ops listed → x = i ∨ x = j := fun x hx => by
      rcases hr with e | e <;> rw [e] at hx <;> simp only [List.mem_cons, List.not_mem_nil, or_false] at hx <;> omega
    refine ⟨fun h0 => ?_, fun x hx => ?_⟩
    · rcases hr with e | e <;> rw [e] at h0 <;> cases h0
    · rcases hmem x hx with rfl | rfl
      · refine ⟨oi, s1, hi, h1, fun h0 => (by rw [hr2] at h0; cases h0), fun y hy => ?_⟩
        rw [hr2, List.mem_singleton] at hy
        subst hy
        exact ⟨oj, s12, hj, h3, hrec⟩
      · refine ⟨oj, s2, hj, c1, ?_⟩
        obtain ⟨B, f1, f2, f3, f4⟩ := freeOf_spec hf
        refine AnyA.first hi f1 f2 l.length _ s2 s12 f3 f4 (by simpa using hr3) c2 ?_
        rw [Array.setIfInBounds_comm _ _ (Ne.symm hne)]
        exact hrec
  | 0, [], _, _, hc, _ => by simp [chkP] at hc
  | 0, [_], _, _, hc, _ => by simp [chkP] at hc
  | _ + 1, [], _, _, hc, _ => by simp [chkP] at hc
  | n + 1, i :: l, listed, s, hc, h => by
    simp only [chkP] at hc
    split at hc
    · cases hc
    · rename_i o ho
      simp only [Bool.and_eq_true, Bool.or_eq_true, beq_iff_eq] at hc
      have ei : nth ops.toList i = some o := by simp only [nth_eq, Array.getElem?_toList, ho]
      have h' : ∃ s1, Stp P (A.pick true) ops o s s1 ∧ runP P (A.pick true) ops k n l s1 = some r := by
        unfold runP at h ⊢
        simp only [skipN] at h
        split at h
        · rename_i a b q hq
          split at h
          · rename_i oa ob ha hb
            simp only [takeN, pickOps, ei] at h
            obtain ⟨s1, c1, c2⟩ := runOps_cons h
            exact ⟨s1, c1, c2⟩
          · cases h
        · cases h
      obtain ⟨s1, h1, h2⟩ := h'
      have hrec := anyA_pair hL n l (listed.setIfInBounds i true) s1 hc.2 h2
      rcases hc.1 with he | ⟨hr, hf⟩
      · refine ⟨fun h0 => (by rw [he] at h0; cases h0), fun j hj => ?_⟩
        rw [he] at hj
        simp only [List.mem_singleton] at hj; subst hj
        exact ⟨o, s1, ho, h1, hrec⟩
      · obtain ⟨B, f1, f2, f3, f4⟩ := freeOf_spec hf
        exact AnyA.first ho f1 f2 l.length listed s s1 f3 f4 (by simpa using hr) h1 hrec

/-! ### Calls by name that are known not to write -/

/-- The functions of 'l' change nothing that was there. -/
def OrcK.but (A : OrcK) (l : List Nat) : OrcK := fun f args H => bif hasN l f then A.exts f args H else A f args H
def isButV (l : List Nat) : Op → Bool
  | .call { callee := .value (.func f), .. } => hasN l f
  | _ => false
def clsN (l : List Nat) (o : Op) : Nat := bif isCallV o && !(isButV l o) then 3 else cls o
theorem opOf_but {P : Program} {A : OrcK} {nw : List Nat} {ops : Array Oper} {o : Oper} {s : State} (h : isButV nw o.op = true) : opOf P (A.but nw) ops o s = opOf P A.exts ops o s := by
  have hk : acallK (A.but nw) s o.op = acallK A.exts s o.op := by
    unfold isButV at h
    split at h
    · rename_i heq
      rw [heq]
      simp only [acallK, State.ev, OrcK.but, h, cond_true]
    · cases h
  have : opY P (A.but nw) o.op s = opY P A.exts o.op s := by
    unfold opY
    split
    · rfl
    · unfold astepK; rw [hk]
  unfold opOf; rw [this]
theorem opOf_extN {P : Program} {A : OrcK} {nw : List Nat} {ops : Array Oper} {o : Oper} {s : State} (h0 : clsN nw o.op ≤ 2) {v : AVal} {h' : Heap} (h : opOf P (A.but nw) ops o s = some (v, h')) : h' = s.h ∨ ∃ new, h' = app s.h new := by
  unfold clsN at h0
  cases hb : isCallV o.op with
  | true =>
    cases hn : isButV nw o.op with
    | true =>
      simp only [hb, hn, Bool.not_true, Bool.and_false, cond_false] at h0
      rw [opOf_but hn] at h
      exact opOf_ext h0 h
    | false => simp [hb, hn] at h0
  | false =>
    simp only [hb, Bool.false_and, cond_false] at h0
    rw [opOf_only (A' := A.exts) hb] at h
    exact opOf_ext h0 h

theorem stp_commN {P : Program} {A : OrcK} {nw : List Nat} {ops : Array Oper} {oi oj : Oper} {s s' s'' : State} (hap : oi.apart ops oj = true)
    (hc : cls oi.op = 0 ∨ (cls oi.op ≤ 1 ∧ clsN nw oj.op ≤ 2)) (h1 : Stp P (A.but nw) ops oi s s') (h2 : Stp P (A.but nw) ops oj s' s'') :
    ∃ s1, Stp P (A.but nw) ops oj s s1 ∧ Stp P (A.but nw) ops oi s1 s'' := by
  obtain ⟨a1, a2, a3⟩ := Oper.apart_spec hap
  obtain ⟨v, hi, e1, rfl⟩ := stp_iff.1 h1
  obtain ⟨u, hj, e2, rfl⟩ := stp_iff.1 h2
  have hlow : cls oi.op ≤ 1 := by rcases hc with h | h <;> omega
  obtain ⟨rfl, hl⟩ := opOf_low hlow e1
  rw [opOf_congr (s' := s) (fun t ht => nth_put fun hd => a1 t hd ht) (put_h _ _ _)] at e2
  refine ⟨State.put ⟨s.t, hj⟩ oj.dst u, stp_iff.2 ⟨u, hj, e2, rfl⟩, stp_iff.2 ⟨v, hj, ?_, ?_⟩⟩
  · rw [opOf_congr (s' := ⟨s.t, hj⟩) (fun t ht => nth_put (s := s) fun hd => a3 t hd ht) (put_h _ _ _)]
    rcases hc with h | ⟨_, h⟩
    · exact (opOf_zero h e1).2 hj
    · rcases opOf_extN h e2 with rfl | ⟨new, rfl⟩
      · exact e1
      · exact hl new
  · rw [put_re, put_re]
    exact (put_put fun x hx => a2 x hx).symm

/-- 'B': those that cannot be taken before 'i'. -/
theorem AnyA.firstN {P : Program} {A : OrcK} {nw : List Nat} {ops : Array Oper} {F : State → Prop} {i : Nat} {oi : Oper} {B : Nat → Bool} (hi : ops[i]? = some oi) (hl : cls oi.op ≤ 1)
    (hB : ∀ j oj, ops[j]? = some oj → B j = true → ∃ e ∈ oj.after, Region.binds .any e = true ∧ (e.on = i ∨ B e.on = true)) :
    ∀ (fuel : Nat) (listed : Array Bool) (s s' : State), (∀ j, B j = true → listed.getD j true = false) →
      (∀ j oj, ops[j]? = some oj → j ≠ i → listed.getD j true = false → B j = false → oi.apart ops oj = true ∧ (cls oi.op = 0 ∨ clsN nw oj.op ≤ 2)) →
      i ∈ Region.ready .any ops listed → Stp P (A.but nw) ops oi s s' → AnyA P (A.but nw) ops F fuel (listed.setIfInBounds i true) s' → AnyA P (A.but nw) ops F (fuel + 1) listed s := by
  intro fuel
  induction fuel with
  | zero =>
    intro listed s s' _ _ hr hy H
    refine ⟨fun h => (by rw [h] at hr; cases hr), fun j hj => ?_⟩
    by_cases hji : j = i
    · subst hji; exact ⟨oi, s', hi, hy, H⟩
    · have := ready_mono hj hji
      rw [H.1] at this
      cases this
  | succ fuel ih =>
    intro listed s s' hbun hfree hr hy H
    refine ⟨fun h => (by rw [h] at hr; cases hr), fun j hj => ?_⟩
    by_cases hji : j = i
    · subst hji; exact ⟨oi, s', hi, hy, H⟩
    · obtain ⟨oj, s'', hoj', h1, h3⟩ := H.2 j (ready_mono hj hji)
      obtain ⟨hjun, oj', hoj, hall⟩ := mem_ready.1 hj
      rw [hoj] at hoj'
      simp only [Option.some.injEq] at hoj'; subst hoj'
      have listedOn : ∀ {x : Nat}, (listed.getD x false = true) → listed.getD x true = false → False := fun {x} h1 h0 => by
        rcases Nat.lt_or_ge x listed.size with h' | h'
        · simp [h'] at h0 h1; rw [h0] at h1; cases h1
        · simp [Array.getElem?_eq_none h'] at h1
      have hBj : B j = false := by
        cases hb : B j with
        | false => rfl
        | true =>
          obtain ⟨e, he, hbind, hon⟩ := hB j oj' hoj hb
          have h1 := hall e he hbind
          rcases hon with heq | hBe
          · rw [heq] at h1
            exact (listedOn h1 (mem_ready.1 hr).1).elim
          · exact (listedOn h1 (hbun _ hBe)).elim
      obtain ⟨hap, hcl⟩ := hfree j oj' hoj hji hjun hBj
      obtain ⟨s1, c1, c2⟩ := stp_commN hap (hcl.imp id fun h => ⟨hl, h⟩) hy h1
      have hbun' : ∀ k, B k = true → (listed.setIfInBounds j true).getD k true = false := fun k hk => by
        have hjk : j ≠ k := fun e => by subst e; rw [hBj] at hk; cases hk
        rw [getD_set_ne true hjk]; exact hbun k hk
      have hfree' : ∀ k ok, ops[k]? = some ok → k ≠ i → (listed.setIfInBounds j true).getD k true = false → B k = false →
          oi.apart ops ok = true ∧ (cls oi.op = 0 ∨ clsN nw ok.op ≤ 2) := fun k ok hk hki hun hno => by
        refine hfree k ok hk hki ?_ hno
        by_cases hjk : j = k
        · subst hjk; exact hjun
        · rw [getD_set_ne true hjk] at hun; exact hun
      refine ⟨oj', s1, hoj, c1, ih _ s1 s'' hbun' hfree' (ready_mono hr (Ne.symm hji)) c2 ?_⟩
      rw [Array.setIfInBounds_comm _ _ hji]
      exact h3

/-- May this one be taken now, whatever else may? -/
def freeInN (nw : List Nat) (ops : Array Oper) (listed : Array Bool) (i : Nat) (oi : Oper) (L : List Nat) : Bool :=
  Nat.ble (cls oi.op) 1 && ((List.range ops.size).all fun j => j == i || listed.getD j true || match ops[j]? with
    | some oj => L.contains j || (oi.apart ops oj && (cls oi.op == 0 || Nat.ble (clsN nw oj.op) 2))
    | none => true) && L.all fun j => !(listed.getD j true) && match ops[j]? with
    | some oj => oj.after.any fun e => Region.binds .any e && (e.on == i || L.contains e.on)
    | none => true
def freeOfN (nw : List Nat) (ops : Array Oper) (listed : Array Bool) (i : Nat) (oi : Oper) : Bool := freeInN nw ops listed i oi (behind ops listed i)
def chkGoN (nw : List Nat) (ops : Array Oper) : List Nat → Array Bool → Bool
  | [], listed => (Region.ready .any ops listed).isEmpty
  | i :: r, listed => match ops[i]? with
    | none => false
    | some o => ((Region.ready .any ops listed == [i]) || ((Region.ready .any ops listed).contains i && freeOfN nw ops listed i o)) && chkGoN nw ops r (listed.setIfInBounds i true)
def chkN (nw : List Nat) (ops : Array Oper) (l : List Nat) : Bool := l.length == ops.size && chkGoN nw ops l (Array.replicate ops.size false)

theorem freeOf_specN {nw : List Nat} {ops : Array Oper} {listed : Array Bool} {i : Nat} {oi : Oper} (h : freeOfN nw ops listed i oi = true) : ∃ B : Nat → Bool, cls oi.op ≤ 1 ∧
    (∀ j oj, ops[j]? = some oj → B j = true → ∃ e ∈ oj.after, Region.binds .any e = true ∧ (e.on = i ∨ B e.on = true)) ∧ (∀ j, B j = true → listed.getD j true = false) ∧
    ∀ j oj, ops[j]? = some oj → j ≠ i → listed.getD j true = false → B j = false → oi.apart ops oj = true ∧ (cls oi.op = 0 ∨ clsN nw oj.op ≤ 2) := by
  unfold freeOfN at h
  generalize behind ops listed i = L at h
  simp only [freeInN, Bool.and_eq_true, Nat.ble_eq, List.all_eq_true, List.mem_range] at h
  obtain ⟨⟨h1, h2⟩, h3⟩ := h
  refine ⟨L.contains, h1, fun j oj hj hb => ?_, fun j hb => ?_, fun j oj hj hne hun hno => ?_⟩
  · have := (h3 j (by simpa using hb)).2
    simp only [hj] at this
    obtain ⟨e, he, hx⟩ := Array.any_eq_true'.1 this
    simp only [Bool.and_eq_true, Bool.or_eq_true, beq_iff_eq] at hx
    exact ⟨e, he, hx.1, hx.2⟩
  · have := (h3 j (by simpa using hb)).1
    simpa using this
  · have := h2 j (Array.getElem?_eq_some_iff.1 hj).1
    simp only [hj, Bool.or_eq_true, beq_iff_eq, hne, false_or, hun, hno, Bool.false_eq_true] at this
    simpa only [Bool.and_eq_true, Bool.or_eq_true, beq_iff_eq, Nat.ble_eq] using this

theorem anyA_goN {γ : Type} {P : Program} {A : OrcK} {nw : List Nat} {ops : Array Oper} {k : State → Option γ} {r : γ} :
    ∀ (l : List Nat) (listed : Array Bool) (s : State), chkGoN nw ops l listed = true → runOps P (A.but nw) ops k (pickOps ops.toList l) s = some r → AnyA P (A.but nw) ops (fun s => k s = some r) l.length listed s
  | [], listed, s, hc, h => ⟨by simpa [chkGoN] using hc, h⟩
  | i :: l, listed, s, hc, h => by
    simp only [chkGoN] at hc
    split at hc
    · cases hc
    · rename_i o ho
      simp only [Bool.and_eq_true, Bool.or_eq_true, beq_iff_eq] at hc
      have : pickOps ops.toList (i :: l) = o :: pickOps ops.toList l := by
        simp only [pickOps, nth_eq, Array.getElem?_toList, ho]
      rw [this] at h
      obtain ⟨s1, h1, h2⟩ := runOps_cons h
      have hrec := anyA_goN l (listed.setIfInBounds i true) s1 hc.2 h2
      rcases hc.1 with he | ⟨hr, hf⟩
      · refine ⟨fun h0 => (by rw [he] at h0; cases h0), fun j hj => ?_⟩
        rw [he] at hj
        simp only [List.mem_singleton] at hj; subst hj
        exact ⟨o, s1, ho, h1, hrec⟩
      · obtain ⟨B, f1, f2, f3, f4⟩ := freeOf_specN hf
        exact AnyA.firstN ho f1 f2 l.length listed s s1 f3 f4 (by simpa using hr) h1 hrec

/-- A region whose order is drawn is carried out in the order 'ord' (none: as it is written); 'full': what it calls may write. -/
structure Dr where
  ord : Option (List Nat)
  full : Bool
def Dr.std : Nat → Dr := fun _ => ⟨none, false⟩
/-- An order that begins with 996 and a number: behind so many steps there is a load that may come before the call behind it or behind that call. -/
def Dr.pr (d : Dr) : Option (Nat × List Nat) := match d.ord with
  | some (i :: n :: l) => bif d.full then (bif eqN i 996 then some (n, l) else none) else none
  | _ => none
/-- An order that begins with 995 and a function: that function does not write. -/
def Dr.bt (d : Dr) : Option (Nat × List Nat) := match d.ord with
  | some (i :: n :: l) => bif d.full then (bif eqN i 995 then some (n, l) else none) else none
  | _ => none
/-- An order that begins with 999: makers may be taken in any order; with 998: and all loads are of what is only read. -/
def strip : List Nat → List Nat
  | [] => []
  | i :: r => bif eqN i 999 then r else bif eqN i 998 then r else i :: r
def Dr.sw (d : Dr) : Bool := match d.ord with
  | some (i :: _) => bif d.full then false else bif eqN i 999 then true else eqN i 998
  | _ => false
def Dr.st (d : Dr) : Bool := match d.ord with
  | some (i :: _) => eqN i 998
  | _ => false
def Dr.ix (d : Dr) (ops : Array Oper) : List Nat := match d.ord with | some l => strip l | none => List.range ops.size
def Dr.ops (d : Dr) (ops : Array Oper) : List Oper := match d.ord with | some l => pickOps ops.toList (strip l) | none => ops.toList
def Dr.chk (d : Dr) (ops : Array Oper) : Bool := match d.pr with
  | some (n, l) => l.length == ops.size && chkP ops n l (Array.replicate ops.size false)
  | none => match d.bt with
    | some (n, l) => chkN [n] ops l
    | none => bif d.sw then chkI d.st ops (d.ix ops) else Ab.chk d.full ops (d.ix ops)
def Dr.run {γ : Type} (P : Program) (A : OrcK) (h0 : Nat) (d : Dr) (ops : Array Oper) (k : State → Option γ) (s : State) : Option γ := match d.pr with
  | some (n, l) => runP P A ops k n l s
  | none => match d.bt with
    | some (n, l) => runOps P (A.but [n]) ops k (pickOps ops.toList l) s
    | none => bif d.sw then runOpsI P A.exts ops d.st h0 k (d.ops ops) s else runOps P (A.pick d.full) ops k (d.ops ops) s
def drawChk (dr : Nat → Dr) : Code → Bool
  | .region id ops d => bif d then (dr id).chk ops else true
  | .seq a b => drawChk dr a && drawChk dr b
  | .cond _ a b => drawChk dr a && drawChk dr b
  | .block _ b => drawChk dr b
  | .loop b => drawChk dr b
  | _ => true

/-- What the slots lead to is kept, beyond what came in, and numbered anew. -/
def rangeN : Nat → Nat → List Nat
  | _, 0 => []
  | i, n + 1 => i :: rangeN (i + 1) n
def highN (h0 : Nat) : List Nat → List Nat
  | [] => []
  | l :: r => bif ltN l h0 then highN h0 r else l :: highN h0 r
def gcKs (h0 : Nat) (s : State) : List Nat := app (rangeN 0 h0) (highN h0 (reachD s.h dep3 s.t []))
def gcOf (ks : List Nat) (s : State) : Option State := bif nodupB ks then bif allLt (hlen s.h) ks then some (permS ks s) else none else none
def gcS (h0 : Nat) (s : State) : Option State := gcOf (gcKs h0 s) s
def norm0 (h0 : Nat) (hd : Head) (s : State) : Option State :=
  match hd.cut with
  | none => bif hasN hd.keep 998 then gcS h0 ⟨kill hd.keep 0 s.t, s.h⟩ else some ⟨kill hd.keep 0 s.t, s.h⟩
  | some k => bif blksIn (h0 + k) (h0 + k) s.h then some ⟨AVal.lent.lents (h0 + k) s.h (kill hd.keep 0 s.t), takeN (h0 + k) s.h⟩ else none
def norm (h0 : Nat) (hd : Head) (s : State) : Option State :=
  match norm0 h0 hd s with
  | some s1 => some ⟨AVal.zer.zers h0 s1.h s1.t, zerB h0 s1.h 0 s1.h⟩
  | none => none

/-- The last block is laid down, to be read alone. -/
def predN : Nat → Nat
  | 0 => 0
  | n + 1 => n
def backN : Nat → Nat → Nat
  | 0, n => n
  | c + 1, n => predN (backN c n)
/-- The last blocks, so many of them. -/
def layLast (h0 c : Nat) (s : State) : Option State :=
  bif ltN h0 (backN c (hlen s.h) + 1) then bif blksIn (backN c (hlen s.h)) (backN c (hlen s.h)) s.h then some ⟨mapL (AVal.lentD (backN c (hlen s.h)) s.h (.s .z)) s.t, takeN (backN c (hlen s.h)) s.h⟩ else none else none
/-- A region in whose midst, behind so many steps, the last block is laid down. -/
def runOpsL {γ : Type} (P : Program) (A : OrcK) (ops : Array Oper) (h0 c : Nat) (k : State → Option γ) : Nat → List Oper → State → Option γ
  | 0, l, s => match layLast h0 c s with
    | some s1 => runOps P A ops k l s1
    | none => none
  | _ + 1, [], _ => none
  | j + 1, o :: l, s => runOps P A ops (fun s => runOpsL P A ops h0 c k j l s) [o] s
def layAt : Option (List Nat) → Option (Nat × Nat)
  | some (i :: j :: r) => bif eqN i 997 then some (j, match r with | c :: _ => c | [] => 1) else none
  | _ => none

/-- At a round's end. A head whose slots name 999 leaves what returns as it is. -/
def normE (h0 : Nat) (hd : Head) (e : Exit) (s : State) : Option State :=
  match e with
  | .ret => bif hasN hd.keep 999 then some s else norm h0 hd s
  | _ => norm h0 hd s
/-- A round's end: back to the head, or out. -/
def iterK {γ : Type} (nrm : Exit → State → Option State) (rec : State → Option γ) (k : Exit → State → Option γ) (e : Exit) (s : State) : Option γ :=
  match nrm e s with
  | some s1 => match e with
    | .normal => rec s1
    | e => k e s1
  | none => none
def loopRun {γ : Type} (body : (Exit → State → Option γ) → State → Option γ) (nrm : Exit → State → Option State) (k : Exit → State → Option γ) : Nat → State → Option γ
  | 0, _ => none
  | n + 1, s => body (iterK nrm (loopRun body nrm k n) k) s
/-- Behind the first part of a sequence; at a block's end. -/
def seqK {γ : Type} (next : State → Option γ) (k : Exit → State → Option γ) (e : Exit) (s : State) : Option γ :=
  match e with
  | .normal => next s
  | e => k e s
def blockK {γ : Type} (id : Nat) (k : Exit → State → Option γ) (e : Exit) (s : State) : Option γ :=
  match e with
  | .exit j => bif eqN j id then k .normal s else k (.exit j) s
  | e => k e s

def run {γ : Type} (P : Program) (A : OrcK) (hd : Nat → Head) (dr : Nat → Dr) (h0 fuel : Nat) : Code → Nat → (Exit → State → Option γ) → State → Option γ
  | .skip, _, k, s => k .normal s
  | .region id ops d, _, k, s => bif d then (dr id).run P A h0 ops (fun s => k .normal s) s else match layAt (dr id).ord with
    | some (j, c) => runOpsL P A ops h0 c (fun s => k .normal s) j ops.toList s
    | none => runOps P A ops (fun s => k .normal s) ops.toList s
  | .seq a b, cur, k, s => run P A hd dr h0 fuel a cur (seqK (fun s => run P A hd dr h0 fuel b cur k s) k) s
  | .cond c a b, cur, k, s => match s.ev c with
    | .bool t => bif t then run P A hd dr h0 fuel a cur k s else run P A hd dr h0 fuel b cur k s
    | _ => none
  | .block id b, cur, k, s => run P A hd dr h0 fuel b id (blockK id k) s
  | .loop b, cur, k, s => match norm h0 (hd cur) s with
    | some s1 => loopRun (fun k' s' => run P A hd dr h0 fuel b cur k' s') (normE h0 (hd cur)) k fuel s1
    | none => none
  | .exit id, _, k, s => k (.exit id) s
  | .ret, _, k, s => k .ret s
  | _, _, _, _ => none

/-- The body of the loop at a place ('false': the first part, or the branch taken), the block round it, and what comes behind it. -/
def bodyAt : Code → List Bool → Code
  | .seq a _, false :: p => bodyAt a p
  | .seq _ b, true :: p => bodyAt b p
  | .cond _ a _, false :: p => bodyAt a p
  | .cond _ _ b, true :: p => bodyAt b p
  | .block _ b, p => bodyAt b p
  | .loop b, _ => b
  | _, _ => .skip
def curAt : Code → Nat → List Bool → Nat
  | .seq a _, c, false :: p => curAt a c p
  | .seq _ b, c, true :: p => curAt b c p
  | .cond _ a _, c, false :: p => curAt a c p
  | .cond _ _ b, c, true :: p => curAt b c p
  | .block id b, _, p => curAt b id p
  | _, c, _ => c
def contAt {γ : Type} (P : Program) (A : OrcK) (hd : Nat → Head) (dr : Nat → Dr) (h0 fuel : Nat) : Code → Nat → List Bool → (Exit → State → Option γ) → Exit → State → Option γ
  | .seq a b, cur, false :: p, k => contAt P A hd dr h0 fuel a cur p (seqK (fun s => run P A hd dr h0 fuel b cur k s) k)
  | .seq _ b, cur, true :: p, k => contAt P A hd dr h0 fuel b cur p k
  | .cond _ a _, cur, false :: p, k => contAt P A hd dr h0 fuel a cur p k
  | .cond _ _ b, cur, true :: p, k => contAt P A hd dr h0 fuel b cur p k
  | .block id b, _, p, k => contAt P A hd dr h0 fuel b id p (blockK id k)
  | _, _, _, k => k
def loopAt {γ : Type} (P : Program) (A : OrcK) (hd : Nat → Head) (dr : Nat → Dr) (h0 fuel : Nat) (c : Code) (cur : Nat) (p : List Bool) (k : Exit → State → Option γ) (n : Nat) (s : State) : Option γ :=
  loopRun (fun k' s' => run P A hd dr h0 fuel (bodyAt c p) (curAt c cur p) k' s') (normE h0 (hd (curAt c cur p))) (contAt P A hd dr h0 fuel c cur p k) n s

/-- A state, slot by slot. -/
def look (l : List (Nat × AVal)) (i : Nat) : AVal :=
  match l with
  | [] => .top
  | (j, v) :: r => bif eqN i j then v else look r i
def mkT (l : List (Nat × AVal)) : Nat → Nat → List AVal
  | _, 0 => []
  | i, n + 1 => look l i :: mkT l (i + 1) n
def mkS (n : Nat) (l : List (Nat × AVal)) (H : Heap) : State := ⟨mkT l 0 n, H⟩

def bodyOf (fn : Func) : Code := match fn.body with | some c => c | none => .skip

/-- What is handed back. -/
def retVals (P : Program) (s : State) : List ResultVar → Option (Bool × List AVal)
  | [] => some (true, [])
  | .tmp t :: r => match retVals P s r with
    | some (b, vs) => some (b, s.ev (.tmp t) :: vs)
    | none => none
  | .cell a t :: r => match aloadK P s.h t (s.ev (.tmp a)) with
    | some (b, v) => match retVals P s r with
      | some (b', vs) => some (b && b', v :: vs)
      | none => none
    | none => none
def retVal (P : Program) (ts : List ResultVar) (s : State) : Option (Bool × AVal) :=
  match retVals P s ts with
  | some (b, [v]) => some (b, v)
  | some (b, vs) => some (b, .tup vs)
  | none => none
/-- A slot, for short. -/
instance (n : Nat) : OfNat ResultVar n := ⟨.tmp n⟩
def retCut0 (h0 : Nat) (cut : Option Nat) (v : AVal) (h : Heap) : Option (AVal × Heap) :=
  match cut with
  | none => some (v, h)
  | some k => bif blksIn (h0 + k) (h0 + k) h then some (v.lent (h0 + k) h, takeN (h0 + k) h) else none
def retCut (h0 : Nat) (cut : Option Nat) (v : AVal) (h : Heap) : Option (AVal × Heap) :=
  match retCut0 h0 cut v h with
  | some (v1, h1) => some (v1.zer h0 h1, zerB h0 h1 0 h1)
  | none => none
def retC (h0 : Nat) (cut : Option Nat) (r : Option (Bool × AVal)) (h : Heap) : Option (AVal × Heap) :=
  match r with
  | some (b, v) => bif b then retCut h0 cut v h else none
  | none => none
def retK (P : Program) (ts : List ResultVar) (h0 : Nat) (cut : Option Nat) (e : Exit) (s : State) : Option (AVal × Heap) :=
  match e with
  | .normal => retC h0 cut (retVal P ts s) s.h
  | .ret => retC h0 cut (retVal P ts s) s.h
  | _ => none
def startS (n : Nat) (args : List AVal) (H : Heap) : State := ⟨pad .undef n args, H⟩
def runFn (P : Program) (A : OrcK) (hd : Nat → Head) (dr : Nat → Dr) (cut : Option Nat) (fuel : Nat) (body : Code) (n : Nat) (ts : List ResultVar) (args : List AVal) (H : Heap) : Option (AVal × Heap) :=
  bif allZ H then run P A hd dr (hlen H) fuel body 0 (retK P ts (hlen H) cut) (startS n args H) else none

/-! ### Soundness -/

theorem kill_len (keep : List Nat) : ∀ (t : List AVal) (i : Nat), (kill keep i t).length = t.length
  | [], _ => rfl
  | _ :: r, i => by simp [kill, kill_len keep r (i + 1)]
theorem kill_get (keep : List Nat) : ∀ (t : List AVal) (i j : Nat) (v : AVal), (kill keep i t)[j]? = some v → ∃ u, t[j]? = some u ∧ (v = u ∨ v = .top)
  | [], i, j, v, h => by simp [kill] at h
  | x :: r, i, 0, v, h => by
    simp only [kill, List.getElem?_cons_zero, Option.some.injEq] at h
    refine ⟨x, rfl, ?_⟩
    subst h
    cases hasN keep i
    · exact .inr rfl
    · exact .inl rfl
  | x :: r, i, j + 1, v, h => by
    simp only [kill, List.getElem?_cons_succ] at h ⊢
    exact kill_get keep r (i + 1) j v h
theorem allIn_get {n : Nat} : ∀ {t : List AVal}, allIn n t = true → ∀ (i : Nat) (v : AVal), t[i]? = some v → v.inR n = true
  | [], _, i, v, h => by simp at h
  | x :: r, ha, i, v, h => by
    simp only [allIn, Bool.and_eq_true] at ha
    cases i with
    | zero => simp at h; subst h; exact ha.1
    | succ i => exact allIn_get ha.2 i v (by simpa using h)
theorem blksIn_get {n : Nat} : ∀ {m : Nat} {H : Heap}, blksIn n m H = true → ∀ (l : Nat) (b : Blk), l < m → H[l]? = some b → b.c.inR n = true
  | 0, H, _, l, b, hl, _ => by omega
  | m + 1, [], _, l, b, _, h => by simp at h
  | m + 1, x :: r, ha, l, b, hl, h => by
    simp only [blksIn, Bool.and_eq_true] at ha
    cases l with
    | zero => simp at h; subst h; exact ha.1
    | succ l => exact blksIn_get ha.2 l b (by omega) (by simpa using h)

theorem TR.kill [Fb : Forb] {ρ : List Nat} {H : Heap} {w : World} {t : List AVal} {a : Array Value} (h : TR ρ H w t a) (keep : List Nat) : TR ρ H w (Ab.kill keep 0 t) a := by
  refine ⟨by rw [kill_len]; exact h.1, fun i v hv => ?_, h.gl⟩
  obtain ⟨u, hu, hh⟩ := kill_get keep t 0 i v hv
  rcases hh with rfl | rfl
  · exact h.2 i _ hu
  · exact .top _
theorem TR.lent [Fb : Forb] {ρ : List Nat} {H : Heap} {w : World} {t : List AVal} {a : Array Value} (n : Nat) (S : Sim ρ H w) (h : TR ρ H w t a) : TR (ρ.take n) (H.take n) w (AVal.lent.lents n H t) a := by
  rw [lents_eq]
  refine ⟨by simp [h.1], fun i v hv => ?_, h.gl.thin fun b hb => ⟨hb.1, fun hm => hb.2.1 (List.mem_of_mem_take hm), hb.2.2⟩⟩
  simp only [List.getElem?_map, Option.map_eq_some_iff] at hv
  obtain ⟨u, hu, rfl⟩ := hv
  exact (h.2 i u hu).lent n S

theorem rangeN_get : ∀ (n i j : Nat), j < n → (rangeN i n)[j]? = some (i + j)
  | 0, i, j, h => by omega
  | n + 1, i, 0, h => by simp [rangeN]
  | n + 1, i, j + 1, h => by
    simp only [rangeN, List.getElem?_cons_succ]
    rw [rangeN_get n (i + 1) j (by omega)]
    congr 1; omega
theorem gcS_sound [Fb : Forb] {ρ0 : List Nat} {H0 : Heap} {w0 : World} {s s' : State} {a : Act} {w : World} (h : gcS H0.length s = some s') (hs : St ρ0 H0 w0 s a w) : St ρ0 H0 w0 s' a w := by
  unfold gcS gcOf at h
  simp only [Bool.cond_eq_ite] at h
  split at h
  · split at h
    · rename_i h1 h2
      simp only [Option.some.injEq] at h; subst h
      refine hs.perm ⟨nodupB_spec h1, by simpa [hlen_eq] using allLt_spec h2, fun i hi _ => ?_⟩
      unfold gcKs
      rw [app_eq]
      have hr := rangeN_get H0.length 0 i hi
      rw [List.getElem?_append_left (List.getElem?_eq_some_iff.1 hr).1, hr, Nat.zero_add]
    · cases h
  · cases h
theorem norm0_sound [Fb : Forb] {ρ0 : List Nat} {H0 : Heap} {w0 : World} {s s' : State} {a : Act} {w : World} {hd : Head} (h : norm0 H0.length hd s = some s') (hs : St ρ0 H0 w0 s a w) : St ρ0 H0 w0 s' a w := by
  obtain ⟨⟨ρ, T, S, M⟩, hdf⟩ := hs
  unfold norm0 at h
  simp only [takeN_eq] at h
  split at h
  · have hk : St ρ0 H0 w0 ⟨kill hd.keep 0 s.t, s.h⟩ a w := ⟨⟨ρ, T.kill _, S, M⟩, hdf⟩
    cases hf : hasN hd.keep 998
    · rw [hf, cond_false, Option.some.injEq] at h; subst h; exact hk
    · rw [hf, cond_true] at h; exact gcS_sound h hk
  · rename_i k hk
    simp only [Bool.cond_eq_ite, Bool.and_eq_true] at h
    split at h
    · rename_i hh
      simp only [Option.some.injEq] at h; subst h
      exact ⟨⟨ρ.take (H0.length + k), (T.kill _).lent _ S, S.cut _ (fun l b hl hb => blksIn_get hh l b hl hb), M.cut _ (Nat.le_add_right _ _)⟩, hdf⟩
    · cases h

theorem norm_sound [Fb : Forb] {ρ0 : List Nat} {H0 : Heap} {w0 : World} (hz : allZ H0 = true) {s s' : State} {a : Act} {w : World} {hd : Head} (h : norm H0.length hd s = some s') (hs : St ρ0 H0 w0 s a w) : St ρ0 H0 w0 s' a w := by
  unfold norm at h
  split at h
  · rename_i s1 h1
    simp only [Option.some.injEq] at h; subst h
    obtain ⟨⟨ρ, T, S, M⟩, hdf⟩ := norm0_sound h1 hs
    exact ⟨⟨ρ, T.zer _, S.zer _, M.zer hz⟩, hdf⟩
  · cases h

theorem normE_sound [Fb : Forb] {ρ0 : List Nat} {H0 : Heap} {w0 : World} (hz : allZ H0 = true) {s s' : State} {a : Act} {w : World} {hd : Head} {e : Exit} (h : normE H0.length hd e s = some s') (hs : St ρ0 H0 w0 s a w) : St ρ0 H0 w0 s' a w := by
  unfold normE at h
  split at h
  · cases hf : hasN hd.keep 999
    · rw [hf, cond_false] at h; exact norm_sound hz h hs
    · rw [hf, cond_true, Option.some.injEq] at h; subst h; exact hs
  · exact norm_sound hz h hs

theorem loop_sound [Fb : Forb] {γ : Type} {P : Program} {c : Code} {body : (Exit → State → Option γ) → State → Option γ} {hd : Head} {ρ0 : List Nat} {H0 : Heap} {w0 : World} {r : γ} (hz : allZ H0 = true)
    (hb : ∀ (k : Exit → State → Option γ) (s : State) (a : Act) (w : World) (Q : Exit → Act → World → Prop), body k s = some r → St ρ0 H0 w0 s a w → (∀ e s a w, k e s = some r → St ρ0 H0 w0 s a w → Q e a w) → c.wp P Q a w)
    {k : Exit → State → Option γ} {Q : Exit → Act → World → Prop} (hQ : ∀ e s a w, k e s = some r → St ρ0 H0 w0 s a w → Q e a w) :
    ∀ (n : Nat) (s : State) (a : Act) (w : World), loopRun body (normE H0.length hd) k n s = some r → St ρ0 H0 w0 s a w → Code.rounds P c Q n a w := by
  intro n
  induction n with
  | zero => intro s a w h; simp [loopRun] at h
  | succ n ih =>
    intro s a w h hs
    simp only [loopRun] at h
    rw [rounds_succ]
    refine hb _ s a w _ h hs fun e s' a' w' hk hs' => ?_
    unfold iterK at hk
    split at hk
    · rename_i s1 h1
      have hs1 := normE_sound hz h1 hs'
      cases e <;> first | exact ih s1 a' w' hk hs1 | exact hQ _ _ _ _ hk hs1
    · cases hk

theorem OrcOk.pick {P : Program} {A : OrcK} (h : OrcOk P A.plain) (full : Bool) : OrcOk P (A.pick full).plain := by
  cases full with
  | true => exact h
  | false =>
    intro f args H v H' hh
    refine h f args H v H' ?_
    simp only [OrcK.pick, cond_false, OrcK.plain, OrcK.exts] at hh ⊢
    split at hh
    · rename_i b u e hr
      split at hr
      · rename_i n hn
        simp only [Option.some.injEq, Prod.mk.injEq] at hr
        obtain ⟨rfl, rfl, rfl⟩ := hr
        rw [hn]; exact hh
      · cases hr
    · cases hh
theorem OrcOk.but {P : Program} {A : OrcK} (h : OrcOk P A.plain) (nw : List Nat) : OrcOk P (A.but nw).plain := by
  have h2 := h.pick false
  intro f args H v H' hh
  cases hn : hasN nw f with
  | true =>
    refine h2 f args H v H' ?_
    simp only [OrcK.pick, cond_false, OrcK.plain, OrcK.but, hn, cond_true] at hh ⊢
    exact hh
  | false =>
    refine h f args H v H' ?_
    simp only [OrcK.plain, OrcK.but, hn, cond_false] at hh ⊢
    exact hh
theorem pickOps_range (l : List Oper) : pickOps l (List.range l.length) = l := by
  have main : ∀ (ix : List Nat), pickOps l ix = ix.filterMap fun i => l[i]? := by
    intro ix
    induction ix with
    | nil => rfl
    | cons i r ih =>
      simp only [pickOps, nth_eq, List.filterMap_cons, ih]
      cases l[i]? <;> rfl
  rw [main]
  clear main
  induction l with
  | nil => rfl
  | cons x r ih =>
    rw [List.length_cons, List.range_succ_eq_map, List.filterMap_cons]
    simp only [List.getElem?_cons_zero, List.filterMap_map, Function.comp_def, List.getElem?_cons_succ, ih]
theorem Dr.ops_eq (d : Dr) (ops : Array Oper) : d.ops ops = pickOps ops.toList (d.ix ops) := by
  unfold Dr.ops Dr.ix
  cases d.ord with
  | some l => rfl
  | none => simp only []; rw [← Array.length_toList, pickOps_range]
theorem region_sound [Fb : Forb] {γ : Type} {P : Program} (hm : P.follows .mixedOrders = true) {A : OrcK} [hR : OrcRen A] [hL : OrcLoc A] (hA : OrcOk P A.plain) {d : Dr} {id : Nat} {ops : Array Oper} (hc : d.chk ops = true) {k : State → Option γ} {r : γ}
    {ρ0 : List Nat} {H0 : Heap} {w0 : World} {s : State} {a : Act} {w : World} {Q : Exit → Act → World → Prop} (h : d.run P A H0.length ops k s = some r) (hs : St ρ0 H0 w0 s a w)
    (hQ : ∀ s a w, k s = some r → St ρ0 H0 w0 s a w → Q .normal a w) : (Code.region id ops true).wp P Q a w := by
  have hs' : St ρ0 H0 w0 s a { w with drawn := w.drawn + 1 } := by
    obtain ⟨⟨ρ, T, S, M⟩, hd⟩ := hs
    have hM : Mv ρ s.h w ρ s.h { w with drawn := w.drawn + 1 } := Mv.same ρ s.h rfl rfl rfl rfl
    exact ⟨⟨ρ, T.mv hM, S.mvSame rfl hM, M.trans hM⟩, hd⟩
  refine wp_region_any hm ?_
  unfold Dr.run at h
  unfold Dr.chk at hc
  cases hpr : d.pr with
  | some p =>
    obtain ⟨n, l⟩ := p
    simp only [hpr, Bool.and_eq_true, beq_iff_eq] at h hc
    have hg := hc.2
    rw [← hc.1] at hg ⊢
    exact AnyA.sound (A := A.pick true) (hA.pick true) hQ _ _ _ _ _ (anyA_pair hL _ _ _ _ hg h) hs'
  | none =>
  simp only [hpr] at h hc
  cases hbt : d.bt with
  | some p =>
    obtain ⟨n, l⟩ := p
    simp only [hbt, chkN, Bool.and_eq_true, beq_iff_eq] at h hc
    have hg := hc.2
    rw [← hc.1] at hg ⊢
    exact AnyA.sound (hA.but [n]) hQ _ _ _ _ _ (anyA_goN _ _ _ hg h) hs'
  | none =>
  simp only [hbt] at h hc
  rw [d.ops_eq] at h
  cases hsw : d.sw with
  | false =>
    simp only [hsw, cond_false] at h hc
    simp only [Ab.chk, Bool.and_eq_true, beq_iff_eq] at hc
    have hg := hc.2
    rw [← hc.1] at hg ⊢
    exact AnyA.sound (hA.pick d.full) hQ _ _ _ _ _ (anyA_go _ _ _ hg h) hs'
  | true =>
    simp only [hsw, cond_true] at h hc
    simp only [chkI, Bool.and_eq_true, beq_iff_eq] at hc
    have hg := hc.2
    rw [← hc.1] at hg ⊢
    have hF : Ren0 H0.length (fun s => ∀ a w, St ρ0 H0 w0 s a w → Q .normal a w) := fun f s s2 r hf h a w hst => h a w (hst.ren0 r hf)
    exact AnyA.sound (A := A.exts) (hA.pick false) (F := fun s => ∀ a w, St ρ0 H0 w0 s a w → Q .normal a w) (fun s a w hh hst => hh a w hst) _ _ _ _ _ (anyA_goI hR hF (fun s hk a w hst => hQ s a w hk hst) _ _ _ hg h) hs'

theorem TR.lentD [Fb : Forb] {ρ : List Nat} {H : Heap} {w : World} {t : List AVal} {a : Array Value} (n : Nat) (d : Dep) (S : Sim ρ H w) (h : TR ρ H w t a) : TR (ρ.take n) (H.take n) w (mapL (AVal.lentD n H d) t) a := by
  rw [mapL_eq]
  refine ⟨by simp [h.1], fun i v hv => ?_, h.gl.thin fun b hb => ⟨hb.1, fun hm => hb.2.1 (List.mem_of_mem_take hm), hb.2.2⟩⟩
  simp only [List.getElem?_map, Option.map_eq_some_iff] at hv
  obtain ⟨u, hu, rfl⟩ := hv
  exact VR.lentD n S d (h.2 i u hu)
theorem layLast_sound [Fb : Forb] {ρ0 : List Nat} {H0 : Heap} {w0 : World} {n : Nat} {s s' : State} {a : Act} {w : World} (h : layLast H0.length n s = some s') (hs : St ρ0 H0 w0 s a w) : St ρ0 H0 w0 s' a w := by
  obtain ⟨⟨ρ, T, S, M⟩, hdf⟩ := hs
  unfold layLast at h
  simp only [takeN_eq, Bool.cond_eq_ite, ltN_eq, hlen_eq, decide_eq_true_eq] at h
  split at h
  · rename_i hl
    split at h
    · rename_i hh
      simp only [Option.some.injEq] at h; subst h
      exact ⟨⟨ρ.take (backN n s.h.length), T.lentD _ _ S, S.cut _ (fun l b hl hb => blksIn_get hh l b hl hb), M.cut _ (by omega)⟩, hdf⟩
    · cases h
  · cases h
theorem opsL_sound [Fb : Forb] {γ : Type} {P : Program} {A : OrcK} (hA : OrcOk P A.plain) {ops : Array Oper} {n : Nat} {ρ0 : List Nat} {H0 : Heap} {w0 : World} {Q : Exit → Act → World → Prop} {k : State → Option γ} {r : γ}
    (hk : ∀ s a w, k s = some r → St ρ0 H0 w0 s a w → Q .normal a w) :
    ∀ (j : Nat) (l : List Oper) (s : State) (a : Act) (w : World), runOpsL P A ops H0.length n k j l s = some r → St ρ0 H0 w0 s a w → wpList P ops Q l a w
  | 0, l, s, a, w, h, hs => by
    simp only [runOpsL] at h
    split at h
    · rename_i s1 h1
      exact ops_sound hA hk l s1 a w h (layLast_sound h1 hs)
    · cases h
  | j + 1, [], s, a, w, h, hs => by simp [runOpsL] at h
  | j + 1, o :: l, s, a, w, h, hs => by
    simp only [runOpsL] at h
    obtain ⟨s1, h1, h2⟩ := runOps_cons h
    unfold wpList
    exact stp_sound hA h1 hs fun a' w' hs' => opsL_sound hA hk j l s1 a' w' h2 hs'

theorem run_sound [Fb : Forb] {γ : Type} {P : Program} {H0 : Heap} (hz : allZ H0 = true) (hm : P.follows .mixedOrders = true) {A : OrcK} [hR : OrcRen A] [hL : OrcLoc A] (hA : OrcOk P A.plain) {hd : Nat → Head} {dr : Nat → Dr} {fuel : Nat} {ρ0 : List Nat} {w0 : World} {r : γ} :
    ∀ (c : Code) (hc : drawChk dr c = true) (cur : Nat) (k : Exit → State → Option γ) (s : State) (a : Act) (w : World) (Q : Exit → Act → World → Prop), run P A hd dr H0.length fuel c cur k s = some r → St ρ0 H0 w0 s a w →
      (∀ e s a w, k e s = some r → St ρ0 H0 w0 s a w → Q e a w) → c.wp P Q a w := by
  intro c
  induction c with
  | skip => intro hc cur k s a w Q h hs hQ; exact wp_skip (hQ _ _ _ _ h hs)
  | region id ops d =>
    intro hc cur k s a w Q h hs hQ
    cases d with
    | true =>
      simp only [run, cond_true] at h
      simp only [drawChk, cond_true] at hc
      exact region_sound hm hA hc h hs fun s a w h' hs' => hQ .normal s a w h' hs'
    | false =>
      simp only [run, cond_false] at h
      split at h
      · exact wp_region_list (opsL_sound hA (fun s a w h' hs' => hQ .normal s a w h' hs') _ ops.toList s a w h hs)
      · exact wp_region_list (ops_sound hA (fun s a w h' hs' => hQ .normal s a w h' hs') ops.toList s a w h hs)
  | seq x y ihx ihy =>
    intro hc cur k s a w Q h hs hQ
    simp only [run] at h
    simp only [drawChk, Bool.and_eq_true] at hc
    refine wp_seq (ihx hc.1 cur _ s a w _ h hs fun e s' a' w' hk hs' => ?_)
    cases e <;> first | exact ihy hc.2 cur k s' a' w' Q hk hs' hQ | exact hQ _ _ _ _ hk hs'
  | cond x y z ihy ihz =>
    intro hc cur k s a w Q h hs hQ
    simp only [run] at h
    simp only [drawChk, Bool.and_eq_true] at hc
    obtain ⟨hc1, hc2⟩ := hc
    split at h
    · rename_i t ht
      obtain ⟨⟨ρ, T, S, M⟩, hdf⟩ := hs
      have hv := T.ev x
      rw [ht] at hv
      generalize hc : a.eval x = cv at hv
      cases hv
      refine wp_cond (t := t) hc ?_
      cases t
      · exact ihz hc2 cur k s a w Q h ⟨⟨ρ, T, S, M⟩, hdf⟩ hQ
      · exact ihy hc1 cur k s a w Q h ⟨⟨ρ, T, S, M⟩, hdf⟩ hQ
    · cases h
  | block id b ih =>
    intro hc cur k s a w Q h hs hQ
    simp only [run] at h
    simp only [drawChk] at hc
    refine wp_block (ih hc id _ s a w _ h hs fun e s' a' w' hk hs' => ?_)
    cases e with
    | exit j =>
      simp only [Exit.inBlock]
      simp only [blockK, eqN_eq, Bool.cond_eq_ite, beq_iff_eq] at hk
      split
      · rename_i e; rw [if_pos e] at hk; exact hQ _ _ _ _ hk hs'
      · rename_i e; rw [if_neg e] at hk; exact hQ _ _ _ _ hk hs'
    | _ => exact hQ _ _ _ _ hk hs'
  | loop b ih =>
    intro hc cur k s a w Q h hs hQ
    simp only [run] at h
    simp only [drawChk] at hc
    split at h
    · rename_i s1 h1
      exact wp_loop_rounds fuel (loop_sound hz (fun k s a w Q h hs hQ => ih hc cur k s a w Q h hs hQ) hQ fuel s1 a w h (norm_sound hz h1 hs))
    · cases h
  | rangeFunc => intro hc cur k s a w Q h; simp [run] at h
  | exit id => intro hc cur k s a w Q h hs hQ; exact wp_exit (hQ _ _ _ _ h hs)
  | scope => intro hc cur k s a w Q h; simp [run] at h
  | label => intro hc cur k s a w Q h; simp [run] at h
  | goto => intro hc cur k s a w Q h; simp [run] at h
  | ret => intro hc cur k s a w Q h hs hQ; exact wp_ret (hQ _ _ _ _ h hs)
  | refuse => intro hc cur k s a w Q h; simp [run] at h

theorem loadVar_ok [Fb : Forb] {P : Program} {ρ : List Nat} {H : Heap} {w : World} (S : Sim ρ H w) {t : TypeId} {x v : AVal} {c : Value} (h : aload P H t x = some v) (hx : VR ρ H w x c) :
    ∃ p y, c = .pointer (some p) ∧ (loadVar t p).run P w = .ok y w ∧ VR ρ H w v y := by
  unfold aload at h
  split at h
  · rename_i d hd
    simp only [Bool.cond_eq_ite] at h
    split at h
    · rename_i hag
      split at h
      · rename_i n hz
        split at h
        · rename_i vs hvs
          simp only [Option.some.injEq] at h; subst h
          have hp : ∃ p, c = .pointer (some p) := by
            simp only [acells] at hvs
            split at hvs
            · rename_i u hu; exact sureAddr_of hx hu
            · cases hvs
          obtain ⟨p, rfl⟩ := hp
          obtain ⟨cs, k1, k2⟩ := cells_ok (P := P) S hx (n + 1) 0 vs #[] hvs
          refine ⟨p, .agg cs.toArray, rfl, ?_, k2.agg⟩
          simp [loadVar, isAgg_ok hd, hag, run_sizeOf' hz, loadCells, k1]
        · cases h
      · cases h
      · cases h
    · rename_i hag
      obtain ⟨p, rfl⟩ := sureAddr_of hx h
      obtain ⟨y, y1, y2⟩ := cell_ok S hx h
      have : p.add 0 = p := by simp [Addr.add]
      rw [this] at y1
      refine ⟨p, y, rfl, ?_, y2⟩
      simp [loadVar, isAgg_ok hd, hag, y1]
  · cases h
theorem run_results [Fb : Forb] {P : Program} {fn : Func} {ts : List ResultVar} (hr : fn.results = ts.toArray) {ρ : List Nat} {s : State} {w : World} {a : Act} (T : TR ρ s.h w s.t a.tmps) (S : Sim ρ s.h w) {v : AVal} (h : retVal P ts s = some (true, v)) :
    ∃ c, (results fn a.tmps).run P w = .ok c w ∧ VR ρ s.h w v c := by
  have main : ∀ (g : ResultVar → Sem Value), (∀ t, g (.tmp t) = pure (a.tmps.getD t Go.undef)) → (∀ x t, g (.cell x t) = do loadVar t (← asAddr (a.tmps.getD x Go.undef))) →
      ∀ (ts : List ResultVar) (vs : List AVal), retVals P s ts = some (true, vs) → ∃ cs : List Value, (ts.mapM g).run P w = .ok cs w ∧ VRs ρ s.h w vs cs := by
    intro g hg1 hg2 ts
    induction ts with
    | nil =>
      intro vs hv
      simp only [retVals, Option.some.injEq, Prod.mk.injEq, true_and] at hv; subst hv
      exact ⟨[], by simp, VRs.nil _ _ _⟩
    | cons r ts ih =>
      intro vs hv
      cases r with
      | tmp t =>
        simp only [retVals] at hv
        split at hv
        · rename_i b vs' hvs
          simp only [Option.some.injEq, Prod.mk.injEq] at hv
          obtain ⟨rfl, rfl⟩ := hv
          obtain ⟨cs, h1, h2⟩ := ih vs' hvs
          exact ⟨a.tmps.getD t Go.undef :: cs, by simp only [List.mapM_cons, Sem.run_bind, hg1, Sem.run_pure, Result.andThen_ok, h1], VRs.cons (T.ev (.tmp t)) h2⟩
        · cases hv
      | cell x t =>
        simp only [retVals] at hv
        split at hv
        · rename_i b u hu
          split at hv
          · rename_i b' vs' hvs
            simp only [Option.some.injEq, Prod.mk.injEq, Bool.and_eq_true] at hv
            obtain ⟨⟨rfl, rfl⟩, rfl⟩ := hv
            obtain ⟨cs, h1, h2⟩ := ih vs' hvs
            obtain ⟨p, y, e1, e2, e3⟩ := loadVar_ok (P := P) S (aloadK_ok hu) (T.ev (.tmp x))
            have e1' : a.tmps.getD x Go.undef = .pointer (some p) := e1
            exact ⟨y :: cs, by simp only [List.mapM_cons, Sem.run_bind, hg2, e1', asAddr, Sem.run_pure, Result.andThen_ok, e2, h1], VRs.cons e3 h2⟩
          · cases hv
        · cases hv
  have fin : ∀ vs, retVals P s ts = some (true, vs) → ∃ cs : List Value, VRs ρ s.h w vs cs ∧ (results fn a.tmps).run P w = .ok (if h : cs.toArray.size = 1 then cs.toArray[0] else .tuple cs.toArray) w := by
    intro vs hvs
    have key : ∀ (g : ResultVar → Sem Value), (∀ t, g (.tmp t) = pure (a.tmps.getD t Go.undef)) → (∀ x t, g (.cell x t) = do loadVar t (← asAddr (a.tmps.getD x Go.undef))) →
        ∃ cs : List Value, VRs ρ s.h w vs cs ∧ (do let us ← ts.toArray.mapM g; pure (if h : us.size = 1 then us[0] else Value.tuple us) : Sem Value).run P w = .ok (if h : cs.toArray.size = 1 then cs.toArray[0] else .tuple cs.toArray) w := by
      intro g hg1 hg2
      obtain ⟨cs, h1, h2⟩ := main g hg1 hg2 ts vs hvs
      refine ⟨cs, h2, ?_⟩
      simp only [Sem.run_bind, Array.mapM_eq_mapM_toList, Sem.run_map]
      rw [h1]
      simp
    unfold results
    rw [hr]
    exact key _ (fun _ => rfl) (fun _ _ => rfl)
  unfold retVal at h
  split at h
  · rename_i b u hvs
    simp only [Option.some.injEq, Prod.mk.injEq] at h
    obtain ⟨rfl, rfl⟩ := h
    obtain ⟨cs, h2, h1⟩ := fin _ hvs
    obtain ⟨c, cs', rfl, h3, h4⟩ := h2.inv_cons
    obtain rfl := h4.inv_nil
    exact ⟨c, h1, h3⟩
  · rename_i b vs hne hvs
    simp only [Option.some.injEq, Prod.mk.injEq] at h
    obtain ⟨rfl, rfl⟩ := h
    obtain ⟨cs, h2, h1⟩ := fin _ hvs
    have hl : cs.length ≠ 1 := by
      intro h1
      rw [← h2.1] at h1
      obtain ⟨x, rfl⟩ := List.length_eq_one_iff.1 h1
      exact hne _ rfl
    refine ⟨.tuple cs.toArray, by rw [h1]; simp [hl], .tup _ _ (by simp [h2.1]) fun i u hu => ?_⟩
    have hlt : i < cs.length := by rw [← h2.1]; exact (List.getElem?_eq_some_iff.1 hu).1
    simpa [Array.getD_eq_getD_getElem?, hlt] using h2.2 i u cs[i] hu (by simp [hlt])
  · cases h

theorem fn_sound {P : Program} (hm : P.follows .mixedOrders = true) {A : OrcK} [hR : OrcRen A] [hL : OrcLoc A] (hA : OrcOk P A.plain) {hd : Nat → Head} {dr : Nat → Dr} {cut : Option Nat} {fuel : Nat} {f : FuncId} {fn : Func} {n : Nat} {ts : List ResultVar} {args : List AVal} {H H' : Heap} {v : AVal}
    (hf : P.funcs[f]? = some fn) (hbn : fn.body.isNone = false) (hn : fn.ntmps = n) (hr : fn.results = ts.toArray) (hc : drawChk dr (bodyOf fn) = true)
    (h : runFn P A hd dr cut fuel (bodyOf fn) n ts args H = some (v, H')) : ACalls P f args H v H' := by
  intro Fb ρ w cargs S hargs gl
  unfold runFn at h
  rw [hlen_eq, Bool.cond_eq_ite] at h
  split at h
  case isFalse => cases h
  rename_i hz
  have hb : fn.body = some (bodyOf fn) := by unfold bodyOf; cases hfb : fn.body <;> simp [hfb] at hbn ⊢
  refine calls_of_wp hf hb (run_sound (ρ0 := ρ) (H0 := H) (w0 := w) hz hm hA (bodyOf fn) hc 0 (retK P ts H.length cut) (startS n args H) _ w _ h ?_ ?_)
  · refine ⟨⟨ρ, ?_, S, Mv.refl _ _ _⟩, rfl⟩
    have hl := hargs.1
    simp only [Array.length_toList] at hl
    refine ⟨by simp [startS, pad_eq, hl, hn], fun i u hu => ?_, gl⟩
    simp only [startS, pad_eq] at hu
    by_cases hi : i < args.length
    · rw [List.getElem?_append_left hi] at hu
      have hi' : i < cargs.size := by omega
      have := hargs.2 i u cargs[i] hu (by simp [hi'])
      show VR ρ H w u _
      simpa [Array.getD_eq_getD_getElem?, Array.getElem?_append_left hi', hi'] using this
    · rw [List.getElem?_append_right (by omega), List.getElem?_replicate] at hu
      split at hu
      · simp only [Option.some.injEq] at hu; subst hu
        have : (cargs ++ Array.replicate (fn.ntmps - cargs.size) Go.undef).getD i Go.undef = Go.undef := by
          simp only [Array.getD_eq_getD_getElem?]
          rw [Array.getElem?_append_right (by omega), Array.getElem?_replicate]
          split <;> rfl
        rw [this]; exact .undef
      · cases hu
  · intro e s a w' hk hs
    obtain ⟨⟨ρ', T, S', M⟩, hdf⟩ := hs
    have hfin : retC H.length cut (retVal P ts s) s.h = some (v, H') →
        ∃ c, (results fn a.tmps).run P w' = .ok c w' ∧ G ρ H w v H' c w' := by
      intro hk'
      unfold retC at hk'
      split at hk'
      · rename_i b u hu
        cases b with
        | false => cases hk'
        | true =>
          simp only [cond_true] at hk'
          obtain ⟨c, hrun, hval⟩ := run_results hr T S' hu
          refine ⟨c, hrun, ?_⟩
          unfold retCut at hk'
          split at hk'
          case h_2 => cases hk'
          rename_i v1 h1 hr1
          simp only [Option.some.injEq, Prod.mk.injEq] at hk'
          obtain ⟨rfl, rfl⟩ := hk'
          suffices hg : G ρ H w v1 h1 c w' by
            obtain ⟨ρ'', g1, g2, g3⟩ := hg
            exact ⟨ρ'', g1.zer _, g2.zer _, g3.zer hz⟩
          have hk' := hr1
          unfold retCut0 at hk'
          simp only [takeN_eq] at hk'
          cases cut with
          | none =>
            simp only [Option.some.injEq, Prod.mk.injEq] at hk'
            obtain ⟨rfl, rfl⟩ := hk'
            exact ⟨ρ', hval, S', M⟩
          | some k =>
            simp only [Bool.cond_eq_ite, Bool.and_eq_true] at hk'
            split at hk'
            · rename_i hh
              simp only [Option.some.injEq, Prod.mk.injEq] at hk'
              obtain ⟨rfl, rfl⟩ := hk'
              exact ⟨_, hval.lent _ S', S'.cut _ (fun l b hl hb => blksIn_get hh l b hl hb), M.cut _ (Nat.le_add_right _ _)⟩
            · cases hk'
      · cases hk'
    cases e with
    | normal => obtain ⟨c, c1, c2⟩ := hfin hk; exact ⟨hdf, c, c1, c, rfl, c2⟩
    | ret => obtain ⟨c, c1, c2⟩ := hfin hk; exact ⟨hdf, c, c1, c, rfl, c2⟩
    | _ => simp only [retK, reduceCtorEq] at hk

end Go.Proofs.YtjhofofieiiplaaGreatDoor.Ab
