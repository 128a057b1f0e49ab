/-
  The abstract machine: a region whose order is drawn comes to one state, whatever the order: what only looks may be taken first.
-/
import Derived.Test.YtjhofofieiiplaaGreatDoorAbRun
import Derived.Orders
namespace Go.Proofs.YtjhofofieiiplaaGreatDoor.Ab
open Go
set_option linter.unusedVariables false
set_option linter.unusedSimpArgs false

/-- 0: it touches no memory; 1: it looks; 2: it makes memory at the most; 3: all else. -/
def cls : Op → Nat
  | .move _ | .assign _ | .pick .. | .binOp .. | .unOp .. | .extract .. | .fieldAddr .. | .field .. | .indexAddr .. | .index .. | .nilCheck _ | .makeFunc .. | .build .. => 0
  | .convert .. | .slice .. => 1
  | .call { callee := .builtin b, .. } => match b with
    | .len | .max | .min | .real | .imag | .complex => 0
    | _ => 3
  | .load .. => 1
  | .call { callee := .value _, .. } | .alloc _ | .box .. | .makeSlice .. | .buildSlice .. => 2
  | _ => 3

def opY (P : Program) (A : OrcK) (o : Op) (s : State) : Option (AVal × Heap) :=
  match o with
  | .pick c a b => match s.ev c with
    | .bool t => some (bif t then s.ev a else s.ev b, s.h)
    | _ => none
  | o => thenK (astepK P A s o) fun v h' => some (v, h')
def guardY {α : Type} (ops : Array Oper) (g : Option (Nat × Bool)) (s : State) (yes no : Option α) : Option α :=
  match g with
  | none => yes
  | some (j, want) => match gslot ops j with
    | some d => match nth s.t d with
      | some (.bool b) => bif b then (bif want then yes else no) else (bif want then no else yes)
      | some .undef => no
      | _ => none
    | none => none
def opOf (P : Program) (A : OrcK) (ops : Array Oper) (o : Oper) (s : State) : Option (AVal × Heap) := guardY ops o.guard s (opY P A o.op s) (some (.undef, s.h))

theorem upd_same {s : State} {d : Nat} {v : AVal} (h : nth s.t d = some v) : s.put (some d) v = s := by
  cases s with
  | mk t h0 =>
    simp only [State.put, upd_eq]
    simp only [nth_eq] at h
    congr 1
    apply List.ext_getElem?
    intro i
    rw [List.getElem?_set]
    split
    · rename_i e; subst e; split
      · exact h.symm
      · rename_i hn; exact absurd (List.getElem?_eq_some_iff.1 h).1 hn
    · rfl

theorem opK_opY {P : Program} {A : OrcK} {o : Op} {dst : Option Tmp} {s s' : State} : opK P A o dst s (fun s' => some s') = some s' ↔ ∃ v h', opY P A o s = some (v, h') ∧ s' = State.put ⟨s.t, h'⟩ dst v := by
  have main : ∀ r : Option (Bool × AVal × Heap), (thenK r fun v h' => some (State.put ⟨s.t, h'⟩ dst v)) = some s' ↔ ∃ v h', (thenK r fun v h' => some (v, h')) = some (v, h') ∧ s' = State.put ⟨s.t, h'⟩ dst v := by
    intro r
    cases r with
    | none => simp [thenK]
    | some r =>
      obtain ⟨b, v, h'⟩ := r
      cases b
      · simp [thenK]
      · exact ⟨fun h => ⟨_, _, rfl, (Option.some.inj h).symm⟩, fun ⟨v, h', e, h2⟩ => by cases e; rw [h2]; rfl⟩
  cases o
  case pick c a b =>
    simp only [opK, opY]
    cases ht : s.ev c
    case bool t =>
      cases t
      · exact ⟨fun h => ⟨_, _, rfl, (Option.some.inj h).symm⟩, fun ⟨v, h', e, h2⟩ => by cases e; rw [h2]; rfl⟩
      · exact ⟨fun h => ⟨_, _, rfl, (Option.some.inj h).symm⟩, fun ⟨v, h', e, h2⟩ => by cases e; rw [h2]; rfl⟩
    all_goals simp
  all_goals (simp only [opK, opY]; exact main _)
theorem stp_iff {P : Program} {A : OrcK} {ops : Array Oper} {o : Oper} {s s' : State} : Stp P A ops o s s' ↔ ∃ v h', opOf P A ops o s = some (v, h') ∧ s' = State.put ⟨s.t, h'⟩ o.dst v := by
  have no : (some (s.put o.dst .undef) = some s') ↔ ∃ v h', some (AVal.undef, s.h) = some (v, h') ∧ s' = State.put ⟨s.t, h'⟩ o.dst v :=
    ⟨fun h => ⟨_, _, rfl, (Option.some.inj h).symm⟩, fun ⟨v, h', e, h2⟩ => by cases e; rw [h2]⟩
  unfold Stp opOf guardK guardY
  generalize o.guard = g
  cases g with
  | none => exact opK_opY
  | some jw =>
    obtain ⟨j, want⟩ := jw
    simp only []
    cases hd : gslot ops j with
    | none => simp
    | some d =>
      simp only []
      cases hn : nth s.t d with
      | none => simp
      | some v =>
        cases v <;> simp only [] <;> try (simp; done)
        case undef => exact no
        case bool b =>
          rw [show s.put (some d) (AVal.bool true) = s.put (some d) (AVal.bool true) from rfl]
          cases b <;> cases want <;> simp only [cond_true, cond_false] <;> rw [upd_same hn] <;> first | exact opK_opY | exact no

/-! ### What a step looks at -/

theorem ev_congr {s s' : State} {x : Operand} (h : ∀ t, x = .tmp t → nth s.t t = nth s'.t t) : s.ev x = s'.ev x := by
  cases x with
  | tmp t => simp only [State.ev, h t rfl]
  | _ => rfl
theorem mapL_congr {s s' : State} {l : List Operand} (h : ∀ x ∈ l, s.ev x = s'.ev x) : mapL s.ev l = mapL s'.ev l := by
  rw [mapL_eq, mapL_eq]; exact List.map_congr_left h
theorem abuildA_tip {P : Program} {ev : Operand → AVal} {H H' : Heap} {t : TypeId} {n : Nat} {l : List (Nat × Operand)} {v : AVal} (h : abuildA P ev H t n l = some (v, H')) : H' = H ∨ ∃ b, H' = Ab.snoc H b := by
  unfold abuildA at h
  split at h
  · rename_i r hr
    simp only [Option.some.injEq] at h; subst h
    unfold abuild at hr
    simp only [Bool.cond_eq_ite] at hr
    repeat' split at hr
    all_goals first | (cases hr; done) | (simp only [Option.some.injEq, Prod.mk.injEq] at hr; exact .inr ⟨_, hr.2.symm⟩)
  · unfold abuildC at h
    simp only [Bool.cond_eq_ite] at h
    repeat' split at h
    all_goals first | (cases h; done) | (simp only [Option.some.injEq, Prod.mk.injEq] at h; exact .inl h.2.symm)
theorem abcells_congr {s s' : State} {l : List (Nat × Operand)} (h : ∀ p ∈ l, s.ev p.2 = s'.ev p.2) : ∀ sz i, abcells s.ev sz i l = abcells s'.ev sz i l := by
  induction l with
  | nil => intro sz i; rfl
  | cons p r ih =>
    intro sz i
    obtain ⟨j, x⟩ := p
    have h1 := h (j, x) List.mem_cons_self
    have h2 := ih (fun q hq => h q (List.mem_cons_of_mem _ hq))
    simp only at h1
    simp only [abcells, h1, h2]
theorem fill_congr {s s' : State} {l : List (Nat × Operand)} (h : ∀ p ∈ l, s.ev p.2 = s'.ev p.2) : ∀ c, abuild.fill s.ev c l = abuild.fill s'.ev c l := by
  induction l with
  | nil => intro c; rfl
  | cons p r ih =>
    intro c
    obtain ⟨i, x⟩ := p
    have h1 := h (i, x) List.mem_cons_self
    simp only at h1
    simp only [abuild.fill, h1]
    split
    · exact ih (fun p hp => h p (List.mem_cons_of_mem _ hp)) _
    · rfl

theorem afill_congr {s s' : State} {pl : List (Nat × Nat)} : ∀ {l : List (Nat × Operand)}, (∀ p ∈ l, s.ev p.2 = s'.ev p.2) → ∀ vs, afill pl s.ev vs l = afill pl s'.ev vs l := by
  intro l
  induction l with
  | nil => intro _ vs; rfl
  | cons p r ih =>
    intro h vs
    obtain ⟨i, x⟩ := p
    have h1 := h (i, x) List.mem_cons_self
    simp only at h1
    have hr := ih (fun p hp => h p (List.mem_cons_of_mem _ hp))
    simp only [afill, h1, hr]
theorem apureK_congr {P : Program} {s s' : State} {o : Op} (h : ∀ x ∈ o.operands, s.ev x = s'.ev x) : apureK P s.ev o = apureK P s'.ev o := by
  cases o <;> simp only [apureK, apure]
  case move x => rw [h x (by simp [Op.operands])]
  case assign x => rw [h x (by simp [Op.operands])]
  case nilCheck x => rw [h x (by simp [Op.operands])]
  case unOp op t x => rw [h x (by simp [Op.operands])]
  case convert a b x => rw [h x (by simp [Op.operands])]
  case extract x i => rw [h x (by simp [Op.operands])]
  case fieldAddr t x f => rw [h x (by simp [Op.operands])]
  case binOp op t x y yt => rw [h x (by simp [Op.operands]), h y (by simp [Op.operands])]
  case indexAddr t x i => rw [h x (by simp [Op.operands]), h i (by simp [Op.operands])]
  case index t x i => rw [h x (by simp [Op.operands]), h i (by simp [Op.operands])]
  case slice t x lo hi mx =>
    cases mx with
    | some m =>
      simp only []
      have el : lo.map s.ev = lo.map s'.ev := by cases lo with
        | none => rfl
        | some a => simp only [Option.map_some]; rw [h a (by simp [Op.operands])]
      have eh : hi.map s.ev = hi.map s'.ev := by cases hi with
        | none => rfl
        | some a => simp only [Option.map_some]; rw [h a (by simp [Op.operands])]
      rw [h x (by simp [Op.operands]), h m (by simp [Op.operands]), el, eh]
    | none =>
      simp only []
      rw [h x (by simp [Op.operands])]
      cases lo with
      | none => cases hi with
        | none => rfl
        | some b => simp only []; rw [h b (by simp [Op.operands])]
      | some a => cases hi with
        | none => simp only []; rw [h a (by simp [Op.operands])]
        | some b => simp only []; rw [h a (by simp [Op.operands]), h b (by simp [Op.operands])]
  case build t parts =>
    have : ∀ pl vs, afill pl s.ev vs parts.toList = afill pl s'.ev vs parts.toList := fun pl => afill_congr fun p hp => h p.2 (by
      simp only [Op.operands, List.mem_toArray, List.mem_map]; exact ⟨p, hp, rfl⟩)
    simp only [abuildS, this]
  case makeFunc f first caps =>
    cases f <;> try rfl
    simp only []
    rw [mapL_congr (fun x hx => h x (by simp only [Op.operands, Array.mem_append]; exact .inr (by simpa using hx)))]
  case call c =>
    obtain ⟨callee, args, ts⟩ := c
    cases callee with
    | builtin b =>
      have hm := mapL_congr (s := s) (s' := s') (l := args.toList) (fun x hx => h x (by simp [Op.operands, Call.operands]; simpa using hx))
      cases b <;> first
        | (simp only []; rw [hm]; done)
        | (rw [hm]; done)
        | (simp only [hm]; done)
    | _ => rfl

theorem amemK_congr {P : Program} {s s' : State} {o : Op} (h : ∀ x ∈ o.operands, s.ev x = s'.ev x) (hh : s.h = s'.h) : amemK P s o = amemK P s' o := by
  cases o <;> simp only [amemK]
  case load t x => rw [h x (by simp [Op.operands]), hh]
  case store t x v => rw [h x (by simp [Op.operands]), h v (by simp [Op.operands]), hh]
  case alloc e => rw [hh]
  case box e x => rw [h x (by simp [Op.operands]), hh]
  case makeSlice t l c => rw [h l (by simp [Op.operands]), h c (by simp [Op.operands]), hh]
  case convert a b x => rw [h x (by simp [Op.operands]), hh]
  case slice t x lo hi mx =>
    cases hi with
    | some _ => cases mx <;> rfl
    | none => cases mx with
      | some _ => rfl
      | none =>
        simp only []
        rw [h x (by simp [Op.operands]), hh]
        cases lo with
        | none => rfl
        | some b => simp only []; rw [h b (by simp [Op.operands])]
  case buildSlice t n parts =>
    have : ∀ c, abuild.fill s.ev c parts.toList = abuild.fill s'.ev c parts.toList := fill_congr fun p hp => h p.2 (by
      simp only [Op.operands, List.mem_toArray, List.mem_map]; exact ⟨p, hp, rfl⟩)
    have this2 : ∀ sz i, abcells s.ev sz i parts.toList = abcells s'.ev sz i parts.toList := abcells_congr fun p hp => h p.2 (by
      simp only [Op.operands, List.mem_toArray, List.mem_map]; exact ⟨p, hp, rfl⟩)
    simp only [abuildA, abuild, abuildC, this, this2, hh]
  case call c =>
    obtain ⟨callee, args, ts⟩ := c
    cases callee with
    | builtin b =>
      cases b <;> first
        | rfl
        | (simp only []
           rw [mapL_congr (fun x hx => h x (by simp [Op.operands, Call.operands]; simpa using hx)), hh])
    | _ => rfl
theorem acallK_congr {A : OrcK} {s s' : State} {o : Op} (h : ∀ x ∈ o.operands, s.ev x = s'.ev x) (hh : s.h = s'.h) : acallK A s o = acallK A s' o := by
  cases o <;> simp only [acallK]
  case call c =>
    obtain ⟨callee, args, ts⟩ := c
    cases callee with
    | value f =>
      simp only []
      rw [h f (by simp [Op.operands, Call.operands]), mapL_congr (fun x hx => h x (by simp [Op.operands, Call.operands]; exact .inr (by simpa using hx))), hh]
    | _ => rfl
theorem astepK_congr {P : Program} {A : OrcK} {s s' : State} {o : Op} (h : ∀ x ∈ o.operands, s.ev x = s'.ev x) (hh : s.h = s'.h) : astepK P A s o = astepK P A s' o := by
  unfold astepK
  rw [apureK_congr h, amemK_congr h hh, acallK_congr h hh, hh]

theorem opOf_congr {P : Program} {A : OrcK} {ops : Array Oper} {o : Oper} {s s' : State} (h : ∀ t ∈ o.looksAt ops, nth s.t t = nth s'.t t) (hh : s.h = s'.h) : opOf P A ops o s = opOf P A ops o s' := by
  have hx : ∀ x ∈ o.op.operands, s.ev x = s'.ev x := fun x hx => ev_congr fun t ht => h t (by
    subst ht
    simp only [Oper.looksAt, List.mem_append, List.mem_filterMap]
    exact .inl ⟨.tmp t, by simpa using hx, rfl⟩)
  have hy : opY P A o.op s = opY P A o.op s' := by
    unfold opY
    split
    · rename_i c a b hop
      rw [hx c (by simp [hop, Op.operands]), hx a (by simp [hop, Op.operands]), hx b (by simp [hop, Op.operands]), hh]
    · rw [astepK_congr hx hh]
  unfold opOf guardY
  rw [hy, hh]
  cases hg : o.guard with
  | none => rfl
  | some jw =>
    obtain ⟨j, want⟩ := jw
    simp only []
    cases hd : gslot ops j with
    | none => rfl
    | some d =>
      simp only []
      have : nth s.t d = nth s'.t d := h d (by
        simp only [Oper.looksAt, List.mem_append]
        right
        rw [hg]
        simp only [gslot, nth_eq, Array.getElem?_toList] at hd
        cases hj : ops[j]? with
        | none => simp [hj] at hd
        | some o' => simp [hj] at hd; simp [hj, hd])
      rw [this]

/-! ### What a step does to the heap -/

theorem nth_app {α : Type} {l m : List α} {i : Nat} {x : α} (h : nth l i = some x) : nth (app l m) i = some x := by
  rw [nth_eq] at h
  rw [nth_eq, app_eq, List.getElem?_append_left (List.getElem?_eq_some_iff.1 h).1]; exact h
theorem acellK_app {H new : Heap} {x : AVal} {i : Nat} {r : Bool × AVal} (h : acellK H x i = some r) : acellK (app H new) x i = some r := by
  unfold acellK at h ⊢
  split at h
  · exact h
  · exact h
  · split at h
    · rename_i blk hb
      simp only [nth_app hb]; exact h
    · cases h
  · cases h
theorem acellsK_app {H new : Heap} {x : AVal} : ∀ {n i : Nat} {r : Bool × List AVal}, acellsK H x i n = some r → acellsK (app H new) x i n = some r
  | 0, i, r, h => h
  | n + 1, i, r, h => by
    simp only [acellsK] at h ⊢
    split at h
    · rename_i b v hv
      split at h
      · rename_i b' r' hr
        simp only [acellK_app hv, acellsK_app hr]; exact h
      · cases h
    · cases h
theorem aloadK_app {P : Program} {H new : Heap} {t : TypeId} {x : AVal} {r : Bool × AVal} (h : aloadK P H t x = some r) : aloadK P (app H new) t x = some r := by
  unfold aloadK at h ⊢
  split at h
  · rename_i d hd
    cases hag : isAggD d
    · simp only [hag, cond_false] at h ⊢; exact acellK_app h
    · simp only [hag, cond_true] at h ⊢
      split at h
      · rename_i n hz
        split at h
        · rename_i b vs hvs
          simp only [acellsK_app hvs]; exact h
        · cases h
      · cases h
  · cases h

theorem areadK_app {H new : Heap} {x : AVal} {r : Bool × Cont} (h : areadK H x = some r) : areadK (app H new) x = some r := by
  unfold areadK at h ⊢
  split at h
  · exact h
  · split at h
    · rename_i hb
      simp only [nth_app hb]; exact h
    · cases h
  · cases h
theorem aconvMK_app {P : Program} {H new : Heap} {a b : TypeId} {x : AVal} {r : Bool × AVal} (h : aconvMK P H a b x = some r) : aconvMK P (app H new) a b x = some r := by
  unfold aconvMK at h ⊢
  split at h
  · rename_i e h1 h2
    try simp only [h1, h2]
    split at h
    · rename_i h3
      try simp only [h3]
      split at h
      · rename_i hr
        simp only [areadK_app hr]; exact h
      · cases h
    · cases h
  · rename_i e h1 h2
    try simp only [h1, h2]
    exact h
  · cases h
theorem asliceMK_app {P : Program} {H new : Heap} {t : TypeId} {x : AVal} {lo : Option AVal} {r : Bool × AVal} (h : asliceMK P H t x lo = some r) : asliceMK P (app H new) t x lo = some r := by
  unfold asliceMK at h ⊢
  split at h
  · rename_i hu
    try simp only [hu]
    split at h
    · rename_i hz
      try simp only [hz]
      split at h
      · rename_i hb
        simp only [nth_app hb]; exact h
      · cases h
    · cases h
  · cases h
theorem low_mem {P : Program} {A : OrcK} {s : State} {o : Op} (h0 : cls o = 0) : amemK P s o = none ∧ acallK A s o = none := by
  cases o <;> simp only [cls] at h0 <;> first | exact ⟨rfl, rfl⟩ | skip
  case call c =>
    obtain ⟨callee, args, ts⟩ := c
    cases callee <;> simp only [] at h0
    case builtin b => cases b <;> first | exact ⟨rfl, rfl⟩ | (simp at h0)
    all_goals simp at h0
  all_goals simp at h0

theorem ev_heap (t : List AVal) (h h' : Heap) : State.ev ⟨t, h⟩ = State.ev ⟨t, h'⟩ := by
  funext x; cases x <;> rfl

theorem astepK_low {P : Program} {A : OrcK} {s : State} {o : Op} (h0 : cls o ≤ 1) {b : Bool} {v : AVal} {h' : Heap} (h : astepK P A s o = some (b, v, h')) :
    h' = s.h ∧ ∀ new, astepK P A ⟨s.t, app s.h new⟩ o = some (b, v, app s.h new) := by
  have hev : ∀ h, State.ev ⟨s.t, h⟩ = s.ev := fun h => ev_heap s.t h s.h
  rcases Nat.lt_or_ge (cls o) 1 with hc | hc
  · obtain ⟨m1, m2⟩ := low_mem (P := P) (A := A) (s := s) (o := o) (by omega)
    unfold astepK at h ⊢
    rw [m1, m2] at h
    split at h
    · rename_i b' v' hp
      simp only [Option.some.injEq, Prod.mk.injEq] at h
      obtain ⟨rfl, rfl, rfl⟩ := h
      exact ⟨rfl, fun new => by rw [hev, hp]⟩
    · cases h
  · have acn : ∀ s : State, acallK A s o = none := by
      intro s
      cases o <;> simp only [cls] at h0 hc <;> first | rfl | (exfalso; omega) | skip
      case call c =>
        obtain ⟨callee, args, ts⟩ := c
        cases callee <;> simp only [] at h0 hc
        case builtin b => cases b <;> first | rfl | (simp at h0 hc)
        all_goals (exfalso; omega)
    have mem : ∀ {b : Bool} {v : AVal} {h' : Heap}, amemK P s o = some (b, v, h') → h' = s.h ∧ ∀ new, amemK P ⟨s.t, app s.h new⟩ o = some (b, v, app s.h new) := by
      intro b v h' hm
      clear h
      cases o <;> simp only [cls] at h0 hc <;> simp only [amemK, reduceCtorEq] at hm
      case load t x =>
        split at hm
        · rename_i b' u hu
          simp only [Option.some.injEq, Prod.mk.injEq] at hm
          obtain ⟨rfl, rfl, rfl⟩ := hm
          exact ⟨rfl, fun new => by simp only [amemK, hev, aloadK_app hu]⟩
        · cases hm
      case convert c d x =>
        split at hm
        · rename_i b' u hu
          simp only [Option.some.injEq, Prod.mk.injEq] at hm
          obtain ⟨rfl, rfl, rfl⟩ := hm
          exact ⟨rfl, fun new => by simp only [amemK, hev, aconvMK_app hu]⟩
        · cases hm
      case slice t x lo hi mx =>
        cases hi with
        | some _ => cases mx <;> cases hm
        | none =>
          cases mx with
          | some _ => cases hm
          | none =>
            simp only [] at hm
            split at hm
            · rename_i b' u hu
              simp only [Option.some.injEq, Prod.mk.injEq] at hm
              obtain ⟨rfl, rfl, rfl⟩ := hm
              exact ⟨rfl, fun new => by simp only [amemK, hev]; rw [asliceMK_app hu]⟩
            · cases hm
      all_goals (exfalso; first | omega | (revert hm; simp) | skip)
      case call c =>
        obtain ⟨callee, args, ts⟩ := c
        cases callee <;> simp only [] at h0 hc
        case builtin b => cases b <;> simp at h0 hc
        all_goals omega
    unfold astepK at h ⊢
    split at h
    · rename_i b' v' hp
      simp only [Option.some.injEq, Prod.mk.injEq] at h
      obtain ⟨rfl, rfl, rfl⟩ := h
      exact ⟨rfl, fun new => by rw [hev, hp]⟩
    · rename_i hp
      split at h
      · rename_i r hr
        simp only [Option.some.injEq] at h
        subst h
        obtain ⟨m1, m2⟩ := mem hr
        exact ⟨m1, fun new => by simp only [hev, hp, m2 new]⟩
      · rw [acn] at h; cases h

theorem opOf_low {P : Program} {A : OrcK} {ops : Array Oper} {o : Oper} {s : State} (h0 : cls o.op ≤ 1) {v : AVal} {h' : Heap} (h : opOf P A ops o s = some (v, h')) :
    h' = s.h ∧ ∀ new, opOf P A ops o ⟨s.t, app s.h new⟩ = some (v, app s.h new) := by
  have hy : ∀ {v h'}, opY P A o.op s = some (v, h') → h' = s.h ∧ ∀ new, opY P A o.op ⟨s.t, app s.h new⟩ = some (v, app s.h new) := by
    intro v h' hh
    unfold opY at hh ⊢
    have hev : ∀ h, State.ev ⟨s.t, h⟩ = s.ev := fun h => ev_heap s.t h s.h
    split at hh
    · split at hh
      · rename_i c a b hop t ht
        simp only [Option.some.injEq, Prod.mk.injEq] at hh
        obtain ⟨rfl, rfl⟩ := hh
        exact ⟨rfl, fun new => by rw [hev, ht]⟩
      · cases hh
    · obtain ⟨u, h1, hs, hh⟩ := thenK_some hh
      simp only [Option.some.injEq, Prod.mk.injEq] at hh
      obtain ⟨rfl, rfl⟩ := hh
      obtain ⟨k1, k2⟩ := astepK_low h0 hs
      exact ⟨k1, fun new => by rw [k2 new]; rfl⟩
  have no : ∀ {v h'}, some (AVal.undef, s.h) = some (v, h') → h' = s.h ∧ ∀ new, some (AVal.undef, app s.h new) = some (v, app s.h new) := by
    intro v h' hh
    simp only [Option.some.injEq, Prod.mk.injEq] at hh
    obtain ⟨rfl, rfl⟩ := hh
    exact ⟨rfl, fun _ => rfl⟩
  unfold opOf guardY at h ⊢
  generalize o.guard = g at h ⊢
  cases g with
  | none => exact hy h
  | some jw =>
    obtain ⟨j, want⟩ := jw
    simp only [] at h ⊢
    split at h
    · split at h
      · rename_i b _
        cases b <;> cases want <;> simp only [cond_true, cond_false] at h ⊢ <;> first | exact hy h | exact no h
      · exact no h
      · cases h
    · cases h

/-- A step that makes memory at the most puts blocks behind the heap. -/
theorem snoc_app (H : Heap) (b : Blk) : snoc H b = app H [b] := by rw [snoc_eq, app_eq]
theorem astepK_ext {P : Program} {A : OrcK} {s : State} {o : Op} (h0 : cls o ≤ 2) {b : Bool} {v : AVal} {h' : Heap} (h : astepK P A.exts s o = some (b, v, h')) : h' = s.h ∨ ∃ new, h' = app s.h new := by
  rcases Nat.lt_or_ge (cls o) 2 with hc | hc
  · exact .inl (astepK_low (by omega) h).1
  · unfold astepK at h
    split at h
    · simp only [Option.some.injEq, Prod.mk.injEq] at h; exact .inl h.2.2.symm
    · rename_i hno; clear hno
      split at h
      · rename_i r hr
        simp only [Option.some.injEq] at h; subst h
        cases o <;> simp only [cls] at h0 hc <;> simp only [amemK, reduceCtorEq] at hr <;> try (exfalso; omega)
        case alloc e =>
          right
          unfold aalloc at hr
          split at hr
          · rename_i r' hr'
            simp only [Option.some.injEq, Prod.mk.injEq] at hr
            obtain ⟨_, rfl⟩ := hr
            split at hr'
            · split at hr'
              · simp only [Option.some.injEq, Prod.mk.injEq] at hr'; exact ⟨_, by rw [← hr'.2, snoc_app]⟩
              · cases hr'
            · cases hr'
          · cases hr
        case box e x =>
          right
          unfold abox at hr
          split at hr
          · rename_i r' hr'
            simp only [Option.some.injEq, Prod.mk.injEq] at hr
            obtain ⟨_, rfl⟩ := hr
            split at hr'
            · simp only [Option.some.injEq, Prod.mk.injEq] at hr'; exact ⟨_, by rw [← hr'.2, snoc_app]⟩
            · cases hr'
          · cases hr
        case makeSlice t l c =>
          right
          unfold amakeK at hr
          split at hr
          · split at hr
            · split at hr
              · split at hr
                · simp only [Option.some.injEq, Prod.mk.injEq] at hr; exact ⟨_, by rw [← hr.2.2, snoc_app]⟩
                · cases hr
              · cases hr
            · cases hr
          · cases hr
        case buildSlice t n parts =>
          split at hr
          · rename_i r' hr'
            obtain ⟨r1, r2⟩ := r'
            simp only [Option.some.injEq, Prod.mk.injEq] at hr
            obtain ⟨_, _, rfl⟩ := hr
            rcases abuildA_tip hr' with rfl | ⟨b, rfl⟩
            · exact .inl rfl
            · exact .inr ⟨_, by rw [snoc_app]⟩
          · cases hr
        case call c =>
          obtain ⟨callee, args, ts⟩ := c
          cases callee
          case builtin b => cases b <;> simp at h0 hc
          all_goals (exfalso; revert hr; simp)
      · rename_i hno; clear hno
        cases o <;> simp only [acallK, reduceCtorEq] at h
        case call c =>
          obtain ⟨callee, args, ts⟩ := c
          cases callee <;> simp only [reduceCtorEq] at h
          case value f =>
            split at h
            · rename_i fid caps hf
              split at h
              · rename_i b' u e hr
                simp only [Option.some.injEq, Prod.mk.injEq] at h
                obtain ⟨rfl, rfl, rfl⟩ := h
                unfold OrcK.exts at hr
                split at hr
                · rename_i n hn
                  simp only [Option.some.injEq, Prod.mk.injEq] at hr
                  obtain ⟨_, _, rfl⟩ := hr
                  cases n with
                  | nil => exact .inl rfl
                  | cons b r => exact .inr ⟨b :: r, rfl⟩
                · cases hr
              · cases h
            · cases h
theorem opOf_ext {P : Program} {A : OrcK} {ops : Array Oper} {o : Oper} {s : State} (h0 : cls o.op ≤ 2) {v : AVal} {h' : Heap} (h : opOf P A.exts ops o s = some (v, h')) : h' = s.h ∨ ∃ new, h' = app s.h new := by
  have hy : ∀ {v h'}, opY P A.exts o.op s = some (v, h') → h' = s.h ∨ ∃ new, h' = app s.h new := by
    intro v h' hh
    unfold opY at hh
    split at hh
    · split at hh
      · simp only [Option.some.injEq, Prod.mk.injEq] at hh; exact .inl hh.2.symm
      · cases hh
    · obtain ⟨u, h1, hs, hh⟩ := thenK_some hh
      simp only [Option.some.injEq, Prod.mk.injEq] at hh
      obtain ⟨rfl, rfl⟩ := hh
      exact astepK_ext h0 hs
  have no : ∀ {v h'}, some (AVal.undef, s.h) = some (v, h') → h' = s.h ∨ ∃ new, h' = app s.h new := by
    intro v h' hh
    simp only [Option.some.injEq, Prod.mk.injEq] at hh
    exact .inl hh.2.symm
  unfold opOf guardY at h
  generalize o.guard = g at h
  cases g with
  | none => exact hy h
  | some jw =>
    obtain ⟨j, want⟩ := jw
    simp only [] at h
    split at h
    · split at h
      · rename_i b _
        cases b <;> cases want <;> simp only [cond_true, cond_false] at h <;> first | exact hy h | exact no h
      · exact no h
      · cases h
    · cases h

end Go.Proofs.YtjhofofieiiplaaGreatDoor.Ab
