/-
  The abstract machine's steps again, with what has to be checked beside the value, so that no value hangs on a check: each comes to what the first form comes to.
-/
import Derived.Test.YtjhofofieiiplaaGreatDoorAbDef
namespace Go.Proofs.YtjhofofieiiplaaGreatDoor.Ab
open Go
set_option linter.unusedVariables false
set_option linter.unusedSimpArgs false

/-- Sums and products that see a plain 0 or 1. -/
def mulN (n : Nat) : Nat → Nat
  | 1 => n
  | s => n * s
def addR (a : Nat) : Nat → Nat
  | 0 => a
  | n + 1 => a + (n + 1)
def addL : Nat → Nat → Nat
  | 0, b => b
  | n + 1, b => n + 1 + b
theorem mulN_eq (n s : Nat) : mulN n s = n * s := by unfold mulN; split <;> simp
theorem addR_eq (a b : Nat) : addR a b = a + b := by cases b <;> rfl
theorem addL_eq (a b : Nat) : addL a b = a + b := by cases a <;> simp [addL]

/-- An element, or a default. -/
def gz (xs : List Int) (i : Nat) : Int := xs.getD i 0
def gn (xs : List Nat) (i : Nat) : Nat := xs.getD i 0
def gb (xs : List Bool) (i : Nat) : Bool := xs.getD i false
def gs (xs : List ByteArray) (i : Nat) : ByteArray := xs.getD i ByteArray.empty
def gc (xs : List (Nat × Nat)) (i : Nat) : Nat × Nat := xs.getD i (0, 0)
def gr (xs : List (List Int)) (i : Nat) : List Int := xs.getD i []

def Cont.getK : Cont → Nat → Bool × AVal
  | .ints k xs, i => (decide (i < xs.length), .int k (gz xs i))
  | .flts k xs, i => (decide (i < xs.length), .flt k (gn xs i))
  | .cpxs k xs, i => (decide (i < xs.length), .cpx k (gc xs i).1 (gc xs i).2)
  | .bools xs, i => (decide (i < xs.length), .bool (gb xs i))
  | .strs xs, i => (decide (i < xs.length), .str (gs xs i))
  | .rows k xs, i => (decide (i < xs.length), .ro (.ints k (gr xs i)) (gr xs i).length 1)
  | .recs .., _ => (false, .top)
theorem Cont.getK_ok {c : Cont} {i : Nat} {v : AVal} (h : c.getK i = (true, v)) : c.get? i = some v := by
  cases c <;> simp only [Cont.getK, Prod.mk.injEq, decide_eq_true_eq, Bool.false_eq_true, false_and] at h <;> obtain ⟨hi, rfl⟩ := h <;> simp [Cont.get?, gz, gn, gc, gb, gs, gr, hi]

def Cont.setK : Cont → Nat → AVal → Option (Bool × Cont)
  | .ints k xs, i, .int k' n => if k = k' then some (decide (i < xs.length), .ints k (xs.set i n)) else none
  | .flts k xs, i, .flt k' n => if k = k' then some (decide (i < xs.length), .flts k (xs.set i n)) else none
  | .cpxs k xs, i, .cpx k' a b => if k = k' then some (decide (i < xs.length), .cpxs k (xs.set i (a, b))) else none
  | .bools xs, i, .bool b => some (decide (i < xs.length), .bools (xs.set i b))
  | .strs xs, i, .str b => some (decide (i < xs.length), .strs (xs.set i b))
  | .rows k xs, i, .ro c n z => match c with
    | .ints k' r => if k = k' then some (eqN z 1 && decide (i < xs.length), .rows k (xs.set i (r.take n))) else none
    | _ => none
  | _, _, _ => none
theorem Cont.setK_ok {c c' : Cont} {i : Nat} {v : AVal} (h : c.setK i v = some (true, c')) : c.set? i v = some c' := by
  cases c <;> cases v <;> simp only [Cont.setK, reduceCtorEq] at h <;> simp only [Cont.set?]
  case rows.ro k xs c n z =>
    cases c <;> simp only [reduceCtorEq] at h ⊢
    case ints k' r =>
      split at h
      · rename_i hk
        rw [if_pos hk]
        simp only [Option.some.injEq, Prod.mk.injEq, eqN_eq, Bool.and_eq_true, beq_iff_eq, decide_eq_true_eq] at h
        obtain ⟨⟨h1, h3⟩, rfl⟩ := h
        simp [h1, h3]
      · cases h
  case bools.bool xs b =>
    simp only [Option.some.injEq, Prod.mk.injEq, decide_eq_true_eq] at h
    obtain ⟨h1, rfl⟩ := h
    simp [h1]
  case strs.str xs b =>
    simp only [Option.some.injEq, Prod.mk.injEq, decide_eq_true_eq] at h
    obtain ⟨h1, rfl⟩ := h
    simp [h1]
  all_goals
    split at h
    · rename_i hk
      rw [if_pos hk]
      simp only [Option.some.injEq, Prod.mk.injEq, decide_eq_true_eq] at h
      obtain ⟨h1, rfl⟩ := h
      simp [h1]
    · cases h

def gaK : List AVal → Nat → Bool × AVal
  | [], _ => (false, .top)
  | v :: _, 0 => (true, v)
  | _ :: r, i + 1 => gaK r i
theorem gaK_nth : ∀ {vs : List AVal} {i : Nat} {v : AVal}, nth vs i = some v → gaK vs i = (true, v)
  | [], i, v, h => by cases i <;> cases h
  | x :: r, 0, v, h => by simp only [nth, Option.some.injEq] at h; subst h; rfl
  | x :: r, i + 1, v, h => gaK_nth (vs := r) h
theorem gaK_ok : ∀ {vs : List AVal} {i : Nat} {v : AVal}, gaK vs i = (true, v) → nth vs i = some v
  | [], i, v, h => by cases i <;> cases h
  | x :: r, 0, v, h => by simp only [gaK, Prod.mk.injEq, true_and] at h; subst h; rfl
  | x :: r, i + 1, v, h => gaK_ok (vs := r) h
def BC.getK : BC → Nat → Option (Bool × AVal)
  | .typ c, i => some (c.getK i)
  | .cells vs, i => some ((gaK vs i).1, (gaK vs i).2)
theorem BC.getK_ok {c : BC} {i : Nat} {v : AVal} (h : c.getK i = some (true, v)) : c.get? i = some v := by
  cases c with
  | typ c => simp only [BC.getK, Option.some.injEq] at h; exact Cont.getK_ok h
  | cells vs =>
    simp only [BC.getK, Option.some.injEq] at h
    exact gaK_ok h
def BC.setK : BC → Nat → AVal → Option (Bool × BC)
  | .typ c, i, v => match c.setK i v with | some (b, c') => some (b, .typ c') | none => none
  | .cells vs, i, v => some (v.isCell && decide (i < hlen vs), .cells (upd vs i v))
theorem BC.setK_ok {c c' : BC} {i : Nat} {v : AVal} (h : c.setK i v = some (true, c')) : c.set? i v = some c' := by
  cases c with
  | typ c =>
    simp only [BC.setK] at h
    split at h
    · rename_i b c1 h1
      simp only [Option.some.injEq, Prod.mk.injEq] at h
      obtain ⟨rfl, rfl⟩ := h
      simp [BC.set?, Cont.setK_ok h1]
    · cases h
  | cells vs =>
    simp only [BC.setK, Option.some.injEq, Prod.mk.injEq] at h
    obtain ⟨hc, rfl⟩ := h
    simp [BC.set?, hc]

/-- The checks of the operators. -/
def abinK (P : Program) (t : TypeId) (op : BinOp) (x y : AVal) : Option (Bool × AVal) :=
  match op, x, y with
  | .shl, .int k a, .int _ b => some (decide (0 ≤ b), .int k (ishl.sv k a b))
  | .shr, .int k a, .int _ b => some (decide (0 ≤ b), .int k (ishr.sv k a b))
  | .quo, .int k a, .int k' b => if k = k' then some (!(b == 0), .int k (k.wrap (a.tdiv b))) else none
  | .rem, .int k a, .int k' b => if k = k' then some (!(b == 0), .int k (a.tmod b)) else none
  | .add, .str a, .str b => some (decide (satn.sv a + satn.sv b ≤ 9223372036854775807), .str (sadd.sv a b))
  | .add, .cpx k a b, .cpx k' c d => if k = k' then some (cadd.ok.sp k a b c d, .cpx k (fadd k a c) (fadd k b d)) else none
  | op, x, y => match abin P t op x y with | some v => some (true, v) | none => none
theorem abinK_ok {P : Program} {t : TypeId} {op : BinOp} {x y v : AVal} (h : abinK P t op x y = some (true, v)) : abin P t op x y = some v := by
  unfold abinK at h
  split at h
  · simp only [Option.some.injEq, Prod.mk.injEq, decide_eq_true_eq] at h; obtain ⟨h1, rfl⟩ := h; simp [abin, h1]
  · simp only [Option.some.injEq, Prod.mk.injEq, decide_eq_true_eq] at h; obtain ⟨h1, rfl⟩ := h; simp [abin, h1]
  · split at h
    · rename_i hk; subst hk
      simp only [Option.some.injEq, Prod.mk.injEq] at h; obtain ⟨h1, rfl⟩ := h; simp only [abin, h1, cond_true, if_true]
    · cases h
  · split at h
    · rename_i hk; subst hk
      simp only [Option.some.injEq, Prod.mk.injEq] at h; obtain ⟨h1, rfl⟩ := h; simp only [abin, h1, cond_true, if_true]
    · cases h
  · simp only [Option.some.injEq, Prod.mk.injEq] at h; obtain ⟨h1, rfl⟩ := h; simp only [abin, h1, cond_true]
  · split at h
    · rename_i hk; subst hk
      simp only [Option.some.injEq, Prod.mk.injEq] at h; obtain ⟨h1, rfl⟩ := h; simp only [abin, h1, cond_true, if_true]
    · cases h
  · split at h
    · rename_i u hu; simp only [Option.some.injEq, Prod.mk.injEq, true_and] at h; subst h; exact hu
    · cases h

def recCsK (fs : List Fld) (b : Nat) : List Nat → Nat → List AVal
  | [], _ => []
  | k :: r, j => recC k fs (addL b j) :: recCsK fs b r (j + 1)
theorem recCsK_eq (fs : List Fld) (b : Nat) : ∀ (sh : List Nat) (j : Nat), recCsK fs b sh j = recCs fs b sh j
  | [], _ => rfl
  | k :: r, j => by rw [recCsK, recCs, recCsK_eq fs b r, addL_eq]
def lenN : List Nat → Nat
  | [] => 0
  | _ :: r => lenN r + 1
theorem lenN_eq : ∀ l : List Nat, lenN l = l.length
  | [] => rfl
  | _ :: r => by rw [lenN, lenN_eq r, List.length_cons]
def roIdxK (c : Cont) (len z sz : Nat) (n : Int) : Bool × AVal := match c with
  | .recs sh fs => (eqN z sz && (eqN (lenN sh) sz && (recfit.sp sh fs && (decide (0 ≤ n) && decide (n < len)))), .rom (recCsK fs (mulN n.toNat sz) sh 0) 0)
  | c => (eqN z sz && (decide (0 ≤ n) && decide (n < len)), .rop c (mulN n.toNat sz))
theorem roIdxK_ok {c : Cont} {len z sz : Nat} {n : Int} {v : AVal} (h : roIdxK c len z sz n = (true, v)) : roIdx c len z sz n = some v := by
  unfold roIdxK at h
  unfold roIdx
  cases c <;> simp only [Prod.mk.injEq, eqN_eq, lenN_eq, recCsK_eq, mulN_eq, Bool.and_eq_true, beq_iff_eq, decide_eq_true_eq] at h
  case recs sh fs =>
    obtain ⟨⟨h1, h2, h3, h4, h5⟩, rfl⟩ := h
    simp [h1, h2, h3, h4, h5]
  all_goals
    obtain ⟨⟨h1, h2, h3⟩, rfl⟩ := h
    simp [h1, h2, h3]
def aindexK (P : Program) (t : TypeId) (x i : AVal) : Option (Bool × AVal) :=
  match P.underlying t with
  | some (.slice e) =>
    match asz P e, x, i with
    | some sz, .ro c len z, .int _ n => some (roIdxK c len z sz n)
    | some sz, .own l off len ver z, .int _ n => some (eqN z sz && (decide (0 ≤ n) && decide (n < len)), .ptr l (addL off (mulN n.toNat sz)) ver)
    | some sz, .ros vs len z, .int _ n => some (eqN z sz && (decide (0 ≤ n) && decide (n < len)), .rom vs (mulN n.toNat sz))
    | _, _, _ => none
  | some (.array len e) =>
    match asz P e, x, i with
    | some sz, .ptr l off ver, .int _ n => some (decide (0 ≤ n) && decide (n < len), .ptr l (addL off (mulN n.toNat sz)) ver)
    | some sz, .rom vs off, .int _ n => some (decide (0 ≤ n) && decide (n < len), .rom vs (addL off (mulN n.toNat sz)))
    | _, _, _ => none
  | _ => none
theorem aindexK_ok {P : Program} {t : TypeId} {x i v : AVal} (h : aindexK P t x i = some (true, v)) : aindex P t x i = some v := by
  unfold aindexK at h
  unfold aindex
  split at h
  · rename_i e hu
    simp only [hu]
    split at h
    · rename_i sz c len z k n hz
      simp only [Option.some.injEq] at h
      simp only [hz]
      exact roIdxK_ok h
    · rename_i sz l off len ver z k n hz
      simp only [Option.some.injEq, Prod.mk.injEq, eqN_eq, Bool.and_eq_true, beq_iff_eq, decide_eq_true_eq] at h
      obtain ⟨⟨h1, h2, h3⟩, rfl⟩ := h
      simp [hz, h1, h2, h3, mulN_eq, addL_eq]
    · rename_i sz vs len z k n hz
      simp only [Option.some.injEq, Prod.mk.injEq, eqN_eq, Bool.and_eq_true, beq_iff_eq, decide_eq_true_eq] at h
      obtain ⟨⟨h1, h2, h3⟩, rfl⟩ := h
      simp [hz, h1, h2, h3, mulN_eq, addL_eq]
    · cases h
  · rename_i len e hu
    simp only [hu]
    split at h
    · rename_i sz l off ver k n hz
      simp only [Option.some.injEq, Prod.mk.injEq, Bool.and_eq_true, decide_eq_true_eq] at h
      obtain ⟨⟨h2, h3⟩, rfl⟩ := h
      simp [hz, h2, h3, mulN_eq, addL_eq]
    · rename_i sz vs off k n hz
      simp only [Option.some.injEq, Prod.mk.injEq, Bool.and_eq_true, decide_eq_true_eq] at h
      obtain ⟨⟨h2, h3⟩, rfl⟩ := h
      simp [hz, h2, h3, mulN_eq, addL_eq]
    · cases h
  · cases h

def aboundK (x : Option AVal) (dflt hi : Nat) : Option (Bool × Nat) :=
  match x with
  | none => some (true, dflt)
  | some (.int _ n) => some (decide (0 ≤ n) && decide (n ≤ hi), n.toNat)
  | _ => none
theorem aboundK_ok {x : Option AVal} {d hi r : Nat} (h : aboundK x d hi = some (true, r)) : abound x d hi = some r := by
  unfold aboundK at h
  split at h
  · simp only [Option.some.injEq, Prod.mk.injEq, true_and] at h; subst h; rfl
  · simp only [Option.some.injEq, Prod.mk.injEq] at h
    obtain ⟨h1, rfl⟩ := h
    simp [abound, h1]
  · cases h
def asliceK (P : Program) (t : TypeId) (x : AVal) (lo hi : Option AVal) : Option (Bool × AVal) :=
  match P.underlying t with
  | some (.slice e) =>
    match asz P e, x with
    | some sz, .ro c len z =>
      match aboundK hi len len with
      | some (b1, h) => match aboundK lo 0 h with
        | some (b2, l) => some (eqN z sz && (b1 && b2), .ro ((c.drop (mulN l sz)).take (mulN (h - l) sz)) (h - l) z)
        | none => none
      | none => none
    | some sz, .own b off len ver z =>
      match aboundK hi len len with
      | some (b1, h) => match aboundK lo 0 h with
        | some (b2, l) => some (eqN z sz && (b1 && (b2 && (eqN l 0 || decide (l < h)))), .own b (addL off (mulN l sz)) (h - l) ver z)
        | none => none
      | none => none
    | _, _ => none
  | some .string => match x with
    | .str s => match aboundK hi s.size s.size with
      | some (b1, h) => match aboundK lo 0 h with
        | some (b2, l) => some (b1 && b2, .str (sext.sv s l h))
        | none => none
      | none => none
    | _ => none
  | _ => none
theorem asliceK_ok {P : Program} {t : TypeId} {x v : AVal} {lo hi : Option AVal} (h : asliceK P t x lo hi = some (true, v)) : aslice P t x lo hi = some v := by
  unfold asliceK at h
  simp only [mulN_eq, addL_eq] at h
  unfold aslice
  split at h
  · rename_i e hu
    simp only [hu]
    split at h
    · rename_i sz c len z hz
      split at h
      · rename_i b1 hh h1
        split at h
        · rename_i b2 l h2
          simp only [Option.some.injEq, Prod.mk.injEq, eqN_eq, Bool.and_eq_true, beq_iff_eq] at h
          obtain ⟨⟨e1, rfl, rfl⟩, rfl⟩ := h
          simp [hz, aboundK_ok h1, aboundK_ok h2, e1]
        · cases h
      · cases h
    · rename_i sz b off len ver z hz
      split at h
      · rename_i b1 hh h1
        split at h
        · rename_i b2 l h2
          simp only [Option.some.injEq, Prod.mk.injEq, eqN_eq, Bool.and_eq_true, Bool.or_eq_true, beq_iff_eq, decide_eq_true_eq] at h
          obtain ⟨⟨e1, rfl, rfl, e4⟩, rfl⟩ := h
          have e5 : (decide (l < hh) || l == 0) = true := by simp only [Bool.or_eq_true, decide_eq_true_eq, beq_iff_eq]; exact e4.symm
          simp [hz, aboundK_ok h1, aboundK_ok h2, e1, e5]
        · cases h
      · cases h
    · cases h
  · rename_i hu
    simp only [hu]
    split at h
    · rename_i s
      split at h
      · rename_i b1 hh h1
        split at h
        · rename_i b2 l h2
          simp only [Option.some.injEq, Prod.mk.injEq, Bool.and_eq_true] at h
          obtain ⟨⟨rfl, rfl⟩, rfl⟩ := h
          simp [aboundK_ok h1, aboundK_ok h2]
        · cases h
      · cases h
    · cases h
  · cases h
def asliceMK (P : Program) (H : Heap) (t : TypeId) (x : AVal) (lo : Option AVal) : Option (Bool × AVal) :=
  match P.underlying t with
  | some (.array n e) =>
    match asz P e, x with
    | some 1, .ptr b 0 ver =>
      match nth H b with
      | some ⟨.typ (.ints _ xs), ver'⟩ =>
        match aboundK lo 0 n with
        | some (b1, l) => some (b1 && ((eqN ver ver' && decide (l < n)) && decide (xs.length = n)), .own b l (n - l) ver 1)
        | none => none
      | _ => none
    | _, _ => none
  | _ => none
theorem asliceMK_ok {P : Program} {H : Heap} {t : TypeId} {x v : AVal} {lo : Option AVal} (h : asliceMK P H t x lo = some (true, v)) : asliceM P H t x lo = some v := by
  unfold asliceMK at h
  unfold asliceM
  split at h
  · rename_i n e hu
    simp only [hu]
    split at h
    · rename_i b ver hz
      split at h
      · rename_i k xs ver' hb
        split at h
        · rename_i b1 l h1
          simp only [Option.some.injEq, Prod.mk.injEq, eqN_eq, Bool.and_eq_true] at h
          obtain ⟨⟨rfl, ⟨h2, h3⟩, h4⟩, rfl⟩ := h
          simp only [hz, hb, aboundK_ok h1, h2, h3, h4, Bool.and_self, cond_true]
        · cases h
      · cases h
    · cases h
  · cases h

/-- Conversions, with the check beside. -/
def aconvK (P : Program) (src dst : TypeId) (x : AVal) : Option (Bool × AVal) :=
  match P.underlying src with
  | none => none
  | some _ =>
    match P.underlying dst, x with
    | some (.int k), .int _ n => some (true, .int k (k.wrap n))
    | some (.float k), .int _ n => some (true, .flt k (k.nearest n))
    | some (.float .f64), .flt .f32 b => some (true, .flt .f64 (fwid.sv b))
    | some (.float .f32), .flt .f32 b => some (true, .flt .f32 b)
    | some (.float .f64), .flt .f64 b => some (true, .flt .f64 b)
    | some (.float .f32), .flt .f64 b => some (nar.ok.sp b, .flt .f32 (nar.sv b))
    | some (.int k), .flt f b => some (fti.ok.sp k f b, .int k (fti.sv f b))
    | some (.complex .f64), .cpx .f32 a b => some (num32.sp a && num32.sp b, .cpx .f64 (fwid.sv a) (fwid.sv b))
    | some (.complex .f32), .cpx .f64 a b => some (narn.sp a && narn.sp b, .cpx .f32 (nar.sv a) (nar.sv b))
    | _, _ => none
theorem aconvK_ok {P : Program} {src dst : TypeId} {x v : AVal} (h : aconvK P src dst x = some (true, v)) : aconv P src dst x = some v := by
  unfold aconvK at h
  unfold aconv
  split at h
  · cases h
  · rename_i d hd
    simp only [hd]
    split at h <;> simp only [Option.some.injEq, Prod.mk.injEq, true_and, reduceCtorEq] at h
    all_goals first
      | (subst h; simp_all; done)
      | (obtain ⟨h1, rfl⟩ := h; simp_all; done)
/-- The greatest of floats, with the check beside. -/
def afmaxK (k : FloatKind) : Bool → Nat → List AVal → Option (Bool × AVal)
  | b, a, [] => some (b, .flt k a)
  | b, a, .flt k' c :: r => if k = k' then afmaxK k (b && ord.sp k a c) (fmax.sv k a c) r else none
  | _, _, _ => none
def amaxK : List AVal → Option (Bool × AVal)
  | .flt k a :: r => afmaxK k true a r
  | _ => none
theorem afmaxK_ok {k : FloatKind} : ∀ (r : List AVal) (b : Bool) (a : Nat) (v : AVal), afmaxK k b a r = some (true, v) → b = true ∧ afold amax2 (.flt k a) r = some v := by
  intro r
  induction r with
  | nil =>
    intro b a v h
    simp only [afmaxK, Option.some.injEq, Prod.mk.injEq] at h
    obtain ⟨rfl, rfl⟩ := h
    exact ⟨rfl, rfl⟩
  | cons x r ih =>
    intro b a v h
    cases x <;> simp only [afmaxK, reduceCtorEq] at h
    rename_i k' c
    split at h
    · rename_i hk
      subst hk
      obtain ⟨h1, h2⟩ := ih _ _ _ h
      rw [Bool.and_eq_true] at h1
      refine ⟨h1.1, ?_⟩
      simp only [afold, amax2, h1.2, if_true, cond_true]
      exact h2
    · cases h
/-- The least of floats, with the check beside. -/
def afminK (k : FloatKind) : Bool → Nat → List AVal → Option (Bool × AVal)
  | b, a, [] => some (b, .flt k a)
  | b, a, .flt k' c :: r => if k = k' then afminK k (b && ord.sp k a c) (fmin.sv k a c) r else none
  | _, _, _ => none
def aminK : List AVal → Option (Bool × AVal)
  | .flt k a :: r => afminK k true a r
  | _ => none
theorem afminK_ok {k : FloatKind} : ∀ (r : List AVal) (b : Bool) (a : Nat) (v : AVal), afminK k b a r = some (true, v) → b = true ∧ afold amin2 (.flt k a) r = some v := by
  intro r
  induction r with
  | nil =>
    intro b a v h
    simp only [afminK, Option.some.injEq, Prod.mk.injEq] at h
    obtain ⟨rfl, rfl⟩ := h
    exact ⟨rfl, rfl⟩
  | cons x r ih =>
    intro b a v h
    cases x <;> simp only [afminK, reduceCtorEq] at h
    rename_i k' c
    split at h
    · rename_i hk
      subst hk
      obtain ⟨h1, h2⟩ := ih _ _ _ h
      rw [Bool.and_eq_true] at h1
      refine ⟨h1.1, ?_⟩
      simp only [afold, amin2, h1.2, if_true, cond_true]
      exact h2
    · cases h
def aatK (P : Program) (t : TypeId) (x i : AVal) : Option (Bool × AVal) :=
  match P.underlying t, x, i with
  | some .string, .str s, .int _ n => some (decide (0 ≤ n) && decide (n < satn.sv s), .int .u8 (sat.sv s n.toNat))
  | _, _, _ => none
theorem aatK_ok {P : Program} {t : TypeId} {x i v : AVal} (h : aatK P t x i = some (true, v)) : aat P t x i = some v := by
  unfold aatK at h
  split at h
  · rename_i s k n hu
    simp only [Option.some.injEq, Prod.mk.injEq] at h
    obtain ⟨h1, rfl⟩ := h
    simp only [aat, hu, h1, cond_true]
  · cases h
def apureK (P : Program) (ev : Operand → AVal) (o : Op) : Option (Bool × AVal) :=
  match o with
  | .binOp op t x y _ => bif nilC y then (match anil P t op (ev x) with | some v => some (true, v) | none => none) else abinK P t op (ev x) (ev y)
  | .indexAddr t x i => aindexK P t (ev x) (ev i)
  | .slice t x lo hi none => asliceK P t (ev x) (match lo with | some a => some (ev a) | none => none) (match hi with | some a => some (ev a) | none => none)
  | .convert src dst x => aconvK P src dst (ev x)
  | .index t x i => aatK P t (ev x) (ev i)
  | .call { callee := .builtin .max, args := args, argTypes := ts } => match amaxK (mapL ev args.toList) with
    | some r => some r
    | none => match apure P ev (.call { callee := .builtin .max, args := args, argTypes := ts }) with | some v => some (true, v) | none => none
  | .call { callee := .builtin .min, args := args, argTypes := ts } => match aminK (mapL ev args.toList) with
    | some r => some r
    | none => match apure P ev (.call { callee := .builtin .min, args := args, argTypes := ts }) with | some v => some (true, v) | none => none
  | o => match apure P ev o with | some v => some (true, v) | none => none
theorem apureK_ok {P : Program} {ev : Operand → AVal} {o : Op} {v : AVal} (h : apureK P ev o = some (true, v)) : apure P ev o = some v := by
  unfold apureK at h
  split at h
  · rename_i op t x y yt
    simp only [apure]
    cases hn : nilC y with
    | true =>
      simp only [hn, cond_true] at h ⊢
      split at h
      · rename_i u hu; simp only [Option.some.injEq, Prod.mk.injEq, true_and] at h; subst h; exact hu
      · cases h
    | false =>
      simp only [hn, cond_false] at h ⊢
      exact abinK_ok h
  · exact aindexK_ok h
  · rename_i t x lo hi
    have := asliceK_ok h
    simp only [apure]
    cases lo <;> cases hi <;> exact this
  · exact aconvK_ok h
  · exact aatK_ok h
  · rename_i args ts
    split at h
    · rename_i r hr
      simp only [Option.some.injEq] at h
      subst h
      unfold amaxK at hr
      split at hr
      · rename_i k a rest he
        obtain ⟨_, h2⟩ := afmaxK_ok _ _ _ _ hr
        simp only [apure, he, abuiltin]
        exact h2
      · cases hr
    · split at h
      · rename_i u hu; simp only [Option.some.injEq, Prod.mk.injEq, true_and] at h; subst h; exact hu
      · cases h
  · rename_i args ts
    split at h
    · rename_i r hr
      simp only [Option.some.injEq] at h
      subst h
      unfold aminK at hr
      split at hr
      · rename_i k a rest he
        obtain ⟨_, h2⟩ := afminK_ok _ _ _ _ hr
        simp only [apure, he, abuiltin]
        exact h2
      · cases hr
    · split at h
      · rename_i u hu; simp only [Option.some.injEq, Prod.mk.injEq, true_and] at h; subst h; exact hu
      · cases h
  · split at h
    · rename_i u hu; simp only [Option.some.injEq, Prod.mk.injEq, true_and] at h; subst h; exact hu
    · cases h

def acellK (H : Heap) (x : AVal) (i : Nat) : Option (Bool × AVal) :=
  match x with
  | .rop c off => some (c.getK (addR off i))
  | .rom vs off => some ((gaK vs (addR off i)).1, (gaK vs (addR off i)).2)
  | .ptr l off ver => match nth H l with
    | some blk => match blk.c.getK (addR off i) with
      | some (b, v) => some (eqN ver blk.ver && b, v)
      | none => none
    | none => none
  | _ => none
theorem acellK_ok {H : Heap} {x v : AVal} {i : Nat} (h : acellK H x i = some (true, v)) : acell H x i = some v := by
  unfold acellK at h
  simp only [addR_eq] at h
  unfold acell
  split at h
  · simp only [Option.some.injEq] at h; exact Cont.getK_ok h
  · simp only [Option.some.injEq] at h; exact gaK_ok h
  · split at h
    · rename_i blk hb
      simp only [hb]
      split at h
      · rename_i b u hu
        simp only [Option.some.injEq, Prod.mk.injEq, eqN_eq, Bool.and_eq_true, beq_iff_eq] at h
        obtain ⟨⟨h1, rfl⟩, rfl⟩ := h
        simp [h1, BC.getK_ok hu]
      · cases h
    · cases h
  · cases h
def acellsK (H : Heap) (x : AVal) : Nat → Nat → Option (Bool × List AVal)
  | _, 0 => some (true, [])
  | i, n + 1 => match acellK H x i with
    | some (b, v) => match acellsK H x (i + 1) n with
      | some (b', r) => some (b && b', v :: r)
      | none => none
    | none => none
theorem acellsK_ok {H : Heap} {x : AVal} : ∀ {n i : Nat} {vs : List AVal}, acellsK H x i n = some (true, vs) → acells H x i n = some vs
  | 0, i, vs, h => by simp only [acellsK, Option.some.injEq, Prod.mk.injEq, true_and] at h; subst h; rfl
  | n + 1, i, vs, h => by
    simp only [acellsK] at h
    split at h
    · rename_i b v hv
      split at h
      · rename_i b' r hr
        simp only [Option.some.injEq, Prod.mk.injEq, Bool.and_eq_true] at h
        obtain ⟨⟨rfl, rfl⟩, rfl⟩ := h
        simp [acells, acellK_ok hv, acellsK_ok hr]
      · cases h
    · cases h
def aloadK (P : Program) (H : Heap) (t : TypeId) (x : AVal) : Option (Bool × AVal) :=
  match P.underlying t with
  | some d =>
    bif isAggD d then match asz P t with
      | some (n + 1) => match acellsK H x 0 (n + 1) with | some (b, vs) => some (b, .agg vs) | none => none
      | _ => none
    else acellK H x 0
  | none => none
theorem aloadK_ok {P : Program} {H : Heap} {t : TypeId} {x v : AVal} (h : aloadK P H t x = some (true, v)) : aload P H t x = some v := by
  unfold aloadK at h
  unfold aload
  split at h
  · rename_i d hd
    simp only [hd]
    cases hag : isAggD d
    · simp only [hag, cond_false] at h ⊢; exact acellK_ok h
    · simp only [hag, cond_true] at h ⊢
      split at h
      · rename_i n hz
        simp only [hz]
        split at h
        · rename_i b vs hvs
          simp only [Option.some.injEq, Prod.mk.injEq] at h
          obtain ⟨rfl, rfl⟩ := h
          simp [acellsK_ok hvs]
        · cases h
      · cases h
  · cases h

def absetK (c : BC) (off : Nat) : List AVal → Option (Bool × BC)
  | [] => some (true, c)
  | v :: r => match c.setK off v with
    | some (b, c') => match absetK c' (off + 1) r with
      | some (b', c'') => some (b && b', c'')
      | none => none
    | none => none
theorem absetK_ok : ∀ {vs : List AVal} {c c' : BC} {off : Nat}, absetK c off vs = some (true, c') → abset c off vs = some c'
  | [], c, c', off, h => by simp only [absetK, Option.some.injEq, Prod.mk.injEq, true_and] at h; subst h; rfl
  | v :: r, c, c', off, h => by
    simp only [absetK] at h
    split at h
    · rename_i b c1 h1
      split at h
      · rename_i b' c2 h2
        simp only [Option.some.injEq, Prod.mk.injEq, Bool.and_eq_true] at h
        obtain ⟨⟨rfl, rfl⟩, rfl⟩ := h
        simp [abset, BC.setK_ok h1, absetK_ok h2]
      · cases h
    · cases h
def astoreK (P : Program) (H : Heap) (t : TypeId) (x v : AVal) : Option (Bool × Heap) :=
  match asz P t, x, v.cells? with
  | some sz, .ptr l off ver, some vs => match nth H l with
      | some blk => match absetK blk.c off vs with
          | some (b, c') => some (eqN (hlen vs) sz && (eqN ver blk.ver && b), upd H l ⟨c', blk.ver⟩)
          | none => none
      | none => none
  | _, _, _ => none
theorem astoreK_ok {P : Program} {H H' : Heap} {t : TypeId} {x v : AVal} (h : astoreK P H t x v = some (true, H')) : astore P H t x v = some H' := by
  unfold astoreK at h
  unfold astore
  split at h
  · rename_i sz l off ver vs hz hvs
    simp only [hz, hvs]
    split at h
    · rename_i blk hb
      split at h
      · rename_i b c' hc
        simp only [Option.some.injEq, Prod.mk.injEq, eqN_eq, Bool.and_eq_true, beq_iff_eq] at h
        obtain ⟨⟨h1, h2, rfl⟩, rfl⟩ := h
        simp [h1, hb, h2, absetK_ok hc]
      · cases h
    · cases h
  · cases h

def amakeK (P : Program) (H : Heap) (t : TypeId) (len cap : AVal) : Option (Bool × AVal × Heap) :=
  match P.underlying t, len, cap with
  | some (.slice e), .int _ n, .int _ m =>
    match P.info? e with
    | some i => match i.zero with
      | some z => match azeros z n.toNat with
          | some c => some (i.size == 1 && (n == m && (decide (0 ≤ n) && (decide (n * i.bytes ≤ 140737488355328) && decide (n ≤ 4611686018427387904)))), .own (hlen H) 0 n.toNat 0 1, snoc H ⟨.typ c, 0⟩)
          | none => none
      | none => none
    | none => none
  | _, _, _ => none
theorem amakeK_ok {P : Program} {H H' : Heap} {t : TypeId} {x y v : AVal} (h : amakeK P H t x y = some (true, v, H')) : amake P H t x y = some (v, H') := by
  unfold amakeK at h
  unfold amake
  split at h
  · rename_i e k n k' m hu
    simp only [hu]
    split at h
    · rename_i i hi
      simp only [hi]
      split at h
      · rename_i z hz
        simp only [hz]
        split at h
        · rename_i c hc
          simp only [Option.some.injEq, Prod.mk.injEq, Bool.and_eq_true, beq_iff_eq, decide_eq_true_eq] at h
          obtain ⟨⟨h1, h2, h3, h4, h5⟩, rfl, rfl⟩ := h
          subst h2
          simp [hc, h1, h3, h4, h5]
        · cases h
      · cases h
    · cases h
  · cases h

def areadK (H : Heap) : AVal → Option (Bool × Cont)
  | .ro c len z => some (eqN z 1, c.take len)
  | .own l off len ver z => match nth H l with
    | some ⟨.typ c, ver'⟩ => some (eqN ver ver' && eqN z 1, (c.drop off).take len)
    | _ => none
  | _ => none
theorem areadK_ok {H : Heap} {x : AVal} {c : Cont} (h : areadK H x = some (true, c)) : aread H x = some c := by
  unfold areadK at h
  unfold aread
  split at h
  · simp only [Option.some.injEq, Prod.mk.injEq, eqN_eq] at h
    obtain ⟨h1, rfl⟩ := h
    simp only [h1, cond_true]
  · split at h
    · rename_i c' ver' hb
      simp only [Option.some.injEq, Prod.mk.injEq, eqN_eq] at h
      obtain ⟨h1, rfl⟩ := h
      simp only [hb, h1, cond_true]
    · cases h
  · cases h
def aappendK (P : Program) (H : Heap) (t : TypeId) (s x : AVal) : Option (Bool × AVal × Heap) :=
  match P.underlying t with
  | some (.slice e) =>
    match P.info? e with
    | some i => match i.zero with
      | some z =>
          match s, areadK H x with
          | .own l off len ver z1, some (b, news) => match nth H l with
            | some ⟨.typ c, ver'⟩ => match (c.take len).app? news with
                | some c' => some ((i.size == 1 && z.cells.size == 1) && ((eqN ver ver' && (eqN off 0 && eqN z1 1)) && (b && (decide (len + news.len ≤ 4611686018427387904) && decide ((len + news.len) * i.bytes ≤ 140737488355328)))),
                    .own l 0 (len + news.len) (ver + 1) 1, upd H l ⟨.typ c', ver + 1⟩)
                | none => none
            | _ => none
          | .emp, some (b, news) => match x with
            | .ro _ 0 _ => some ((i.size == 1 && z.cells.size == 1) && b, .emp, H)
            | .own _ _ 0 _ _ => some ((i.size == 1 && z.cells.size == 1) && b, .emp, H)
            | _ => some ((i.size == 1 && z.cells.size == 1) && (b && (decide (0 < news.len) && (decide (news.len ≤ 4611686018427387904) && decide (news.len * i.bytes ≤ 140737488355328)))),
              .own (hlen H) 0 news.len 0 1, snoc H ⟨.typ news, 0⟩)
          | .nils, some (b, news) => some ((i.size == 1 && z.cells.size == 1) && (b && (decide (0 < news.len) && (decide (news.len ≤ 4611686018427387904) && decide (news.len * i.bytes ≤ 140737488355328)))),
              .own (hlen H) 0 news.len 0 1, snoc H ⟨.typ news, 0⟩)
          | _, _ => none
      | none => none
    | none => none
  | _ => none
theorem aappendK_ok {P : Program} {H H' : Heap} {t : TypeId} {s x v : AVal} (h : aappendK P H t s x = some (true, v, H')) : aappend P H t s x = some (v, H') := by
  unfold aappendK at h
  unfold aappend
  split at h
  · rename_i e hu
    simp only [hu]
    split at h
    · rename_i i hi
      simp only [hi]
      split at h
      · rename_i z hz
        simp only [hz]
        split at h
        · rename_i l off len ver z1 b news hnews
          split at h
          · rename_i c ver' hb
            split at h
            · rename_i c' hc'
              simp only [Option.some.injEq, Prod.mk.injEq, eqN_eq, Bool.and_eq_true, beq_iff_eq, decide_eq_true_eq] at h
              obtain ⟨⟨⟨h1, h2⟩, ⟨h3, h4, h5⟩, rfl, h6, h7⟩, rfl, rfl⟩ := h
              subst h3
              simp [h1, h2, areadK_ok hnews, hb, h4, h5, h6, h7, hc']
            · cases h
          · cases h
        · rename_i b news hnews
          split at h
          · simp only [Option.some.injEq, Prod.mk.injEq, Bool.and_eq_true, beq_iff_eq, decide_eq_true_eq] at h
            obtain ⟨⟨⟨h1, h2⟩, rfl⟩, rfl, rfl⟩ := h
            simp [h1, h2, areadK_ok hnews]
          · simp only [Option.some.injEq, Prod.mk.injEq, Bool.and_eq_true, beq_iff_eq, decide_eq_true_eq] at h
            obtain ⟨⟨⟨h1, h2⟩, rfl⟩, rfl, rfl⟩ := h
            simp [h1, h2, areadK_ok hnews]
          · simp only [Option.some.injEq, Prod.mk.injEq, Bool.and_eq_true, beq_iff_eq, decide_eq_true_eq] at h
            obtain ⟨⟨⟨h1, h2⟩, rfl, h5, h6, h7⟩, rfl, rfl⟩ := h
            simp only [h1, h2, areadK_ok hnews, h5, h6, h7]
            simp
        · rename_i b news hnews
          simp only [Option.some.injEq, Prod.mk.injEq, Bool.and_eq_true, beq_iff_eq, decide_eq_true_eq] at h
          obtain ⟨⟨⟨h1, h2⟩, rfl, h5, h6, h7⟩, rfl, rfl⟩ := h
          simp [h1, h2, areadK_ok hnews, h5, h6, h7]
        · cases h
      · cases h
    · cases h
  · cases h

def aclearK (P : Program) (H : Heap) (t : TypeId) (x : AVal) : Option (Bool × Heap) :=
  match P.underlying t, x with
  | some (.slice e), .own l off len ver z =>
    match P.info? e with
    | some i => match i.zero with
      | some (.int k 0) => match nth H l with
        | some ⟨.typ (.ints k' xs), ver'⟩ => if k = k' then
            some ((eqN ver ver' && eqN z 1) && decide (off + len ≤ xs.length), upd H l ⟨.typ (.ints k' (xs.take off ++ (List.replicate len 0 ++ xs.drop (off + len)))), ver'⟩) else none
        | _ => none
      | _ => none
    | none => none
  | _, _ => none
theorem aclearK_ok {P : Program} {H H' : Heap} {t : TypeId} {x : AVal} (h : aclearK P H t x = some (true, H')) : aclear P H t x = some H' := by
  unfold aclearK at h
  unfold aclear
  split at h
  · rename_i e l off len ver z hu
    split at h
    · rename_i i hi
      split at h
      · rename_i k hz
        split at h
        · rename_i k' xs ver' hb
          split at h
          · rename_i hk
            simp only [Option.some.injEq, Prod.mk.injEq] at h
            obtain ⟨h1, rfl⟩ := h
            simp only [eqN_eq] at h1
            simp only [hu, hi, hz, hb, hk, if_true, h1, cond_true]
          · cases h
        · cases h
      · cases h
    · cases h
  · cases h
def acopyK (P : Program) (H : Heap) (t : TypeId) (x y : AVal) : Option (Bool × AVal × Heap) :=
  match P.underlying t, x with
  | some (.slice e), .own l off len ver z =>
    match P.info? e with
    | some i => match areadK H y with
      | some (b0, .ints _ ys0) => match areadK H (y.shrink (min ys0.length len)) with
        | some (b1, .ints k ys) => match nth H l with
          | some ⟨.typ (.ints k' xs), ver'⟩ => if k = k' then
              some ((b0 && b1) && ((eqN ver ver' && (eqN z 1 && i.size == 1)) && (decide (off + len ≤ xs.length) && decide (ys.length = min ys0.length len))), .int .i64 ((min ys0.length len : Nat) : Int), upd H l ⟨.typ (.ints k' (cpy xs off (min ys0.length len) ys)), ver'⟩) else none
          | _ => none
        | _ => none
      | some (b0, .bools ys0) => match areadK H (y.shrink (min ys0.length len)) with
        | some (b1, .bools ys) => match nth H l with
          | some ⟨.typ (.bools xs), ver'⟩ =>
              some ((b0 && b1) && ((eqN ver ver' && (eqN z 1 && i.size == 1)) && (decide (off + len ≤ xs.length) && decide (ys.length = min ys0.length len))), .int .i64 ((min ys0.length len : Nat) : Int), upd H l ⟨.typ (.bools (cpy xs off (min ys0.length len) ys)), ver'⟩)
          | _ => none
        | _ => none
      | _ => none
    | none => none
  | _, _ => none
theorem acopyK_ok {P : Program} {H H' : Heap} {t : TypeId} {x y v : AVal} (h : acopyK P H t x y = some (true, v, H')) : acopy P H t x y = some (v, H') := by
  unfold acopyK at h
  unfold acopy
  split at h
  · rename_i e l off len ver z hu
    split at h
    · rename_i i hi
      split at h
      · rename_i b0 _ ys0 h0
        split at h
        · rename_i b1 k ys h1
          split at h
          · rename_i k' xs ver' hb
            split at h
            · rename_i hk
              simp only [Option.some.injEq, Prod.mk.injEq, Bool.and_eq_true] at h
              obtain ⟨⟨⟨rfl, rfl⟩, h2, h3⟩, rfl, rfl⟩ := h
              simp only [eqN_eq] at h2
              simp only [hu, hi, areadK_ok h0, areadK_ok h1, hb, hk, if_true, h2, h3, Bool.and_self, cond_true]
            · cases h
          · cases h
        · cases h
      · rename_i b0 ys0 h0
        split at h
        · rename_i b1 ys h1
          split at h
          · rename_i xs ver' hb
            simp only [Option.some.injEq, Prod.mk.injEq, Bool.and_eq_true] at h
            obtain ⟨⟨⟨rfl, rfl⟩, h2, h3⟩, rfl, rfl⟩ := h
            simp only [eqN_eq] at h2
            simp only [hu, hi, areadK_ok h0, areadK_ok h1, hb, h2, h3, Bool.and_self, cond_true]
          · cases h
        · cases h
      · cases h
    · cases h
  · cases h
def aconvMK (P : Program) (H : Heap) (src dst : TypeId) (x : AVal) : Option (Bool × AVal) :=
  match P.underlying src, P.underlying dst with
  | some (.slice e), some .string => match P.underlying e with
    | some (.int .u8) => match areadK H x with
      | some (b, .ints .u8 xs) => some (b, .str (bys.sv xs))
      | _ => none
    | _ => none
  | some .string, some (.slice e) => match P.underlying e, x with
    | some (.int .u8), .str s => some (true, .ro (.ints .u8 (sby.sv s)) (sby.sv s).length 1)
    | _, _ => none
  | _, _ => none
theorem aconvMK_ok {P : Program} {H : Heap} {a b : TypeId} {x v : AVal} (h : aconvMK P H a b x = some (true, v)) : aconvM P H a b x = some v := by
  unfold aconvMK at h
  unfold aconvM
  split at h
  · rename_i e h1 h2
    simp only [h1, h2]
    split at h
    · rename_i h3
      split at h
      · rename_i b xs hr
        simp only [Option.some.injEq, Prod.mk.injEq] at h
        obtain ⟨rfl, rfl⟩ := h
        simp only [h3, areadK_ok hr]
      · cases h
    · cases h
  · rename_i e h1 h2
    simp only [h1, h2]
    split at h
    · rename_i s h3
      simp only [Option.some.injEq, Prod.mk.injEq, true_and] at h
      subst h
      simp only [h3]
    · cases h
  · cases h
def amemK (P : Program) (s : State) : Op → Option (Bool × AVal × Heap)
  | .load t x => match aloadK P s.h t (s.ev x) with | some (b, v) => some (b, v, s.h) | none => none
  | .store t x v => match astoreK P s.h t (s.ev x) (s.ev v) with | some (b, h) => some (b, .undef, h) | none => none
  | .alloc e => match aalloc P s.h e with | some r => some (true, r) | none => none
  | .box _ x => match abox s.h (s.ev x) with | some r => some (true, r) | none => none
  | .makeSlice t l c => amakeK P s.h t (s.ev l) (s.ev c)
  | .convert a b x => match aconvMK P s.h a b (s.ev x) with | some (b, v) => some (b, v, s.h) | none => none
  | .slice t x lo none none => match asliceMK P s.h t (s.ev x) (match lo with | some a => some (s.ev a) | none => none) with | some (b, v) => some (b, v, s.h) | none => none
  | .buildSlice t n parts => match abuildA P s.ev s.h t n parts.toList with | some r => some (true, r) | none => none
  | .call { callee := .builtin .append, args, argTypes } => match mapL s.ev args.toList, argTypes.toList with
    | [x, y], [t, t'] => bif eqN t t' then aappendK P s.h t x y else none
    | _, _ => none
  | .call { callee := .builtin .clear, args, argTypes } => match mapL s.ev args.toList, argTypes.toList with
    | [x], [t] => match aclearK P s.h t x with | some (b, h) => some (b, .tup [], h) | none => none
    | _, _ => none
  | .call { callee := .builtin .copy, args, argTypes } => match mapL s.ev args.toList, argTypes.toList with
    | [x, y], [t, _] => acopyK P s.h t x y
    | _, _ => none
  | _ => none
theorem amemK_ok {P : Program} {s : State} {o : Op} {v : AVal} {H' : Heap} (h : amemK P s o = some (true, v, H')) : amem P s o = some (v, H') := by
  unfold amemK at h
  split at h
  · split at h
    · rename_i b u hu
      simp only [Option.some.injEq, Prod.mk.injEq] at h
      obtain ⟨rfl, rfl, rfl⟩ := h
      simp [amem, aloadK_ok hu]
    · cases h
  · split at h
    · rename_i b u hu
      simp only [Option.some.injEq, Prod.mk.injEq] at h
      obtain ⟨rfl, rfl, rfl⟩ := h
      simp [amem, astoreK_ok hu]
    · cases h
  · split at h
    · rename_i r hr; simp only [Option.some.injEq, Prod.mk.injEq, true_and] at h; subst h; simp [amem, hr]
    · cases h
  · split at h
    · rename_i r hr; simp only [Option.some.injEq, Prod.mk.injEq, true_and] at h; subst h; simp [amem, hr]
    · cases h
  · simp only [amem]; exact amakeK_ok h
  · split at h
    · rename_i b u hu
      simp only [Option.some.injEq, Prod.mk.injEq] at h
      obtain ⟨rfl, rfl, rfl⟩ := h
      simp only [amem, aconvMK_ok hu]
    · cases h
  · split at h
    · rename_i b u hu
      simp only [Option.some.injEq, Prod.mk.injEq] at h
      obtain ⟨rfl, rfl, rfl⟩ := h
      have := asliceMK_ok hu
      rename_i t x lo _
      cases lo <;> (simp only [] at this; simp only [amem, this])
    · cases h
  · split at h
    · rename_i r hr; simp only [Option.some.injEq, Prod.mk.injEq, true_and] at h; subst h; simp [amem, hr]
    · cases h
  · split at h
    · rename_i x y t t' hargs hts
      simp only [eqN_eq, Bool.cond_eq_ite] at h
      split at h
      · rename_i ht
        simp only [amem, hargs, hts, ht, cond_true]
        exact aappendK_ok h
      · cases h
    · cases h
  · split at h
    · rename_i x t hargs hts
      split at h
      · rename_i b h1 hc
        simp only [Option.some.injEq, Prod.mk.injEq] at h
        obtain ⟨rfl, rfl, rfl⟩ := h
        simp only [amem, hargs, hts, aclearK_ok hc]
      · cases h
    · cases h
  · split at h
    · rename_i x y t t' hargs hts
      simp only [amem, hargs, hts]
      exact acopyK_ok h
    · cases h
  · cases h

/-- What a call does to the heap: it puts blocks behind it, or it changes it. -/
inductive Eff where
  | ext (new : List Blk)
  | full (H : Heap)
def Eff.heap (H : Heap) : Eff → Heap
  | .ext [] => H
  | .ext (b :: r) => app H (b :: r)
  | .full H' => H'
/-- What calls come to, with what has to be checked. -/
abbrev OrcK := FuncId → List AVal → Heap → Option (Bool × AVal × Eff)
def OrcK.plain (A : OrcK) : Orc := fun f args H => match A f args H with
  | some (b, v, e) => bif b then some (v, e.heap H) else none
  | none => none
/-- The calls alone that change nothing that was there. -/
def OrcK.exts (A : OrcK) : OrcK := fun f args H => match A f args H with
  | some (b, v, .ext n) => some (b, v, .ext n)
  | _ => none
def acallK (A : OrcK) (s : State) : Op → Option (Bool × AVal × Heap)
  | .call { callee := .value f, args, .. } => match s.ev f with
    | .fn f caps => match A f (app (mapL s.ev args.toList) caps) s.h with
      | some (b, v, e) => some (b, v, e.heap s.h)
      | none => none
    | _ => none
  | _ => none
theorem acallK_ok {A : OrcK} {s : State} {o : Op} {v : AVal} {H' : Heap} (h : acallK A s o = some (true, v, H')) : acall A.plain s o = some (v, H') := by
  unfold acallK at h
  split at h
  · split at h
    · rename_i f caps hf
      split at h
      · rename_i b u e hr
        simp only [Option.some.injEq, Prod.mk.injEq] at h
        obtain ⟨rfl, rfl, rfl⟩ := h
        simp [acall, hf, OrcK.plain, hr]
      · cases h
    · cases h
  · cases h

def astepK (P : Program) (A : OrcK) (s : State) (o : Op) : Option (Bool × AVal × Heap) :=
  match apureK P s.ev o with
  | some (b, v) => some (b, v, s.h)
  | none => match amemK P s o with
    | some r => some r
    | none => acallK A s o

end Go.Proofs.YtjhofofieiiplaaGreatDoor.Ab
