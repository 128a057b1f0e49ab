/-
  Rooms for friends: what is valid, what is quiet, and the search (plain).
-/
import Derived.Test.YtkoongajnnaeoaaFnUD
import Derived.Test.YtkoongajnnaeoaaFnUE
namespace Go.Proofs.Ytkoongajnnaeoaa.Ab
open Go
set_option linter.unusedVariables false
set_option linter.unusedSimpArgs false
set_option maxRecDepth 100000

namespace rms
/-- One's friends, the dearest first. -/
def row.sp (n i : Int) (r : List Int) : Bool := decide ((r.length : Int) = n - 1) && (rk.sp n r && !r.any (has.sp i))
def al.sq (n : Int) : List (List Int) → Nat → Bool
  | [], _ => true
  | r :: t, i => row.sp n (i : Int) r && al.sq n t (i + 1)
def al2.sq (n : Int) : List (List Int) → Nat → Bool
  | [], _ => true
  | r :: t, i => (decide ((r.length : Int) = n - 1) && !r.any (has.sp (i : Int))) && al2.sq n t (i + 1)
def ev.sp (n : Int) : Bool := (decide (2 ≤ n) && decide (n ≤ 8)) && decide (Int.tmod n 2 = 0)
def va.sp (fs : List (List Int)) : Bool := ev.sp fs.length && al.sq fs.length fs 0
theorem al_al2 (n : Int) : ∀ (xs : List (List Int)) (i : Nat), al.sq n xs i = (xs.all (rk.sp n) && al2.sq n xs i) := by
  intro xs
  induction xs with
  | nil => intro i; rfl
  | cons r t ih =>
    intro i
    simp only [al.sq, al2.sq, row.sp, ih, List.all_cons]
    generalize decide ((r.length : Int) = n - 1) = a
    generalize rk.sp n r = b
    generalize r.any (has.sp (i : Int)) = c
    generalize t.all (rk.sp n) = d
    generalize al2.sq n t (i + 1) = e
    cases a <;> cases b <;> cases c <;> cases d <;> cases e <;> rfl
theorem al_get {n : Int} : ∀ {xs : List (List Int)} {i : Nat}, al.sq n xs i = true → ∀ k, k < xs.length → row.sp n ((i + k : Nat) : Int) (gr xs k) = true := by
  intro xs
  induction xs with
  | nil => intro i _ k h; simp at h
  | cons r t ih =>
    intro i h k hk
    simp only [al.sq, Bool.and_eq_true] at h
    cases k with
    | zero => simpa [gr] using h.1
    | succ k =>
      have := ih h.2 k (by simpa using hk)
      have e : i + (k + 1) = i + 1 + k := by omega
      rw [e]
      simpa [gr] using this

/-- Whom each one is with: everybody's number is in range. -/
def rg.sp (n : Nat) (lo : Int) (rm : List Int) : Bool := decide (rm.length = n) && rm.all (iw.sp lo ((n : Int) - 1))
theorem rg_get {n : Nat} {lo : Int} {rm : List Int} (h : rg.sp n lo rm = true) : rm.length = n ∧ ∀ i, i < n → lo ≤ gz rm i ∧ gz rm i < (n : Int) := by
  simp only [rg.sp, Bool.and_eq_true, decide_eq_true_eq, List.all_eq_true, iw.sp] at h
  refine ⟨h.1, fun i hi => ?_⟩
  have hi' : i < rm.length := by omega
  have := h.2 (gz rm i) (by rw [gz_eq hi']; exact List.getElem_mem hi')
  omega
theorem rg_set {n : Nat} {lo : Int} {rm : List Int} {k : Nat} {v : Int} (h : rg.sp n lo rm = true) (h1 : lo ≤ v) (h2 : v < (n : Int)) : rg.sp n lo (rm.set k v) = true := by
  simp only [rg.sp, Bool.and_eq_true, decide_eq_true_eq, List.all_eq_true, iw.sp] at h ⊢
  refine ⟨by rw [List.length_set]; exact h.1, fun x hx => ?_⟩
  rcases List.mem_or_eq_of_mem_set hx with hx | rfl
  · exact h.2 x hx
  · omega
/-- Two hold one another dearer than with whom they are. -/
def bl.sp (fs : List (List Int)) (rm : List Int) (i k : Int) : Bool := decide (pl.sv k (gr fs i.toNat) < pl.sv (gz rm i.toNat) (gr fs i.toNat)) && decide (pl.sv i (gr fs k.toNat) < pl.sv (gz rm k.toNat) (gr fs k.toNat))
def q1.sp (fs : List (List Int)) (rm : List Int) (i : Int) : Bool := (cq.sv fs.length).all fun k => !bl.sp fs rm i k
def q.sp (fs : List (List Int)) (rm : List Int) : Bool := (cq.sv fs.length).all fun i => q1.sp fs rm i
theorem pl_len {v : Int} {row : List Int} (h : row.any (has.sp v) = false) : pl.sv v row = (row.length : Int) := by
  have h1 := pl_any v row
  rw [h] at h1
  have h2 := (pl_go_le v row 0).2
  unfold pl.sv at h1 ⊢
  simp only [decide_eq_false_iff_not] at h1
  omega
theorem pl_le (v : Int) (row : List Int) : pl.sv v row ≤ (row.length : Int) := by
  have h2 := (pl_go_le v row 0).2
  unfold pl.sv
  omega
theorem bl_out {fs : List (List Int)} {rm : List Int} {i k : Int} (h : (gr fs i.toNat).any (has.sp k) = false) : bl.sp fs rm i k = false := by
  have h1 := pl_len h
  have h2 := pl_le (gz rm i.toNat) (gr fs i.toNat)
  have : ¬ (pl.sv k (gr fs i.toNat) < pl.sv (gz rm i.toNat) (gr fs i.toNat)) := by omega
  simp [bl.sp, this]
theorem bl_same {fs : List (List Int)} {rm : List Int} {i k : Int} (h : gz rm i.toNat = k) : bl.sp fs rm i k = false := by
  have : ¬ (pl.sv k (gr fs i.toNat) < pl.sv (gz rm i.toNat) (gr fs i.toNat)) := by rw [h]; omega
  simp [bl.sp, this]
theorem bl_self {fs : List (List Int)} {rm : List Int} {i : Nat} (hv : va.sp fs = true) (hi : i < fs.length) : bl.sp fs rm (i : Int) (i : Int) = false := by
  simp only [va.sp, Bool.and_eq_true] at hv
  have := al_get hv.2 i hi
  simp only [row.sp, Bool.and_eq_true, Bool.not_eq_true', Nat.zero_add] at this
  exact bl_out (by rw [Int.toNat_natCast]; exact this.2.2)
theorem row_in {fs : List (List Int)} (hv : va.sp fs = true) {i : Nat} (hi : i < fs.length) : ∀ k, k < (gr fs i).length → 0 ≤ gz (gr fs i) k ∧ gz (gr fs i) k < (fs.length : Int) := by
  simp only [va.sp, Bool.and_eq_true] at hv
  have := al_get hv.2 i hi
  simp only [row.sp, Bool.and_eq_true] at this
  exact ask.uniq_rows this.2.1
theorem row_len {fs : List (List Int)} (hv : va.sp fs = true) {i : Nat} (hi : i < fs.length) : ((gr fs i).length : Int) = (fs.length : Int) - 1 := by
  simp only [va.sp, Bool.and_eq_true] at hv
  have := al_get hv.2 i hi
  simp only [row.sp, Bool.and_eq_true, decide_eq_true_eq] at this
  exact this.1
theorem va_len {fs : List (List Int)} (hv : va.sp fs = true) : 2 ≤ fs.length ∧ fs.length ≤ 8 := by
  simp only [va.sp, ev.sp, Bool.and_eq_true, decide_eq_true_eq] at hv
  omega
theorem mem_cq {n k : Nat} (h : k < n) : (k : Int) ∈ cq.sv n := by
  have h2 : k < (cq.sv n).length := by rw [cq.sv_length]; exact h
  have h3 := cq.sv_drop h
  rw [List.drop_eq_getElem_cons h2] at h3
  rw [← (List.cons.inj h3).1]
  exact List.getElem_mem h2
theorem mem_cq' {n : Nat} {x : Int} (h : x ∈ cq.sv n) : ∃ k : Nat, k < n ∧ x = (k : Int) := by
  obtain ⟨k, hk, e⟩ := List.getElem_of_mem h
  have hk' : k < n := by rw [cq.sv_length] at hk; exact hk
  have h3 := cq.sv_drop hk'
  rw [List.drop_eq_getElem_cons hk] at h3
  exact ⟨k, hk', e.symm.trans (List.cons.inj h3).1⟩
/-- It is enough to ask one's friends. -/
theorem q1_row {fs : List (List Int)} (hv : va.sp fs = true) (rm : List Int) {i : Nat} (hi : i < fs.length) : (gr fs i).all (fun k => !bl.sp fs rm (i : Int) k) = q1.sp fs rm (i : Int) := by
  unfold q1.sp
  rw [Bool.eq_iff_iff]
  simp only [List.all_eq_true, Bool.not_eq_true']
  constructor
  · intro h x hx
    rcases Bool.eq_false_or_eq_true ((gr fs i).any (has.sp x)) with c | c
    · simp only [List.any_eq_true, has.sp, beq_iff_eq] at c
      obtain ⟨y, hy, rfl⟩ := c
      exact h y hy
    · exact bl_out (by rw [Int.toNat_natCast]; exact c)
  · intro h x hx
    obtain ⟨k, hk, e⟩ := List.getElem_of_mem hx
    have := row_in hv hi k hk
    rw [gz_eq hk, e] at this
    obtain ⟨j, rfl⟩ : ∃ j : Nat, x = (j : Int) := ⟨x.toNat, by omega⟩
    exact h _ (mem_cq (by omega))

/-- The first who has nobody. -/
def ft.sv (rm : List Int) : Int := fidx.sq (fun x => decide (x < 0)) rm 0
theorem fidx_ng : ∀ (rm : List Int) (i : Nat), (fidx.sq (fun x : Int => decide (x < 0)) rm i = -1 ∧ ∀ k, k < rm.length → 0 ≤ gz rm k) ∨ ∃ j : Nat, i ≤ j ∧ j < i + rm.length ∧ fidx.sq (fun x : Int => decide (x < 0)) rm i = (j : Int) ∧ gz rm (j - i) < 0 := by
  intro rm
  induction rm with
  | nil => intro i; left; exact ⟨rfl, fun k h => by simp at h⟩
  | cons x r ih =>
    intro i
    simp only [fidx.sq]
    by_cases c : x < 0
    · right
      refine ⟨i, Nat.le_refl _, by simp, by simp [c], ?_⟩
      rw [Nat.sub_self]; simpa [gz] using c
    · simp only [c, decide_false, cond_false]
      rcases ih (i + 1) with ⟨h1, h2⟩ | ⟨j, h1, h2, h3, h4⟩
      · left
        refine ⟨h1, fun k hk => ?_⟩
        cases k with
        | zero => simp only [gz, List.getD_cons_zero]; omega
        | succ k => have := h2 k (by simpa using hk); simpa [gz] using this
      · right
        refine ⟨j, by omega, by simp only [List.length_cons]; omega, h3, ?_⟩
        have e : j - i = (j - (i + 1)) + 1 := by omega
        rw [e]
        simpa [gz] using h4
theorem ft_cases (rm : List Int) : (ft.sv rm = -1 ∧ ∀ k, k < rm.length → 0 ≤ gz rm k) ∨ ∃ j : Nat, j < rm.length ∧ ft.sv rm = (j : Int) ∧ gz rm j < 0 := by
  rcases fidx_ng rm 0 with h | ⟨j, h1, h2, h3, h4⟩
  · exact .inl h
  · exact .inr ⟨j, by omega, h3, h4⟩
theorem ft_has {n : Nat} {rm : List Int} (h : rg.sp n (-1) rm = true) : fidx.sq (has.sp (-1)) rm 0 = ft.sv rm := by
  have : ∀ (xs : List Int) (i : Nat), (∀ x ∈ xs, -1 ≤ x) → fidx.sq (has.sp (-1)) xs i = fidx.sq (fun x => decide (x < 0)) xs i := by
    intro xs
    induction xs with
    | nil => intro i _; rfl
    | cons x r ih =>
      intro i hx
      simp only [fidx.sq]
      rw [ih (i + 1) fun y hy => hx y (List.mem_cons_of_mem _ hy)]
      have h1 := hx x List.mem_cons_self
      have e : has.sp (-1) x = decide (x < 0) := by
        unfold has.sp
        rw [Bool.eq_iff_iff]
        simp only [beq_iff_eq, decide_eq_true_eq]
        omega
      rw [e]
  refine this rm 0 fun x hx => ?_
  simp only [rg.sp, Bool.and_eq_true, decide_eq_true_eq, List.all_eq_true, iw.sp] at h
  exact (h.2 x hx).1
/-- How many have nobody. -/
def ng.sv : List Int → Nat
  | [] => 0
  | x :: r => (bif decide (x < 0) then 1 else 0) + ng.sv r
theorem ng_set : ∀ (rm : List Int) (k : Nat) (v : Int), 0 ≤ v → ng.sv (rm.set k v) ≤ ng.sv rm := by
  intro rm
  induction rm with
  | nil => intro k v _; simp
  | cons x r ih =>
    intro k v hv
    cases k with
    | zero =>
      have : ¬ (v < 0) := by omega
      simp only [List.set_cons_zero, ng.sv, this, decide_false, cond_false]
      omega
    | succ k =>
      simp only [List.set_cons_succ, ng.sv]
      have := ih k v hv
      omega
theorem ng_set_lt : ∀ (rm : List Int) (k : Nat) (v : Int), k < rm.length → gz rm k < 0 → 0 ≤ v → ng.sv (rm.set k v) < ng.sv rm := by
  intro rm
  induction rm with
  | nil => intro k v h; simp at h
  | cons x r ih =>
    intro k v h hg hv
    cases k with
    | zero =>
      have h1 : ¬ (v < 0) := by omega
      have h2 : x < 0 := by simpa [gz] using hg
      simp only [List.set_cons_zero, ng.sv, h1, h2, decide_false, decide_true, cond_false, cond_true]
      omega
    | succ k =>
      simp only [List.set_cons_succ, ng.sv]
      have := ih k v (by simpa using h) (by simpa [gz] using hg) hv
      omega
theorem ng_le : ∀ (rm : List Int), ng.sv rm ≤ rm.length := by
  intro rm
  induction rm with
  | nil => simp [ng.sv]
  | cons x r ih =>
    simp only [ng.sv, List.length_cons]
    cases decide (x < 0) <;> simp only [cond_true, cond_false] <;> omega

/-- The search. -/
def two.sv (rm : List Int) (a k : Nat) : List Int := (rm.set a (k : Int)).set k (a : Int)
def lp (rc : List Int → Option (List Int)) (a : Nat) (rm : List Int) : Nat → Nat → Option (List Int)
  | 0, _ => none
  | d + 1, k => bif decide (0 ≤ gz rm k) then lp rc a rm d (k + 1) else (match rc (two.sv rm a k) with | some r => some r | none => lp rc a rm d (k + 1))
def rc (fs : List (List Int)) : Nat → List Int → Option (List Int)
  | 0, _ => none
  | N + 1, rm => bif decide (ft.sv rm < 0) then (bif q.sp fs rm then some rm else none) else lp (rc fs N) (ft.sv rm).toNat rm (rm.length - ((ft.sv rm).toNat + 1)) ((ft.sv rm).toNat + 1)
def rf.sp (fs : List (List Int)) (N : Nat) (rm : List Int) : Bool := (rc fs N rm).isSome
def ro.sv (fs : List (List Int)) (N : Nat) (rm : List Int) : List Int := (rc fs N rm).getD rm
theorem lp_len {rc : List Int → Option (List Int)} {a : Nat} {rm : List Int} (h : ∀ x r, rc x = some r → r.length = x.length) : ∀ (d k : Nat) (r : List Int), lp rc a rm d k = some r → r.length = rm.length := by
  intro d
  induction d with
  | zero => intro k r h; cases h
  | succ d ih =>
    intro k r hr
    simp only [lp] at hr
    by_cases c : 0 ≤ gz rm k
    · simp only [c, decide_true, cond_true] at hr; exact ih _ _ hr
    · simp only [c, decide_false, cond_false] at hr
      split at hr
      · rename_i r' hr'
        simp only [Option.some.injEq] at hr
        subst hr
        have := h _ _ hr'
        simpa [two.sv] using this
      · exact ih _ _ hr
theorem rc_len (fs : List (List Int)) : ∀ (N : Nat) (rm r : List Int), rc fs N rm = some r → r.length = rm.length := by
  intro N
  induction N with
  | zero => intro rm r h; cases h
  | succ N ih =>
    intro rm r h
    simp only [rc] at h
    by_cases c : ft.sv rm < 0
    · simp only [c, decide_true, cond_true] at h
      cases hq : q.sp fs rm
      · rw [hq] at h; cases h
      · rw [hq, cond_true] at h
        simp only [Option.some.injEq] at h
        rw [h]
    · simp only [c, decide_false, cond_false] at h
      exact lp_len ih _ _ _ h
theorem ro_len (fs : List (List Int)) (N : Nat) (rm : List Int) : (ro.sv fs N rm).length = rm.length := by
  unfold ro.sv
  cases h : rc fs N rm with
  | none => rfl
  | some r => exact rc_len fs N rm r h
/-- What was tried is taken back. -/
theorem back {rm : List Int} {a k : Nat} (h1 : gz rm a = -1) (h2 : gz rm k = -1) (ha : a < rm.length) (hk : k < rm.length) : ((two.sv rm a k).set a (-1)).set k (-1) = rm := by
  unfold two.sv
  refine List.ext_getElem (by simp) fun i hi1 hi2 => ?_
  rw [gz_eq ha] at h1
  rw [gz_eq hk] at h2
  simp only [List.getElem_set]
  split
  · rename_i e; subst e; exact h2.symm
  · split
    · rename_i e; subst e; exact h1.symm
    · rename_i e1 e2
      first
        | rfl
        | (split <;> first | rfl | omega)
theorem two_len (rm : List Int) (a k : Nat) : (two.sv rm a k).length = rm.length := by simp [two.sv]
theorem two_rg {n : Nat} {rm : List Int} {a k : Nat} (h : rg.sp n (-1) rm = true) (ha : a < n) (hk : k < n) : rg.sp n (-1) (two.sv rm a k) = true :=
  rg_set (rg_set h (by omega) (by omega)) (by omega) (by omega)
theorem two_ng {rm : List Int} {a k : Nat} (ha : a < rm.length) (h : gz rm a < 0) : ng.sv (two.sv rm a k) < ng.sv rm := by
  have h1 := ng_set_lt rm a (k : Int) ha h (by omega)
  have h2 := ng_set (rm.set a (k : Int)) k (a : Int) (by omega)
  unfold two.sv
  omega
/-- Where all have somebody. -/
theorem rg_full {n : Nat} {rm : List Int} (h : rg.sp n (-1) rm = true) (h0 : ∀ k, k < rm.length → 0 ≤ gz rm k) : rg.sp n 0 rm = true := by
  obtain ⟨hl, hg⟩ := rg_get h
  simp only [rg.sp, Bool.and_eq_true, decide_eq_true_eq, List.all_eq_true, iw.sp]
  refine ⟨hl, fun x hx => ?_⟩
  obtain ⟨k, hk, e⟩ := List.getElem_of_mem hx
  have h1 := h0 k hk
  have h2 := hg k (by omega)
  rw [gz_eq hk, e] at h1 h2
  omega
end rms

end Go.Proofs.Ytkoongajnnaeoaa.Ab
