/-
  Games: what is left, in plain words.
-/
import Derived.Test.YtfbalfhekldkbaaFnVE
import Derived.Test.YtfbalfhekldkbaaFnVC
namespace Go.Proofs.Ytfbalfhekldkbaa.Ab
open Go
set_option linter.unusedVariables false
set_option linter.unusedSimpArgs false

namespace pt
theorem sv_get {c : Nat} {xs qs : List Int} {k : Nat} (hk : k < qs.length) : ∀ {ps : List Int} {i : Nat}, i < ps.length → gz (sv c xs ps qs) (i * qs.length + k) = cell c xs (gz ps i) (gz qs k) := by
  intro ps
  induction ps with
  | nil => intro i hi; simp at hi
  | cons p t ih =>
    intro i hi
    have e : sv c xs (p :: t) qs = row c xs p qs ++ sv c xs t qs := by simp [sv]
    have hr : (row c xs p qs).length = qs.length := by simp [row]
    have hl := sv_length c xs t qs
    cases i with
    | zero =>
      rw [e, Nat.zero_mul, Nat.zero_add, gz_eq (by rw [List.length_append]; omega), List.getElem_append_left (by omega)]
      simp [row, gz, List.getElem?_eq_getElem hk]
    | succ i =>
      rw [List.length_cons] at hi
      have h := ih (i := i) (by omega)
      have hlt := gm.ix_lt (R := t.length) (C := qs.length) (i := i) (k := k) (by omega) hk
      rw [e, Nat.succ_mul]
      have e2 : i * qs.length + qs.length + k = qs.length + (i * qs.length + k) := by omega
      rw [e2, gz_eq (by rw [List.length_append]; omega), List.getElem_append_right (by omega)]
      rw [← gz_eq, hr, Nat.add_sub_cancel_left, h]
      simp [gz]
end pt
namespace lv
theorem go_iff (ps : List Int) : ∀ (l : List Int) (n : Nat) (x : Int), x ∈ go ps l n ↔ ∃ i, i < l.length ∧ gz l i = x ∧ pu.h.sp ps ((n + i : Nat) : Int) = false := by
  intro l
  induction l with
  | nil => intro n x; simp [go]
  | cons y t ih =>
    intro n x
    have step : (∃ i, i < (y :: t).length ∧ gz (y :: t) i = x ∧ pu.h.sp ps ((n + i : Nat) : Int) = false) ↔ (y = x ∧ pu.h.sp ps (n : Int) = false) ∨ ∃ i, i < t.length ∧ gz t i = x ∧ pu.h.sp ps ((n + 1 + i : Nat) : Int) = false := by
      constructor
      · rintro ⟨i, hi, hx, hp⟩
        cases i with
        | zero => exact .inl ⟨by simpa [gz] using hx, by simpa using hp⟩
        | succ i => exact .inr ⟨i, by simpa using hi, by simpa [gz] using hx, by rw [show n + 1 + i = n + (i + 1) from by omega]; exact hp⟩
      · rintro (⟨rfl, hp⟩ | ⟨i, hi, hx, hp⟩)
        · exact ⟨0, by simp, by simp [gz], by simpa using hp⟩
        · exact ⟨i + 1, by simpa using hi, by simpa [gz] using hx, by rw [show n + (i + 1) = n + 1 + i from by omega]; exact hp⟩
    rw [step, ← ih]
    simp only [go]
    cases hp : pu.h.sp ps (n : Int)
    · simp only [cond_false, List.mem_cons, and_true]
      exact ⟨fun h => h.imp Eq.symm id, fun h => h.imp Eq.symm id⟩
    · simp
theorem go_sub (ps : List Int) : ∀ (l : List Int) (n : Nat), (go ps l n).Sublist l := by
  intro l
  induction l with
  | nil => intro n; exact List.Sublist.refl _
  | cons y t ih =>
    intro n
    simp only [go]
    cases pu.h.sp ps (n : Int)
    · exact (ih (n + 1)).cons_cons y
    · exact (ih (n + 1)).cons y
end lv
namespace wr
theorem h_iff {r c : Nat} {xs : List Int} {i : Nat} : pu.h.sp (sv r c xs) (i : Int) = true ↔ i < r ∧ ∃ j, j < r ∧ ∀ k, k < c → gz xs (i * c + k) < gz xs (j * c + k) := by
  simp only [pu.h.sp, sv, br.up, List.any_map, List.any_eq_true, Function.comp, beq_iff_eq, F, List.mem_filter, List.mem_range, wr.b.sp, wr.ex.sp, wr.w.sp, Bool.not_eq_true', List.any_eq_false, wr.le.sp, decide_eq_true_eq, br.col]
  constructor
  · rintro ⟨q, ⟨h1, j, hj, h2⟩, e⟩
    obtain rfl : q = i := by omega
    exact ⟨h1, j, hj, fun k hk => Int.not_le.1 fun hh => h2 k hk (decide_eq_true hh)⟩
  · rintro ⟨h1, j, hj, h2⟩
    exact ⟨i, ⟨h1, j, hj, fun k hk hh => Int.not_le.2 (h2 k hk) (of_decide_eq_true hh)⟩, rfl⟩
end wr
/-! ### What is left, whatever the order -/
namespace un
def DR (f : Int → Int → Int) (Q : List Int) (x y : Int) : Prop := ∀ q ∈ Q, f x q < f y q
def DC (g : Int → Int → Int) (P : List Int) (z w : Int) : Prop := ∀ p ∈ P, g p z < g p w
/-- Nobody who is left is worse than anybody, with those who are left. -/
structure Und (f g : Int → Int → Int) (A B P Q : List Int) : Prop where
  r : ∀ x ∈ P, ∀ y ∈ A, ¬ DR f Q x y
  c : ∀ z ∈ Q, ∀ w ∈ B, ¬ DC g P z w
theorem Und.swap {f g : Int → Int → Int} {A B P Q : List Int} (h : Und f g A B P Q) : Und (fun a b => g b a) (fun a b => f b a) B A Q P := ⟨h.c, h.r⟩
/-- Nobody is left out but for someone better. -/
structure Out (f g : Int → Int → Int) (A B P Q : List Int) : Prop where
  r : ∀ x ∈ A, x ∉ P → ∃ y ∈ A, DR f Q x y
  c : ∀ z ∈ B, z ∉ Q → ∃ w ∈ B, DC g P z w
theorem und_row {f : Int → Int → Int} {A P Q : List Int} {q0 : Int} (hq : q0 ∈ Q) (hb : ∀ x ∈ A, f x q0 ≤ 1000) (ho : ∀ x ∈ A, x ∉ P → ∃ y ∈ A, DR f Q x y) (hs : ∀ x ∈ P, ∀ y ∈ P, ¬ DR f Q x y) {x : Int} (hx : x ∈ P) :
    ∀ (n : Nat) (y : Int), (1000 - f y q0).toNat ≤ n → y ∈ A → ¬ DR f Q x y := by
  intro n
  induction n with
  | zero =>
    intro y hn hy hd
    by_cases hp : y ∈ P
    · exact hs x hx y hp hd
    · obtain ⟨z, hz, hd2⟩ := ho y hy hp
      have h1 := hd2 q0 hq
      have h2 := hb z hz
      have h3 := hb y hy
      omega
  | succ n ih =>
    intro y hn hy hd
    by_cases hp : y ∈ P
    · exact hs x hx y hp hd
    · obtain ⟨z, hz, hd2⟩ := ho y hy hp
      have h1 := hd2 q0 hq
      have h2 := hb z hz
      exact ih z (by omega) hz fun q hq' => Int.lt_trans (hd q hq') (hd2 q hq')
theorem srt_eq : ∀ (l m : List Int), l.Pairwise (· < ·) → m.Pairwise (· < ·) → (∀ x, x ∈ l ↔ x ∈ m) → l = m := by
  intro l
  induction l with
  | nil =>
    intro m _ _ h
    cases m with
    | nil => rfl
    | cons b m => have := (h b).2 List.mem_cons_self; cases this
  | cons a l ih =>
    intro m hl hm h
    cases m with
    | nil => have := (h a).1 List.mem_cons_self; cases this
    | cons b m =>
      rw [List.pairwise_cons] at hl hm
      have e : a = b := by
        rcases List.mem_cons.1 ((h a).1 List.mem_cons_self) with e | h1
        · exact e
        · rcases List.mem_cons.1 ((h b).2 List.mem_cons_self) with e | h2
          · exact e.symm
          · have := hm.1 a h1
            have := hl.1 b h2
            omega
      subst e
      congr 1
      refine ih m hl.2 hm.2 fun x => ⟨fun hx => ?_, fun hx => ?_⟩
      · rcases List.mem_cons.1 ((h x).1 (List.mem_cons_of_mem _ hx)) with e | h1
        · have := hl.1 x hx; omega
        · exact h1
      · rcases List.mem_cons.1 ((h x).2 (List.mem_cons_of_mem _ hx)) with e | h1
        · have := hm.1 x hx; omega
        · exact h1
theorem cnt_srt (n : Nat) : (cnt.sv n).Pairwise (· < ·) := by
  simp only [cnt.sv, br.up, List.pairwise_map]
  exact List.pairwise_lt_range.imp fun h => by omega
theorem cnt_mem {n : Nat} {x : Int} : x ∈ cnt.sv n ↔ 0 ≤ x ∧ x < n := by
  simp only [cnt.sv, br.up, List.mem_map, List.mem_range]
  exact ⟨fun ⟨k, hk, e⟩ => by omega, fun h => ⟨x.toNat, by omega, by omega⟩⟩
def fr (c : Nat) (xs : List Int) (p q : Int) : Int := pt.cell c xs p q
theorem p1_iff {c : Nat} {xs ps qs : List Int} {x : Int} : x ∈ sg.p1 c xs ps qs ↔ x ∈ ps ∧ ¬ ∃ y ∈ ps, DR (fr c xs) qs x y := by
  have hd : ∀ i j, i < ps.length → j < ps.length → ((∀ k, k < qs.length → gz (pt.sv c xs ps qs) (i * qs.length + k) < gz (pt.sv c xs ps qs) (j * qs.length + k)) ↔ DR (fr c xs) qs (gz ps i) (gz ps j)) := by
    intro i j hi hj
    constructor
    · intro h q hq
      obtain ⟨k, hk, rfl⟩ := List.getElem_of_mem hq
      have := h k hk
      rw [pt.sv_get hk hi, pt.sv_get hk hj, gz_eq hk] at this
      exact this
    · intro h k hk
      rw [pt.sv_get hk hi, pt.sv_get hk hj]
      exact h _ (gz_mem hk)
  unfold sg.p1 lv.sv
  rw [lv.go_iff]
  constructor
  · rintro ⟨i, hi, rfl, h⟩
    refine ⟨gz_mem hi, fun ⟨y, hy, hdom⟩ => ?_⟩
    obtain ⟨j, hj, rfl⟩ := List.getElem_of_mem hy
    rw [← gz_eq hj] at hdom
    have : pu.h.sp (sg.w1.sv c xs ps qs) ((0 + i : Nat) : Int) = true := by
      rw [Nat.zero_add]
      exact wr.h_iff.2 ⟨hi, j, hj, (hd i j hi hj).2 hdom⟩
    rw [h] at this; cases this
  · rintro ⟨hx, h⟩
    obtain ⟨i, hi, rfl⟩ := List.getElem_of_mem hx
    rw [← gz_eq hi] at h
    refine ⟨i, hi, gz_eq hi, ?_⟩
    cases hh : pu.h.sp (sg.w1.sv c xs ps qs) ((0 + i : Nat) : Int) with
    | false => rfl
    | true =>
      rw [Nat.zero_add] at hh
      obtain ⟨_, j, hj, hk⟩ := wr.h_iff.1 hh
      exact (h ⟨_, gz_mem hj, (hd i j hi hj).1 hk⟩).elim
theorem q1_iff {c : Nat} {xs ys ps qs : List Int} {z : Int} : z ∈ sg.q1 c xs ys ps qs ↔ z ∈ qs ∧ ¬ ∃ w ∈ qs, DC (fr c ys) (sg.p1 c xs ps qs) z w := by
  unfold sg.q1 lv.sv
  generalize sg.p1 c xs ps qs = P
  have hd : ∀ i j, i < qs.length → j < qs.length → ((∀ k, k < P.length → gz (tn.sv P.length qs.length (pt.sv c ys P qs)) (i * P.length + k) < gz (tn.sv P.length qs.length (pt.sv c ys P qs)) (j * P.length + k)) ↔ DC (fr c ys) P (gz qs i) (gz qs j)) := by
    intro i j hi hj
    constructor
    · intro h p hp
      obtain ⟨k, hk, rfl⟩ := List.getElem_of_mem hp
      have := h k hk
      rw [tn.sv_get hi hk, tn.sv_get hj hk, pt.sv_get hi hk, pt.sv_get hj hk, gz_eq hk] at this
      exact this
    · intro h k hk
      rw [tn.sv_get hi hk, tn.sv_get hj hk, pt.sv_get hi hk, pt.sv_get hj hk]
      exact h _ (gz_mem hk)
  rw [lv.go_iff]
  constructor
  · rintro ⟨i, hi, rfl, h⟩
    refine ⟨gz_mem hi, fun ⟨y, hy, hdom⟩ => ?_⟩
    obtain ⟨j, hj, rfl⟩ := List.getElem_of_mem hy
    rw [← gz_eq hj] at hdom
    have : pu.h.sp (sg.w2.sv c ys P qs) ((0 + i : Nat) : Int) = true := by
      rw [Nat.zero_add]
      exact wr.h_iff.2 ⟨hi, j, hj, (hd i j hi hj).2 hdom⟩
    rw [h] at this; cases this
  · rintro ⟨hx, h⟩
    obtain ⟨i, hi, rfl⟩ := List.getElem_of_mem hx
    rw [← gz_eq hi] at h
    refine ⟨i, hi, gz_eq hi, ?_⟩
    cases hh : pu.h.sp (sg.w2.sv c ys P qs) ((0 + i : Nat) : Int) with
    | false => rfl
    | true =>
      rw [Nat.zero_add] at hh
      obtain ⟨_, j, hj, hk⟩ := wr.h_iff.1 hh
      exact (h ⟨_, gz_mem hj, (hd i j hi hj).1 hk⟩).elim
/-- What the rounds come to. -/
structure Res (f g : Int → Int → Int) (A B ps qs P Q : List Int) : Prop where
  sp : P.Sublist ps
  sq : Q.Sublist qs
  np : 1 ≤ P.length
  nq : 1 ≤ Q.length
  und : Und f g A B P Q
  all : ∀ P' Q', Und f g A B P' Q' → (∀ x ∈ P', x ∈ ps) → (∀ x ∈ Q', x ∈ qs) → (∀ x ∈ P', x ∈ P) ∧ ∀ x ∈ Q', x ∈ Q
theorem go_ok {r c : Nat} {xs ys : List Int} (hbx : ∀ x ∈ cnt.sv r, ∀ q ∈ cnt.sv c, fr c xs x q ≤ 1000) (hby : ∀ x ∈ cnt.sv r, ∀ q ∈ cnt.sv c, fr c ys x q ≤ 1000) : ∀ (m : Nat) (ps qs : List Int), ps.length + qs.length ≤ m → 1 ≤ ps.length → 1 ≤ qs.length →
    ps.Sublist (cnt.sv r) → qs.Sublist (cnt.sv c) → Out (fr c xs) (fr c ys) (cnt.sv r) (cnt.sv c) ps qs →
    Res (fr c xs) (fr c ys) (cnt.sv r) (cnt.sv c) ps qs (sg.go c xs ys m ps qs).1 (sg.go c xs ys m ps qs).2 := by
  intro m
  induction m with
  | zero => intro ps qs hm hp hq; omega
  | succ m ih =>
    intro ps qs hm hp hq sp sq ho
    have l1 : 1 ≤ (sg.p1 c xs ps qs).length := sg.p1_pos xs hp hq
    have l2 : 1 ≤ (sg.q1 c xs ys ps qs).length := sg.q1_pos xs ys hp hq
    have s1 : (sg.p1 c xs ps qs).Sublist ps := lv.go_sub _ _ _
    have s2 : (sg.q1 c xs ys ps qs).Sublist qs := lv.go_sub _ _ _
    have keep : ∀ P' Q', Und (fr c xs) (fr c ys) (cnt.sv r) (cnt.sv c) P' Q' → (∀ x ∈ P', x ∈ ps) → (∀ x ∈ Q', x ∈ qs) → (∀ x ∈ P', x ∈ sg.p1 c xs ps qs) ∧ ∀ x ∈ Q', x ∈ sg.q1 c xs ys ps qs := by
      intro P' Q' hu h1 h2
      have a : ∀ x ∈ P', x ∈ sg.p1 c xs ps qs := fun x hx => p1_iff.2 ⟨h1 x hx, fun ⟨y, hy, hd⟩ => hu.r x hx y (sp.subset hy) fun q hq' => hd q (h2 q hq')⟩
      exact ⟨a, fun z hz => q1_iff.2 ⟨h2 z hz, fun ⟨w, hw, hd⟩ => hu.c z hz w (sq.subset hw) fun p hp' => hd p (a p hp')⟩⟩
    have ho1 : Out (fr c xs) (fr c ys) (cnt.sv r) (cnt.sv c) (sg.p1 c xs ps qs) (sg.q1 c xs ys ps qs) := by
      refine ⟨fun x hx hn => ?_, fun z hz hn => ?_⟩
      · by_cases h : x ∈ ps
        · have : ∃ y ∈ ps, DR (fr c xs) qs x y := Classical.byContradiction fun hh => hn (p1_iff.2 ⟨h, hh⟩)
          obtain ⟨y, hy, hd⟩ := this
          exact ⟨y, sp.subset hy, fun q hq' => hd q (s2.subset hq')⟩
        · obtain ⟨y, hy, hd⟩ := ho.r x hx h
          exact ⟨y, hy, fun q hq' => hd q (s2.subset hq')⟩
      · by_cases h : z ∈ qs
        · have : ∃ w ∈ qs, DC (fr c ys) (sg.p1 c xs ps qs) z w := Classical.byContradiction fun hh => hn (q1_iff.2 ⟨h, hh⟩)
          obtain ⟨w, hw, hd⟩ := this
          exact ⟨w, sq.subset hw, hd⟩
        · obtain ⟨w, hw, hd⟩ := ho.c z hz h
          exact ⟨w, hw, fun p hp' => hd p (s1.subset hp')⟩
    simp only [sg.go]
    cases hz : decide ((sg.w1.sv c xs ps qs).length = 0) && decide ((sg.w2.sv c ys (sg.p1 c xs ps qs) qs).length = 0)
    · simp only [cond_false]
      have hlt : (sg.p1 c xs ps qs).length + (sg.q1 c xs ys ps qs).length ≤ m := by
        have a1 := s1.length_le
        have a2 := s2.length_le
        rcases Nat.eq_zero_or_pos (sg.w1.sv c xs ps qs).length with e | e
        · rcases Nat.eq_zero_or_pos (sg.w2.sv c ys (sg.p1 c xs ps qs) qs).length with e2 | e2
          · rw [decide_eq_true e, decide_eq_true e2] at hz; cases hz
          · have := sg.q1_lt (xs := xs) e2; omega
        · have := sg.p1_lt e; omega
      have R := ih _ _ hlt l1 l2 (s1.trans sp) (s2.trans sq) ho1
      exact ⟨R.sp.trans s1, R.sq.trans s2, R.np, R.nq, R.und, fun P' Q' hu h1 h2 => by
        obtain ⟨k1, k2⟩ := keep P' Q' hu h1 h2
        exact R.all P' Q' hu k1 k2⟩
    · simp only [cond_true]
      simp only [Bool.and_eq_true, decide_eq_true_eq] at hz
      have n1 : ∀ i : Nat, pu.h.sp (sg.w1.sv c xs ps qs) (i : Int) = false := fun i => by
        rw [List.length_eq_zero_iff] at hz; rw [hz.1]; rfl
      have n2 : ∀ i : Nat, pu.h.sp (sg.w2.sv c ys (sg.p1 c xs ps qs) qs) (i : Int) = false := fun i => by
        rw [List.length_eq_zero_iff (l := sg.w2.sv c ys (sg.p1 c xs ps qs) qs)] at hz; rw [hz.2]; rfl
      have e1 : ∀ x ∈ ps, x ∈ sg.p1 c xs ps qs := fun x hx => by
        obtain ⟨i, hi, rfl⟩ := List.getElem_of_mem hx
        exact (lv.go_iff _ _ _ _).2 ⟨i, hi, gz_eq hi, n1 _⟩
      have e2 : ∀ x ∈ qs, x ∈ sg.q1 c xs ys ps qs := fun x hx => by
        obtain ⟨i, hi, rfl⟩ := List.getElem_of_mem hx
        exact (lv.go_iff _ _ _ _).2 ⟨i, hi, gz_eq hi, n2 _⟩
      refine ⟨s1, s2, l1, l2, ⟨fun x hx y hy => ?_, fun z hz' w hw => ?_⟩, keep⟩
      · obtain ⟨q0, hq0⟩ : ∃ q0, q0 ∈ sg.q1 c xs ys ps qs := ⟨_, List.getElem_mem (show 0 < _ from l2)⟩
        refine und_row hq0 (fun x hx => hbx x hx _ (sq.subset (s2.subset hq0))) ho1.r (fun a ha b hb hd => ?_) hx _ y (Nat.le_refl _) hy
        exact (p1_iff.1 ha).2 ⟨b, s1.subset hb, fun q hq' => hd q (e2 q hq')⟩
      · obtain ⟨p0, hp0⟩ : ∃ p0, p0 ∈ sg.p1 c xs ps qs := ⟨_, List.getElem_mem (show 0 < _ from l1)⟩
        refine und_row (f := fun a b => fr c ys b a) (A := cnt.sv c) (Q := sg.p1 c xs ps qs) hp0 (fun x hx => hby _ (sp.subset (s1.subset hp0)) x hx) ho1.c (fun a ha b hb hd => ?_) hz' _ w (Nat.le_refl _) hw
        exact (q1_iff.1 ha).2 ⟨b, s2.subset hb, hd⟩
theorem bound {r c : Nat} {xs : List Int} (hx : xs.length = r * c) (v : ∀ x ∈ xs, -1000 ≤ x ∧ x ≤ 1000) (p q : Int) : fr c xs p q ≤ 1000 := (po.bd hx v _).2
/-- The rows and the columns that are left. -/
theorem left_ok {r c : Nat} {xs ys : List Int} (hr : 1 ≤ r ∧ r ≤ 6) (hc : 1 ≤ c ∧ c ≤ 6) (hx : xs.length = r * c) (hy : ys.length = r * c) (vx : ∀ x ∈ xs, -1000 ≤ x ∧ x ≤ 1000) (vy : ∀ x ∈ ys, -1000 ≤ x ∧ x ≤ 1000) :
    Res (fr c xs) (fr c ys) (cnt.sv r) (cnt.sv c) (cnt.sv r) (cnt.sv c) (sg.rows.sv r c xs ys) (sg.cols.sv r c xs ys) := by
  refine go_ok (fun _ _ _ _ => bound hx vx _ _) (fun _ _ _ _ => bound hy vy _ _) 20 _ _ ?_ ?_ ?_ (List.Sublist.refl _) (List.Sublist.refl _) ⟨fun x hx hn => (hn hx).elim, fun x hx hn => (hn hx).elim⟩
  · rw [cnt.sv_length, cnt.sv_length]; omega
  · rw [cnt.sv_length]; omega
  · rw [cnt.sv_length]; omega
theorem turn_fr {r c : Nat} {xs : List Int} {p q : Int} (hp : p ∈ cnt.sv r) (hq : q ∈ cnt.sv c) : fr r (tn.sv r c xs) q p = fr c xs p q := by
  have h1 := cnt_mem.1 hp
  have h2 := cnt_mem.1 hq
  unfold fr pt.cell
  exact tn.sv_get (by omega) (by omega)
theorem und_turn {r c : Nat} {xs ys P Q : List Int} (hP : ∀ x ∈ P, x ∈ cnt.sv r) (hQ : ∀ x ∈ Q, x ∈ cnt.sv c) : Und (fr r (tn.sv r c ys)) (fr r (tn.sv r c xs)) (cnt.sv c) (cnt.sv r) Q P ↔ Und (fr c xs) (fr c ys) (cnt.sv r) (cnt.sv c) P Q := by
  constructor
  · intro h
    refine ⟨fun x hx y hy hd => h.c x hx y hy fun q hq => ?_, fun z hz w hw hd => h.r z hz w hw fun p hp => ?_⟩
    · rw [turn_fr (hP x hx) (hQ q hq), turn_fr hy (hQ q hq)]; exact hd q hq
    · rw [turn_fr (hP p hp) (hQ z hz), turn_fr (hP p hp) hw]; exact hd p hp
  · intro h
    refine ⟨fun z hz w hw hd => h.c z hz w hw fun p hp => ?_, fun x hx y hy hd => h.r x hx y hy fun q hq => ?_⟩
    · have := hd p hp
      rw [turn_fr (hP p hp) (hQ z hz), turn_fr (hP p hp) hw] at this; exact this
    · have := hd q hq
      rw [turn_fr (hP x hx) (hQ q hq), turn_fr hy (hQ q hq)] at this; exact this
theorem turn_len {r c : Nat} {xs : List Int} : (tn.sv r c xs).length = c * r := tn.sv_length _ _ _
/-- With the players exchanged, the same are left. -/
theorem left_turn {r c : Nat} {xs ys : List Int} (hr : 1 ≤ r ∧ r ≤ 6) (hc : 1 ≤ c ∧ c ≤ 6) (hx : xs.length = r * c) (hy : ys.length = r * c) (vx : ∀ x ∈ xs, -1000 ≤ x ∧ x ≤ 1000) (vy : ∀ x ∈ ys, -1000 ≤ x ∧ x ≤ 1000) :
    sg.rows.sv c r (tn.sv r c ys) (tn.sv r c xs) = sg.cols.sv r c xs ys ∧ sg.cols.sv c r (tn.sv r c ys) (tn.sv r c xs) = sg.rows.sv r c xs ys := by
  have A := left_ok hr hc hx hy vx vy
  have B := left_ok hc hr (turn_len (r := r) (c := c) (xs := ys)) (turn_len (xs := xs)) (fun x h => vy x (tn.sv_mem hy h)) (fun x h => vx x (tn.sv_mem hx h))
  have b1 : ∀ x ∈ sg.cols.sv c r (tn.sv r c ys) (tn.sv r c xs), x ∈ cnt.sv r := fun x h => B.sq.subset h
  have b2 : ∀ x ∈ sg.rows.sv c r (tn.sv r c ys) (tn.sv r c xs), x ∈ cnt.sv c := fun x h => B.sp.subset h
  have a1 : ∀ x ∈ sg.rows.sv r c xs ys, x ∈ cnt.sv r := fun x h => A.sp.subset h
  have a2 : ∀ x ∈ sg.cols.sv r c xs ys, x ∈ cnt.sv c := fun x h => A.sq.subset h
  have u1 := A.all _ _ ((und_turn b1 b2).1 B.und) b1 b2
  have u2 := B.all _ _ ((und_turn a1 a2).2 A.und) a2 a1
  exact ⟨srt_eq _ _ ((cnt_srt c).sublist B.sp) ((cnt_srt c).sublist A.sq) fun x => ⟨u1.2 x, u2.1 x⟩, srt_eq _ _ ((cnt_srt r).sublist B.sq) ((cnt_srt r).sublist A.sp) fun x => ⟨u1.1 x, u2.2 x⟩⟩
/-- Who is worse is not left; equilibria are. -/
theorem left_worse {r c : Nat} {xs ys : List Int} (hr : 1 ≤ r ∧ r ≤ 6) (hc : 1 ≤ c ∧ c ≤ 6) (hx : xs.length = r * c) (hy : ys.length = r * c) (vx : ∀ x ∈ xs, -1000 ≤ x ∧ x ≤ 1000) (vy : ∀ x ∈ ys, -1000 ≤ x ∧ x ≤ 1000) {x : Int} (h : x ∈ wr.sv r c xs) : x ∉ sg.rows.sv r c xs ys := by
  have A := left_ok hr hc hx hy vx vy
  intro hm
  obtain ⟨i, rfl, _⟩ := wr.sv_in h
  have : pu.h.sp (wr.sv r c xs) (i : Int) = true := by simp only [pu.h.sp, List.any_eq_true, beq_iff_eq]; exact ⟨_, h, rfl⟩
  obtain ⟨hi, j, hj, hk⟩ := wr.h_iff.1 this
  refine A.und.r _ hm (j : Int) (cnt_mem.2 ⟨by omega, by omega⟩) fun q hq => ?_
  have := cnt_mem.1 (A.sq.subset hq)
  unfold fr pt.cell
  exact hk q.toNat (by omega)
theorem left_pure {r c : Nat} {xs ys : List Int} (hr : 1 ≤ r ∧ r ≤ 6) (hc : 1 ≤ c ∧ c ≤ 6) (hx : xs.length = r * c) (hy : ys.length = r * c) (vx : ∀ x ∈ xs, -1000 ≤ x ∧ x ≤ 1000) (vy : ∀ x ∈ ys, -1000 ≤ x ∧ x ≤ 1000) {i k : Nat} (hi : i < r) (hk : k < c) (h : an.PE r c xs ys i k) :
    (i : Int) ∈ sg.rows.sv r c xs ys ∧ (k : Int) ∈ sg.cols.sv r c xs ys := by
  have A := left_ok hr hc hx hy vx vy
  have := A.all [(i : Int)] [(k : Int)] ⟨fun x hx' y hy' hd => ?_, fun z hz w hw hd => ?_⟩ (fun x hx' => by simp only [List.mem_singleton] at hx'; exact cnt_mem.2 (by omega)) (fun x hx' => by simp only [List.mem_singleton] at hx'; exact cnt_mem.2 (by omega))
  · exact ⟨this.1 _ (by simp), this.2 _ (by simp)⟩
  · simp only [List.mem_singleton] at hx'; subst hx'
    have h1 := hd (k : Int) (by simp)
    have h2 := cnt_mem.1 hy'
    have h3 := h.1 y.toNat (by omega)
    unfold fr pt.cell at h1
    simp only [Int.toNat_natCast] at h1
    omega
  · simp only [List.mem_singleton] at hz; subst hz
    have h1 := hd (i : Int) (by simp)
    have h2 := cnt_mem.1 hw
    have h3 := h.2 w.toNat (by omega)
    unfold fr pt.cell at h1
    simp only [Int.toNat_natCast] at h1
    omega
theorem worse_few {r c : Nat} (xs : List Int) (hr : 0 < r) (hc : 0 < c) : (wr.sv r c xs).length < r := by
  obtain ⟨i, hi, h⟩ := wr.sv_out xs hr hc
  have hf : wr.b.sp r c xs i = false := by
    cases hb : wr.b.sp r c xs i with
    | false => rfl
    | true =>
      have : pu.h.sp (wr.sv r c xs) (i : Int) = true := by
        simp only [pu.h.sp, List.any_eq_true, beq_iff_eq, wr.sv, br.up, List.mem_map, wr.F, List.mem_filter, List.mem_range]
        exact ⟨_, ⟨i, ⟨hi, hb⟩, rfl⟩, rfl⟩
      rw [h] at this; cases this
  rw [wr.sv, br.up_length, wr.F]
  have := (List.length_filter_lt_length_iff_exists (p := wr.b.sp r c xs) (l := List.range r)).2 ⟨i, List.mem_range.2 hi, by simp [hf]⟩
  simpa using this
/-! ### How many equilibria -/
def S : Nat → (Nat → Nat) → Nat
  | 0, _ => 0
  | n + 1, f => S n f + f n
theorem S_add (f g : Nat → Nat) : ∀ n, S n (fun i => f i + g i) = S n f + S n g := by
  intro n
  induction n with
  | zero => rfl
  | succ n ih => simp only [S, ih]; omega
theorem S_zero : ∀ n, S n (fun _ => 0) = 0 := by
  intro n
  induction n with
  | zero => rfl
  | succ n ih => simp only [S, ih]
theorem S_congr {f g : Nat → Nat} : ∀ n, (∀ i, i < n → f i = g i) → S n f = S n g := by
  intro n
  induction n with
  | zero => intro _; rfl
  | succ n ih => intro h; simp only [S, ih fun i hi => h i (by omega), h n (by omega)]
theorem S_swap (F : Nat → Nat → Nat) (m : Nat) : ∀ n, S n (fun i => S m (fun k => F i k)) = S m (fun k => S n (fun i => F i k)) := by
  intro n
  induction n with
  | zero => simp only [S, S_zero]
  | succ n ih => simp only [S, ih, S_add]
def one (b : Bool) : Nat := bif b then 1 else 0
theorem filter_S (p : Nat → Bool) : ∀ n, ((List.range n).filter p).length = S n fun k => one (p k) := by
  intro n
  induction n with
  | zero => rfl
  | succ n ih =>
    rw [List.range_succ, List.filter_append, List.length_append, ih, S]
    cases h : p n <;> simp [h, one]
theorem flat_S (f : Nat → List Int) : ∀ n, ((List.range n).flatMap f).length = S n fun i => (f i).length := by
  intro n
  induction n with
  | zero => rfl
  | succ n ih => rw [List.range_succ, List.flatMap_append, List.length_append, ih, S]; simp
theorem pu_S (r c : Nat) (xs ys : List Int) : (pu.sv r c xs ys).length = S r fun i => S c fun k => one (pu.p.sp r c xs ys i k) := by
  unfold pu.sv pu.pre
  rw [List.length_append, flat_S]
  simp only [pu.row, List.length_map, filter_S]
  simp [S]
theorem bool_eq {a b : Bool} (h : a = true ↔ b = true) : a = b := by cases a <;> cases b <;> simp_all
theorem pu_turn {r c : Nat} (xs ys : List Int) : (pu.sv c r (tn.sv r c ys) (tn.sv r c xs)).length = (pu.sv r c xs ys).length := by
  rw [pu_S, pu_S, S_swap]
  refine S_congr _ fun i hi => S_congr _ fun k hk => ?_
  congr 1
  refine bool_eq ?_
  rw [an.p_iff hk hi, an.p_iff hi hk]
  have e1 : ∀ l, l < c → gz (tn.sv r c ys) (l * r + i) = gz ys (i * c + l) := fun l hl => tn.sv_get hl hi
  have e2 : ∀ j, j < r → gz (tn.sv r c xs) (k * r + j) = gz xs (j * c + k) := fun j hj => tn.sv_get hk hj
  constructor
  · rintro ⟨h1, h2⟩
    refine ⟨fun j hj => ?_, fun l hl => ?_⟩
    · have := h2 j hj; rwa [e2 j hj, e2 i hi] at this
    · have := h1 l hl; rwa [e1 l hl, e1 k hk] at this
  · rintro ⟨h1, h2⟩
    refine ⟨fun l hl => ?_, fun j hj => ?_⟩
    · rw [e1 l hl, e1 k hk]; exact h2 l hl
    · rw [e2 j hj, e2 i hi]; exact h1 j hj
def T : List Int → (Nat → Nat) → Nat
  | [], _ => 0
  | p :: t, f => f p.toNat + T t f
theorem T_app (f : Nat → Nat) : ∀ l m, T (l ++ m) f = T l f + T m f := by
  intro l
  induction l with
  | nil => intro m; simp [T]
  | cons a l ih => intro m; simp only [List.cons_append, T, ih]; omega
theorem T_fl (f : Nat → Nat) {i0 : Nat} (h0 : f i0 = 0) : ∀ n, T (df.fl (df.eq.sp (i0 : Int)) n) f = S n f := by
  intro n
  induction n with
  | zero => rfl
  | succ n ih =>
    rw [df.fl_succ, S]
    by_cases e : n = i0
    · have : df.eq.sp (i0 : Int) n = true := by simp [df.eq.sp, e]
      rw [this, cond_true, ih, e, h0]; omega
    · have : df.eq.sp (i0 : Int) n = false := by simp only [df.eq.sp, beq_eq_false_iff_ne, ne_eq]; omega
      rw [this, cond_false, T_app, ih]
      simp [T]
theorem S_T (f : Nat → Nat) : ∀ l : List Int, S l.length (fun a => f (gz l a).toNat) = T l f := by
  have snoc : ∀ (l : List Int) (x : Int), S (l ++ [x]).length (fun a => f (gz (l ++ [x]) a).toNat) = S l.length (fun a => f (gz l a).toNat) + f x.toNat := by
    intro l x
    rw [List.length_append, List.length_singleton, S, gz_last]
    congr 1
    exact S_congr _ fun i hi => by rw [gz_left hi]
  intro l
  induction h : l.length generalizing l with
  | zero => obtain rfl := List.length_eq_zero_iff.1 h; rfl
  | succ n ih =>
    have hne : l ≠ [] := by intro e; subst e; simp at h
    have e := List.dropLast_concat_getLast hne
    have hl : l.dropLast.length = n := by rw [List.length_dropLast]; omega
    have := snoc l.dropLast (l.getLast hne)
    rw [e, hl, h] at this
    have h2 := ih l.dropLast hl
    rw [this, h2]
    conv => rhs; rw [← e]
    rw [T_app]; simp [T]
/-- Without a row that is worse, there are as many equilibria. -/
theorem pu_less {r c : Nat} {xs ys : List Int} (hr : r ≤ 6) (hc : 1 ≤ c ∧ c ≤ 6) {i0 : Nat} (h : (i0 : Int) ∈ wr.sv r c xs) :
    (pu.sv (df.sv r (i0 : Int)).length (cnt.sv c).length (pt.sv c xs (df.sv r (i0 : Int)) (cnt.sv c)) (pt.sv c ys (df.sv r (i0 : Int)) (cnt.sv c))).length = (pu.sv r c xs ys).length := by
  have hb : pu.h.sp (wr.sv r c xs) (i0 : Int) = true := by simp only [pu.h.sp, List.any_eq_true, beq_iff_eq]; exact ⟨_, h, rfl⟩
  obtain ⟨hi0, j0, hj0, hd⟩ := wr.h_iff.1 hb
  have lc := cnt.sv_length c
  obtain ⟨ps, hps⟩ : ∃ ps, df.sv r (i0 : Int) = ps := ⟨_, rfl⟩
  have mem : ∀ x : Int, x ∈ ps ↔ 0 ≤ x ∧ x < r ∧ x ≠ i0 := fun x => by rw [← hps]; exact df.sv_mem
  have zero : (S c fun k => one (pu.p.sp r c xs ys i0 k)) = 0 := by
    rw [show S c (fun k => one (pu.p.sp r c xs ys i0 k)) = S c (fun _ => 0) from S_congr _ fun k hk => ?_, S_zero]
    cases hp : pu.p.sp r c xs ys i0 k with
    | false => rfl
    | true =>
      have h1 := ((an.p_iff hi0 hk).1 hp).1 j0 hj0
      have h2 := hd k hk
      omega
  have key := T_fl (fun i => S c fun k => one (pu.p.sp r c xs ys i k)) zero r
  rw [pu_S, pu_S, ← key]
  rw [show df.fl (df.eq.sp (i0 : Int)) r = ps from hps, ← S_T, hps]
  refine S_congr _ fun a ha => ?_
  rw [lc]
  refine S_congr _ fun k hk => ?_
  congr 1
  have hm := (mem _).1 (gz_mem ha)
  obtain ⟨i, hi⟩ : ∃ i : Nat, gz ps a = i := ⟨(gz ps a).toNat, by omega⟩
  rw [hi] at hm ⊢
  rw [Int.toNat_natCast]
  have hir : i < r := by omega
  have cl : ∀ (zs : List Int) (b l : Nat), b < ps.length → l < c → gz (pt.sv c zs ps (cnt.sv c)) (b * c + l) = gz zs ((gz ps b).toNat * c + l) := fun zs b l hb hl => by
    have := pt.sv_get (c := c) (xs := zs) (qs := cnt.sv c) (k := l) (by omega) hb
    rw [lc, cnt.sv_get hl] at this
    rw [this, pt.cell, Int.toNat_natCast]
  have ga : (gz ps a).toNat = i := by rw [hi]; rfl
  refine bool_eq ?_
  rw [an.p_iff ha hk, an.p_iff hir hk]
  constructor
  · rintro ⟨h1, h2⟩
    refine ⟨fun j hj => ?_, fun l hl => ?_⟩
    · have get : ∀ j, j < r → j ≠ i0 → gz xs (j * c + k) ≤ gz xs (i * c + k) := fun j hj hne => by
        obtain ⟨b, hb2, hbe⟩ := List.getElem_of_mem ((mem (j : Int)).2 ⟨by omega, by omega, by omega⟩)
        have := h1 b hb2
        rw [cl xs b k hb2 hk, cl xs a k ha hk, ga, gz_eq hb2, hbe, Int.toNat_natCast] at this
        exact this
      by_cases e : j = i0
      · subst e
        have h3 := hd k hk
        have hne : j0 ≠ j := fun e => by subst e; omega
        have := get j0 hj0 hne
        omega
      · exact get j hj e
    · have := h2 l hl
      rw [cl ys a l ha hl, cl ys a k ha hk, ga] at this
      exact this
  · rintro ⟨h1, h2⟩
    refine ⟨fun b hb2 => ?_, fun l hl => ?_⟩
    · have hm2 := (mem _).1 (gz_mem hb2)
      rw [cl xs b k hb2 hk, cl xs a k ha hk, ga]
      exact h1 _ (by omega)
    · rw [cl ys a l ha hl, cl ys a k ha hk, ga]
      exact h2 l hl
/-- Some cell is best for both. -/
theorem pareto {xs ys : List Int} (h0 : 0 < xs.length) (vx : ∀ x, -1000 ≤ gz xs x ∧ gz xs x ≤ 1000) (vy : ∀ x, -1000 ≤ gz ys x ∧ gz ys x ≤ 1000) : 0 < (pc.sv xs ys).length := by
  have : ∀ (n x : Nat), x < xs.length → (2000 - gz xs x - gz ys x).toNat ≤ n → ∃ y, y < xs.length ∧ df.ex.sp xs.length (pc.b.sp xs ys y) = false := by
    intro n
    induction n with
    | zero =>
      intro x hx hn
      refine ⟨x, hx, ?_⟩
      cases hb : df.ex.sp xs.length (pc.b.sp xs ys x) with
      | false => rfl
      | true =>
        simp only [df.ex.sp, List.any_eq_true, List.mem_range, pc.b.sp, Bool.and_eq_true, Bool.or_eq_true, decide_eq_true_eq] at hb
        obtain ⟨y, hy, ⟨h1, h2⟩, h3⟩ := hb
        have := vx y; have := vy y
        omega
    | succ n ih =>
      intro x hx hn
      cases hb : df.ex.sp xs.length (pc.b.sp xs ys x) with
      | false => exact ⟨x, hx, hb⟩
      | true =>
        simp only [df.ex.sp, List.any_eq_true, List.mem_range, pc.b.sp, Bool.and_eq_true, Bool.or_eq_true, decide_eq_true_eq] at hb
        obtain ⟨y, hy, ⟨h1, h2⟩, h3⟩ := hb
        have := vx y; have := vy y
        exact ih y hy (by omega)
  obtain ⟨y, hy, hb⟩ := this _ 0 h0 (Nat.le_refl _)
  rw [pc.sv, br.up_length]
  refine List.length_pos_of_mem (a := y) ?_
  simp only [pc.F, List.mem_filter, List.mem_range, hy, hb, Bool.not_false, and_self]
theorem turn_turn {r c : Nat} {xs : List Int} (hx : xs.length = r * c) : tn.sv c r (tn.sv r c xs) = xs := by
  apply List.ext_getElem
  · rw [tn.sv_length, hx]
  · intro n h1 h2
    rw [← gz_eq h1, ← gz_eq h2]
    have hc : 0 < c := by
      rcases Nat.eq_zero_or_pos c with e | e
      · subst e; rw [Nat.mul_zero] at hx; omega
      · exact e
    have e := Nat.div_add_mod n c
    have hk := Nat.mod_lt n hc
    have hi : n / c < r := Nat.div_lt_of_lt_mul (by rw [Nat.mul_comm]; omega)
    have e2 : n = n / c * c + n % c := by rw [Nat.mul_comm]; omega
    rw [e2, tn.sv_get hi hk, tn.sv_get hk hi]
end un

end Go.Proofs.Ytfbalfhekldkbaa.Ab
