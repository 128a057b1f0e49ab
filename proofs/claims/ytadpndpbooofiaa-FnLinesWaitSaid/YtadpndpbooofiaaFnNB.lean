/-
  Lines: nobody begins before having come, more desks make none wait longer, the shortest first wait least; the plain law.
-/
import Derived.Test.YtadpndpbooofiaaFnXA
import Derived.Test.YtadpndpbooofiaaFnST
namespace Go.Proofs.Ytadpndpbooofiaa.Ab
open Go
set_option linter.unusedVariables false
set_option linter.unusedSimpArgs false

namespace lw
/-! The first free desk. -/
theorem go_min : ∀ (r : List Int) (l : List Int) (i b : Nat) (v : Int), l.drop i = r → i ≤ l.length → b < l.length → gz l b = v → (∀ j, j < i → v ≤ gz l j) →
    ln.at.go r i b v < l.length ∧ ∀ j, j < l.length → gz l (ln.at.go r i b v) ≤ gz l j := by
  intro r
  induction r with
  | nil =>
    intro l i b v hd hi hb hv hm
    simp only [ln.at.go]
    have : l.length ≤ i := by
      have := congrArg List.length hd
      rw [List.length_drop] at this
      simp at this; omega
    exact ⟨hb, fun j hj => by rw [hv]; exact hm j (by omega)⟩
  | cons x r ih =>
    intro l i b v hd hi hb hv hm
    have hlt : i < l.length := by
      have := congrArg List.length hd
      rw [List.length_drop, List.length_cons] at this
      omega
    have hx : gz l i = x := by
      rw [gz_eq hlt]
      rw [List.drop_eq_getElem_cons hlt] at hd
      exact (List.cons.inj hd).1
    have hr : l.drop (i + 1) = r := by
      rw [List.drop_eq_getElem_cons hlt] at hd
      exact (List.cons.inj hd).2
    simp only [ln.at.go]
    by_cases c : x < v
    · rw [decide_eq_true c, cond_true]
      refine ih l (i + 1) i x hr (by omega) hlt hx fun j hj => ?_
      by_cases e : j = i
      · subst e; omega
      · have := hm j (by omega); omega
    · rw [decide_eq_false c, cond_false]
      refine ih l (i + 1) b v hr (by omega) hb hv fun j hj => ?_
      by_cases e : j = i
      · subst e; omega
      · exact hm j (by omega)
def m (fs : List Int) : Int := gz fs (ln.ix.sv fs)
theorem m_le {fs : List Int} (h : 0 < fs.length) : ln.ix.sv fs < fs.length ∧ ∀ x ∈ fs, m fs ≤ x := by
  match fs, h with
  | x :: r, h =>
    obtain ⟨h1, h2⟩ := go_min r (x :: r) 1 0 x rfl (by simp) (by simp) rfl (fun j hj => by
      obtain rfl : j = 0 := by omega
      exact Int.le_refl _)
    refine ⟨h1, fun y hy => ?_⟩
    obtain ⟨j, hj, rfl⟩ := List.mem_iff_getElem.1 hy
    rw [← gz_eq hj]
    exact h2 j hj
theorem beg_eq (fs : List Int) (c : Int) : ln.beg.sv fs c = max (m fs) c := by
  unfold ln.beg.sv m
  split <;> omega
/-- What all numbers are within. -/
def Bd (K : Int) (l : List Int) : Prop := ∀ x ∈ l, 0 ≤ x ∧ x ≤ K
theorem m_mem {fs : List Int} (h : 0 < fs.length) : m fs ∈ fs := by
  obtain ⟨h1, _⟩ := m_le h
  unfold m
  rw [gz_eq h1]
  exact List.getElem_mem h1
theorem nx_eq {fs : List Int} {c t K : Int} (h : 0 < fs.length) (hf : Bd K fs) (hc : 0 ≤ c ∧ c ≤ K) (ht : 0 ≤ t ∧ t ≤ 1000000) (hK : K ≤ 1000000000) : ln.nx.sw fs c t = fs.set (ln.ix.sv fs) (max (m fs) c + t) := by
  have hm := hf _ (m_mem h)
  unfold ln.nx.sw
  rw [beg_eq, IntWalk.i64_in _ (by omega)]
theorem nx_bd {fs : List Int} {c t K : Int} (h : 0 < fs.length) (hf : Bd K fs) (hc : 0 ≤ c ∧ c ≤ K) (ht : 0 ≤ t ∧ t ≤ 1000000) : Bd (K + 1000000) (fs.set (ln.ix.sv fs) (max (m fs) c + t)) := by
  intro x hx
  have hm := hf _ (m_mem h)
  rcases List.mem_or_eq_of_mem_set hx with h1 | h1
  · have := hf x h1; omega
  · omega
/-- Nothing falls behind. -/
theorem lower : ∀ (cs ts fs : List Int) (B K : Int), 0 < fs.length → Bd K fs → Bd K cs → Bd 1000000 ts → K + cs.length * 1000000 ≤ 1000000000 → ((∀ x ∈ fs, B ≤ x) ∨ (∀ c ∈ cs, B ≤ c)) → ∀ x ∈ ln.go fs cs ts, B ≤ x := by
  intro cs
  induction cs with
  | nil => intro ts fs B K _ _ _ _ _ _ x hx; simp [ln.go] at hx
  | cons c cs ih =>
    intro ts fs B K h hf hcs hts hK hB x hx
    match ts with
    | [] => simp [ln.go] at hx
    | t :: ts =>
      have hc := hcs c List.mem_cons_self
      have ht := hts t List.mem_cons_self
      have hm := hf _ (m_mem h)
      rw [List.length_cons] at hK
      push_cast at hK
      simp only [ln.go, List.mem_cons] at hx
      rw [beg_eq, nx_eq h hf hc ht (by omega)] at hx
      rcases hx with rfl | hx
      · rcases hB with hB | hB
        · have := hB _ (m_mem h); omega
        · have := hB c List.mem_cons_self; omega
      · refine ih ts _ B (K + 1000000) (by simpa using h) (nx_bd h hf hc ht) (fun y hy => by have := hcs y (List.mem_cons_of_mem _ hy); omega) (fun y hy => hts y (List.mem_cons_of_mem _ hy)) (by omega) ?_ x hx
        rcases hB with hB | hB
        · left
          intro y hy
          rcases List.mem_or_eq_of_mem_set hy with h1 | h1
          · exact hB y h1
          · have := hB _ (m_mem h); omega
        · right
          exact fun y hy => hB y (List.mem_cons_of_mem _ hy)
/-- Nobody begins before having come, nor before those in front; all stay within bounds. -/
theorem rises : ∀ (cs ts fs : List Int) (K : Int), 0 < fs.length → Bd K fs → Bd K cs → Bd 1000000 ts → cs.length = ts.length → K + cs.length * 1000000 ≤ 1000000000 → cs.Pairwise (· ≤ ·) →
    (ln.go fs cs ts).Pairwise (· ≤ ·) ∧ (∀ i, i < cs.length → gz cs i ≤ gz (ln.go fs cs ts) i) ∧ Bd 1000000000 (ln.go fs cs ts) := by
  intro cs
  induction cs with
  | nil => intro ts fs K _ _ _ _ _ _ _; simp only [ln.go]; exact ⟨List.Pairwise.nil, fun i hi => absurd hi (Nat.not_lt_zero _), fun x hx => by cases hx⟩
  | cons c cs ih =>
    intro ts fs K h hf hcs hts hl hK hp
    match ts, hl with
    | t :: ts, hl =>
      have hc := hcs c List.mem_cons_self
      have ht := hts t List.mem_cons_self
      have hm := hf _ (m_mem h)
      rw [List.length_cons] at hK
      push_cast at hK
      rw [List.pairwise_cons] at hp
      simp only [ln.go]
      rw [beg_eq, nx_eq h hf hc ht (by omega)]
      have hb := nx_bd h hf hc ht
      have hcs' : Bd (K + 1000000) cs := fun y hy => by have := hcs y (List.mem_cons_of_mem _ hy); omega
      have hts' : Bd 1000000 ts := fun y hy => hts y (List.mem_cons_of_mem _ hy)
      obtain ⟨i1, i2, i3⟩ := ih ts (fs.set (ln.ix.sv fs) (max (m fs) c + t)) (K + 1000000) (by simpa using h) hb hcs' hts' (by simpa using hl) (by omega) hp.2
      refine ⟨List.pairwise_cons.2 ⟨fun x hx => ?_, i1⟩, fun i hi => ?_, fun x hx => ?_⟩
      · refine lower cs ts _ (max (m fs) c) (K + 1000000) (by simpa using h) hb hcs' hts' (by omega) ?_ x hx
        by_cases cm : c ≤ m fs
        · left
          intro y hy
          rcases List.mem_or_eq_of_mem_set hy with h1 | h1
          · have := (m_le h).2 y h1; omega
          · omega
        · right
          intro y hy
          have := hp.1 y hy
          omega
      · match i with
        | 0 => show c ≤ max (m fs) c; omega
        | i + 1 => exact i2 i (by simpa using hi)
      · rcases List.mem_cons.1 hx with rfl | hx
        · omega
        · exact i3 x hx
/-! More desks. -/
def le (v : Int) (fs : List Int) : Nat := fs.countP fun x => decide (x ≤ v)
theorem count_set (p : Int → Bool) (fs : List Int) (i : Nat) (h : i < fs.length) (a : Int) : (fs.set i a).countP p + (if p fs[i] then 1 else 0) = fs.countP p + (if p a then 1 else 0) := by
  induction fs generalizing i with
  | nil => simp at h
  | cons x fs ih =>
    cases i with
    | zero =>
      simp only [List.set_cons_zero, List.countP_cons, List.getElem_cons_zero]
      omega
    | succ i =>
      have := ih i (by simpa using h)
      simp only [List.set_cons_succ, List.countP_cons, List.getElem_cons_succ]
      omega
theorem le_zero {fs : List Int} {v : Int} (h : 0 < fs.length) (hv : v < m fs) : le v fs = 0 := by
  unfold le
  rw [List.countP_eq_zero]
  intro x hx
  have := (m_le h).2 x hx
  simp; omega
theorem le_pos {fs : List Int} {v : Int} (h : 0 < fs.length) (hv : m fs ≤ v) : 1 ≤ le v fs := by
  unfold le
  have : 0 < fs.countP fun x => decide (x ≤ v) := List.countP_pos_iff.2 ⟨m fs, m_mem h, by simpa using hv⟩
  omega
/-- At every time at least as many desks are free. -/
def Dom (fs gs : List Int) : Prop := ∀ v, le v fs ≤ le v gs
theorem Dom.min {fs gs : List Int} (hf : 0 < fs.length) (hg : 0 < gs.length) (h : Dom fs gs) : m gs ≤ m fs := by
  apply Int.not_lt.1
  intro hlt
  have a := h (m fs)
  rw [le_zero hg hlt] at a
  have b := le_pos hf (Int.le_refl (m fs))
  omega
theorem le_set {fs : List Int} (h : 0 < fs.length) (a v : Int) : le v (fs.set (ln.ix.sv fs) a) + (if m fs ≤ v then 1 else 0) = le v fs + (if a ≤ v then 1 else 0) := by
  have h1 := (m_le h).1
  have := count_set (fun x => decide (x ≤ v)) fs (ln.ix.sv fs) h1 a
  have e : fs[ln.ix.sv fs] = m fs := by unfold m; rw [gz_eq h1]
  rw [e] at this
  simpa only [le, decide_eq_true_eq] using this
theorem Dom.step {fs gs : List Int} {a b : Int} (hf : 0 < fs.length) (hg : 0 < gs.length) (h : Dom fs gs) (hab : b ≤ a) : Dom (fs.set (ln.ix.sv fs) a) (gs.set (ln.ix.sv gs) b) := by
  intro v
  have e1 := le_set hf a v
  have e2 := le_set hg b v
  have hm := h.min hf hg
  have hv := h v
  by_cases c1 : m fs ≤ v
  · rw [if_pos c1] at e1
    rw [if_pos (by omega)] at e2
    split at e1 <;> split at e2 <;> omega
  · rw [if_neg c1] at e1
    have z := le_zero hf (v := v) (by omega)
    by_cases c2 : m gs ≤ v
    · have p := le_pos hg c2
      rw [if_pos c2] at e2
      split at e1 <;> split at e2 <;> omega
    · rw [if_neg c2] at e2
      split at e1 <;> split at e2 <;> omega
theorem faster : ∀ (cs ts fs gs : List Int) (K : Int), 0 < fs.length → 0 < gs.length → Bd K fs → Bd K gs → Bd K cs → Bd 1000000 ts → K + cs.length * 1000000 ≤ 1000000000 → Dom fs gs →
    ∀ i, gz (ln.go gs cs ts) i ≤ gz (ln.go fs cs ts) i := by
  intro cs
  induction cs with
  | nil => intro ts fs gs K _ _ _ _ _ _ _ _ i; simp [ln.go]
  | cons c cs ih =>
    intro ts fs gs K hf hg bf bg hcs hts hK hD i
    match ts with
    | [] => simp [ln.go]
    | t :: ts =>
      have hc := hcs c List.mem_cons_self
      have ht := hts t List.mem_cons_self
      have hm := hD.min hf hg
      rw [List.length_cons] at hK
      push_cast at hK
      simp only [ln.go]
      rw [beg_eq, beg_eq, nx_eq hf bf hc ht (by omega), nx_eq hg bg hc ht (by omega)]
      match i with
      | 0 => show max (m gs) c ≤ max (m fs) c; omega
      | i + 1 =>
        exact ih ts _ _ (K + 1000000) (by simpa using hf) (by simpa using hg) (nx_bd hf bf hc ht) (nx_bd hg bg hc ht) (fun y hy => by have := hcs y (List.mem_cons_of_mem _ hy); omega) (fun y hy => hts y (List.mem_cons_of_mem _ hy)) (by omega) (hD.step hf hg (by omega)) i
/-! Busy desks. -/
def gt (v : Int) (fs : List Int) : Nat := fs.countP fun x => decide (v < x)
def Hist (fs hist : List Int) : Prop := ∀ v, m fs ≤ v → gt v hist ≤ gt v fs
theorem gt_lt {fs : List Int} {v : Int} (h : 0 < fs.length) (hv : m fs ≤ v) : gt v fs < fs.length := by
  unfold gt
  refine Nat.lt_of_le_of_ne List.countP_le_length fun e => ?_
  have := List.countP_eq_length.1 e (m fs) (m_mem h)
  simp at this; omega
theorem gt_set {fs : List Int} (h : 0 < fs.length) (a v : Int) : gt v (fs.set (ln.ix.sv fs) a) + (if v < m fs then 1 else 0) = gt v fs + (if v < a then 1 else 0) := by
  have h1 := (m_le h).1
  have := count_set (fun x => decide (v < x)) fs (ln.ix.sv fs) h1 a
  have e : fs[ln.ix.sv fs] = m fs := by unfold m; rw [gz_eq h1]
  rw [e] at this
  simpa only [gt, decide_eq_true_eq] using this
theorem Hist.step {fs hist : List Int} {a : Int} (h : 0 < fs.length) (hh : Hist fs hist) (ha : m fs ≤ a) : Hist (fs.set (ln.ix.sv fs) a) (hist ++ [a]) := by
  intro v hv
  have h' : 0 < (fs.set (ln.ix.sv fs) a).length := by simpa using h
  have hmv : m fs ≤ v := by
    have hmem := m_mem h'
    rcases List.mem_or_eq_of_mem_set hmem with h1 | h1
    · have := (m_le h).2 _ h1; omega
    · omega
  have e := gt_set h a v
  rw [if_neg (by omega)] at e
  have := hh v hmv
  have e2 : gt v (hist ++ [a]) = gt v hist + (if v < a then 1 else 0) := by
    unfold gt
    rw [List.countP_append]
    simp [List.countP_cons]
  rw [e2]
  omega
theorem busy : ∀ (cs ts fs hist : List Int) (K : Int), 0 < fs.length → Bd K fs → Bd K cs → Bd 1000000 ts → cs.length = ts.length → K + cs.length * 1000000 ≤ 1000000000 → Hist fs hist →
    ∀ i, i < cs.length → gt (gz (ln.go fs cs ts) i) (hist ++ (List.zipWith (· + ·) (ln.go fs cs ts) ts).take i) < fs.length := by
  intro cs
  induction cs with
  | nil => intro ts fs hist K _ _ _ _ _ _ _ i hi; simp at hi
  | cons c cs ih =>
    intro ts fs hist K h hf hcs hts hl hK hh i hi
    match ts, hl with
    | t :: ts, hl =>
      have hc := hcs c List.mem_cons_self
      have ht := hts t List.mem_cons_self
      have hm := hf _ (m_mem h)
      rw [List.length_cons] at hK
      push_cast at hK
      simp only [ln.go]
      rw [beg_eq, nx_eq h hf hc ht (by omega)]
      match i with
      | 0 =>
        simp only [List.take_zero, List.append_nil]
        show gt (max (m fs) c) hist < fs.length
        have a := hh (max (m fs) c) (by omega)
        have b := gt_lt h (v := max (m fs) c) (by omega)
        omega
      | i + 1 =>
        have := ih ts (fs.set (ln.ix.sv fs) (max (m fs) c + t)) (hist ++ [max (m fs) c + t]) (K + 1000000) (by simpa using h) (nx_bd h hf hc ht) (fun y hy => by have := hcs y (List.mem_cons_of_mem _ hy); omega) (fun y hy => hts y (List.mem_cons_of_mem _ hy)) (by simpa using hl) (by omega) (hh.step h (by omega)) i (by simpa using hi)
        rw [List.length_set] at this
        rw [List.append_assoc] at this
        simpa [gz] using this
/-! The shortest first. -/
/-- What all wait for, one after another. -/
def w : List Int → Int
  | [] => 0
  | x :: r => x * r.length + w r
def pm : List Int → Int
  | [] => 0
  | x :: r => (r.map fun y => min x y).sum + pm r
theorem sum_perm {l l' : List Int} (h : l.Perm l') : l.sum = l'.sum := by
  induction h with
  | nil => rfl
  | cons x h ih => simp only [List.sum_cons, ih]
  | swap x y l => simp only [List.sum_cons]; omega
  | trans _ _ h1 h2 => exact h1.trans h2
theorem pm_perm {l l' : List Int} (h : l.Perm l') : pm l = pm l' := by
  induction h with
  | nil => rfl
  | cons x h ih =>
    simp only [pm]
    rw [ih, sum_perm (h.map fun y => min x y)]
  | swap x y l =>
    simp only [pm, List.map_cons, List.sum_cons]
    have : min x y = min y x := by omega
    omega
  | trans _ _ h1 h2 => exact h1.trans h2
theorem sum_le (x : Int) (r : List Int) : (r.map fun y => min x y).sum ≤ x * r.length := by
  induction r with
  | nil => simp
  | cons y r ih =>
    simp only [List.map_cons, List.sum_cons, List.length_cons]
    push_cast
    rw [Int.mul_add, Int.mul_one]
    omega
theorem pm_le (l : List Int) : pm l ≤ w l := by
  induction l with
  | nil => exact Int.le_refl _
  | cons x r ih =>
    simp only [pm, w]
    have := sum_le x r
    omega
theorem sum_eq {x : Int} {r : List Int} (h : ∀ y ∈ r, x ≤ y) : (r.map fun y => min x y).sum = x * r.length := by
  induction r with
  | nil => simp
  | cons y r ih =>
    simp only [List.map_cons, List.sum_cons, List.length_cons]
    rw [ih fun z hz => h z (List.mem_cons_of_mem _ hz)]
    have := h y List.mem_cons_self
    push_cast
    rw [Int.mul_add, Int.mul_one]
    omega
theorem pm_sorted {l : List Int} (h : l.Pairwise (· ≤ ·)) : pm l = w l := by
  induction l with
  | nil => rfl
  | cons x r ih =>
    rw [List.pairwise_cons] at h
    simp only [pm, w]
    rw [sum_eq h.1, ih h.2]
/-- In order they wait least. -/
theorem least {l l' : List Int} (hp : l.Perm l') (h : l.Pairwise (· ≤ ·)) : w l ≤ w l' := by
  rw [← pm_sorted h, pm_perm hp]
  exact pm_le l'
/-- The sum as the loops make it. -/
def acc : List Int → Int → Int → Int
  | [], s, _ => s
  | x :: r, s, a => acc r (IntKind.i64.wrap (s + a)) (IntKind.i64.wrap (a + x))
theorem acc_eq : ∀ (l : List Int) (s a : Int), Bd 1000000 l → 0 ≤ a → 0 ≤ s → a + (l.length : Int) * 1000000 ≤ 1000000000 → s + (l.length : Int) * 1000000000 ≤ 1000000000000 →
    acc l s a = s + a * l.length + w l := by
  intro l
  induction l with
  | nil => intro s a _ _ _ _ _; simp [acc, w]
  | cons x r ih =>
    intro s a hb h1 h2 h8 h9
    have hx := hb x List.mem_cons_self
    have hn : (0 : Int) ≤ (r.length : Int) := Int.natCast_nonneg _
    simp only [List.length_cons] at h8 h9 ⊢
    push_cast at h8 h9 ⊢
    simp only [acc, w]
    rw [IntWalk.i64_in (s + a) (by omega), IntWalk.i64_in (a + x) (by omega), ih (s + a) (a + x) (fun y hy => hb y (List.mem_cons_of_mem _ hy)) (by omega) (by omega) (by omega) (by omega)]
    rw [Int.add_mul, Int.mul_add, Int.mul_one]
    omega
end lw

end Go.Proofs.Ytadpndpbooofiaa.Ab
