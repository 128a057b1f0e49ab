/-
  Two sorted halves are merged in place: the plain law of its three cases.
-/
import Derived.Test.YtadpndpbooofiaaFnTA
namespace Go.Proofs.Ytadpndpbooofiaa.Ab
open Go
set_option linter.unusedVariables false
set_option linter.unusedSimpArgs false

namespace ss
/-- The number at k goes d places up. -/
def mv.sv : Nat → Nat → List Int → List Int
  | 0, _, l => l
  | d + 1, k, l => mv.sv d (k + 1) ((l.set k (gz l (k + 1))).set (k + 1) (gz l k))
theorem mv_app (x : Int) (S : List Int) : ∀ (R P : List Int) (k : Nat), k = P.length → mv.sv R.length k (P ++ x :: (R ++ S)) = P ++ (R ++ x :: S) := by
  intro R
  induction R with
  | nil => intro P k _; rfl
  | cons y R ih =>
    intro P k hk
    have e1 : P ++ x :: (y :: R ++ S) = (P ++ [x]) ++ y :: (R ++ S) := by simp
    have k2 : k + 1 = (P ++ [x]).length := by simp [hk]
    have g1 : gz (P ++ x :: (y :: R ++ S)) k = x := gz_mid _ _ _ hk
    have g2 : gz (P ++ x :: (y :: R ++ S)) (k + 1) = y := by rw [e1]; exact gz_mid _ _ _ k2
    have s1 : (P ++ x :: (y :: R ++ S)).set k y = (P ++ [y]) ++ y :: (R ++ S) := by rw [set_mid _ _ _ _ hk]; simp
    have s2 : ((P ++ [y]) ++ y :: (R ++ S)).set (k + 1) x = (P ++ [y]) ++ x :: (R ++ S) := set_mid _ _ _ _ (by simp [hk])
    rw [List.length_cons]
    simp only [mv.sv]
    rw [g1, g2, s1, s2, ih (P ++ [y]) (k + 1) (by simp [hk])]
    simp
/-- The number at i + d goes down to i. -/
def mvd.sv (i : Nat) : Nat → List Int → List Int
  | 0, l => l
  | d + 1, l => mvd.sv i d ((l.set (i + d + 1) (gz l (i + d))).set (i + d) (gz l (i + d + 1)))
theorem mvd_app (P : List Int) (y : Int) : ∀ (d : Nat) (L S : List Int), L.length = d → mvd.sv P.length d (P ++ (L ++ y :: S)) = P ++ (y :: (L ++ S)) := by
  intro d
  induction d with
  | zero =>
    intro L S hd
    obtain rfl : L = [] := List.eq_nil_of_length_eq_zero hd
    rfl
  | succ d ih =>
    intro L S hd
    obtain ⟨M, x, hM⟩ : ∃ M x, L = M ++ [x] := ⟨L.dropLast, L.getLast (by intro h; simp [h] at hd), (List.dropLast_concat_getLast _).symm⟩
    subst hM
    have hl : M.length = d := by simpa using hd
    have e1 : P ++ ((M ++ [x]) ++ y :: S) = (P ++ M) ++ x :: (y :: S) := by simp
    have e2 : P ++ ((M ++ [x]) ++ y :: S) = (P ++ (M ++ [x])) ++ y :: S := by simp
    have k1 : P.length + d = (P ++ M).length := by simp [hl]
    have k2 : P.length + d + 1 = (P ++ (M ++ [x])).length := by simp [hl]; omega
    have g1 : gz (P ++ ((M ++ [x]) ++ y :: S)) (P.length + d) = x := by rw [e1]; exact gz_mid _ _ _ k1
    have g2 : gz (P ++ ((M ++ [x]) ++ y :: S)) (P.length + d + 1) = y := by rw [e2]; exact gz_mid _ _ _ k2
    have s1 : (P ++ ((M ++ [x]) ++ y :: S)).set (P.length + d + 1) x = (P ++ M) ++ x :: (x :: S) := by
      rw [e2, set_mid _ _ _ _ k2]; simp
    have s2 : ((P ++ M) ++ x :: (x :: S)).set (P.length + d) y = P ++ (M ++ y :: (x :: S)) := by
      rw [set_mid _ _ _ _ k1]; simp
    simp only [mvd.sv, g1, g2, s1, s2]
    rw [ih M (x :: S) hl]
    simp
theorem gz_off (P l : List Int) (a i : Nat) (ha : P.length = a) : gz (P ++ l) (a + i) = gz l i := by
  subst ha
  unfold gz
  rw [List.getD_eq_getElem?_getD, List.getD_eq_getElem?_getD, List.getElem?_append_right (by omega)]
  congr 2
  omega
theorem gz_left (l r : List Int) (i : Nat) (h : i < l.length) : gz (l ++ r) i = gz l i := by
  unfold gz
  rw [List.getD_eq_getElem?_getD, List.getD_eq_getElem?_getD, List.getElem?_append_left h]
theorem mem_take_gz {l : List Int} {e : Nat} {x : Int} (h : x ∈ l.take e) : ∃ i, i < e ∧ i < l.length ∧ gz l i = x := by
  obtain ⟨i, hi, rfl⟩ := List.mem_iff_getElem.1 h
  rw [List.length_take] at hi
  refine ⟨i, by omega, by omega, ?_⟩
  rw [List.getElem_take, gz_eq (by omega)]
theorem mem_drop_gz {l : List Int} {e : Nat} {x : Int} (h : x ∈ l.drop e) : ∃ i, e ≤ i ∧ i < l.length ∧ gz l i = x := by
  obtain ⟨i, hi, rfl⟩ := List.mem_iff_getElem.1 h
  rw [List.length_drop] at hi
  refine ⟨e + i, by omega, by omega, ?_⟩
  rw [List.getElem_drop, gz_eq (by omega)]
theorem Sorted.key {ts l : List Int} (h : Sorted ts l) {i j : Nat} (hj : j < l.length) (hij : i ≤ j) : gz ts (gz l i).toNat ≤ gz ts (gz l j).toNat := by
  have hi : i < l.length := by omega
  rw [gz_eq hj, gz_eq hi]
  exact h.lt_mono hi hj hij
/-- One on the left. -/
theorem case_left {ts P R S : List Int} {x : Int} {a q b d : Nat} (ha : P.length = a) (hq : q = a + 1) (hb : q + R.length = b) (hR : Sorted ts R) (hc : Cross ts [x] R) (hd : b - q ≤ d) :
    let os := P ++ ([x] ++ (R ++ S))
    let r := bs.sv (fun h => lt.sp ts (gz os h) (gz os a)) d q b
    q ≤ r ∧ r ≤ b ∧ mv.sv (r - 1 - a) a os = P ++ (ms.sv ts ([x] ++ R) ++ S) := by
  intro os r
  have ga : gz os a = x := gz_mid P x _ ha.symm
  have gh : ∀ i, i < R.length → gz os (q + i) = gz R i := fun i hi => by
    have e : os = (P ++ [x]) ++ (R ++ S) := by simp [os]
    rw [e, gz_off _ _ q i (by simp [ha, hq]), gz_left _ _ _ hi]
  obtain ⟨a1, a2, a3, a4⟩ := bs_spec (fun h => lt.sp ts (gz os h) (gz os a)) d q b (by omega) hd (fun h k h1 h2 h3 hp => by
    have e1 := gh (h - q) (by omega)
    have e2 := gh (k - q) (by omega)
    rw [show q + (h - q) = h from by omega] at e1
    rw [show q + (k - q) = k from by omega] at e2
    have := hR.key (i := h - q) (j := k - q) (by omega) (by omega)
    simp only [e1, e2, ga, lt.sp, decide_eq_true_eq] at hp ⊢
    omega)
  have h1 : ∀ y ∈ R.take (r - q), lt.sp ts y x = true := fun y hy => by
    obtain ⟨i, i1, i2, rfl⟩ := mem_take_gz hy
    have := a3 (q + i) (by omega) (by omega)
    rwa [gh i i2, ga] at this
  have h2 : ∀ y ∈ R.drop (r - q), lt.sp ts y x = false := fun y hy => by
    obtain ⟨i, i1, i2, rfl⟩ := mem_drop_gz hy
    have := a4 (q + i) (by omega) (by omega)
    rwa [gh i i2, ga] at this
  refine ⟨a1, a2, ?_⟩
  have eR : R.take (r - q) ++ R.drop (r - q) = R := List.take_append_drop _ _
  have ho := one_left (ts := ts) (x := x) (r1 := R.take (r - q)) (r2 := R.drop (r - q)) (by rw [eR]; exact hR) (by rw [eR]; exact hc) h1 h2
  rw [eR] at ho
  have hm := mv_app x (R.drop (r - q) ++ S) (R.take (r - q)) P a ha.symm
  rw [← List.append_assoc (R.take (r - q)), eR, List.length_take] at hm
  have e : min (r - q) R.length = r - 1 - a := by omega
  rw [e] at hm
  show mv.sv (r - 1 - a) a (P ++ x :: (R ++ S)) = P ++ (ms.sv ts (x :: R) ++ S)
  rw [hm, ho]
  simp
/-- One on the right. -/
theorem case_right {ts P L S : List Int} {y : Int} {a q d : Nat} (ha : P.length = a) (hq : a + L.length = q) (hL : Sorted ts L) (hc : Cross ts L [y]) (hd : q - a ≤ d) :
    let os := P ++ (L ++ ([y] ++ S))
    let r := bs.sv (fun h => !lt.sp ts (gz os q) (gz os h)) d a q
    a ≤ r ∧ r ≤ q ∧ mvd.sv r (q - r) os = P ++ (ms.sv ts (L ++ [y]) ++ S) := by
  intro os r
  have gq : gz os q = y := by
    have e : os = (P ++ L) ++ y :: S := by simp [os]
    rw [e]
    exact gz_mid _ _ _ (by simp [ha, hq])
  have gh : ∀ i, i < L.length → gz os (a + i) = gz L i := fun i hi => by
    rw [gz_off _ _ a i ha, gz_left _ _ _ hi]
  obtain ⟨a1, a2, a3, a4⟩ := bs_spec (fun h => !lt.sp ts (gz os q) (gz os h)) d a q (by omega) hd (fun h k h1 h2 h3 hp => by
    have e1 := gh (h - a) (by omega)
    have e2 := gh (k - a) (by omega)
    rw [show a + (h - a) = h from by omega] at e1
    rw [show a + (k - a) = k from by omega] at e2
    have := hL.key (i := h - a) (j := k - a) (by omega) (by omega)
    simp only [e1, e2, gq, lt.sp, Bool.not_eq_true', decide_eq_false_iff_not] at hp ⊢
    omega)
  have h1 : ∀ x ∈ L.take (r - a), lt.sp ts y x = false := fun x hx => by
    obtain ⟨i, i1, i2, rfl⟩ := mem_take_gz hx
    have := a3 (a + i) (by omega) (by omega)
    simpa only [gh i i2, gq, Bool.not_eq_true'] using this
  have h2 : ∀ x ∈ L.drop (r - a), lt.sp ts y x = true := fun x hx => by
    obtain ⟨i, i1, i2, rfl⟩ := mem_drop_gz hx
    have := a4 (a + i) (by omega) (by omega)
    simpa only [gh i i2, gq, Bool.not_eq_false'] using this
  refine ⟨a1, a2, ?_⟩
  have eL : L.take (r - a) ++ L.drop (r - a) = L := List.take_append_drop _ _
  have ho := one_right (ts := ts) (y := y) (l1 := L.take (r - a)) (l2 := L.drop (r - a)) (by rw [eL]; exact hL) (by rw [eL]; exact hc) h1 h2
  rw [eL] at ho
  have lp : (P ++ L.take (r - a)).length = r := by rw [List.length_append, List.length_take]; omega
  have hm := mvd_app (P ++ L.take (r - a)) y (q - r) (L.drop (r - a)) S (by rw [List.length_drop]; omega)
  rw [lp] at hm
  have eo : os = (P ++ L.take (r - a)) ++ (L.drop (r - a) ++ y :: S) := by
    show P ++ (L ++ ([y] ++ S)) = _
    conv => lhs; rw [← eL]
    simp only [List.append_assoc, List.cons_append, List.nil_append]
  rw [eo, hm, ho]
  simp
/-- The symmetric search: where it ends, both halves are split. -/
theorem case_both {ts P l r S : List Int} {a q b mid lo hi d : Nat} (ha : P.length = a) (hq : a + l.length = q) (hb : q + r.length = b) (hl : Sorted ts l) (hr : Sorted ts r) (hc : Cross ts l r)
    (h2l : 2 ≤ l.length) (h2r : 2 ≤ r.length) (hmid : mid = (a + b) / 2) (hlh : (mid < q ∧ lo = mid + q - b ∧ hi = mid) ∨ (¬ mid < q ∧ lo = a ∧ hi = q)) (hd : hi - lo ≤ d) :
    let os := P ++ (l ++ (r ++ S))
    let s := bs.sv (fun c => !lt.sp ts (gz os (mid + q - 1 - c)) (gz os c)) d lo hi
    a ≤ s ∧ s ≤ q ∧ s ≤ mid ∧ mid + q - s ≤ b ∧ ms.sv ts (l ++ r) = ms.sv ts (l.take (s - a) ++ r.take (mid - s)) ++ ms.sv ts (l.drop (s - a) ++ r.drop (mid - s)) := by
  intro os s
  have gl : ∀ i, i < l.length → gz os (a + i) = gz l i := fun i hi => by
    rw [gz_off _ _ a i ha, gz_left _ _ _ hi]
  have gr : ∀ i, i < r.length → gz os (q + i) = gz r i := fun i hi => by
    have e : os = (P ++ l) ++ (r ++ S) := by simp [os]
    rw [e, gz_off _ _ q i (by simp [ha, hq]), gz_left _ _ _ hi]
  have hp : ∀ c, lo ≤ c → c < hi → (!lt.sp ts (gz os (mid + q - 1 - c)) (gz os c)) = ask ts l r (mid - 1 - a) (c - a) := fun c c1 c2 => by
    have e1 := gl (c - a) (by omega)
    have e2 := gr (mid - 1 - c) (by omega)
    rw [show a + (c - a) = c from by omega] at e1
    rw [show q + (mid - 1 - c) = mid + q - 1 - c from by omega] at e2
    rw [e1, e2]
    unfold ask
    rw [show mid - 1 - a - (c - a) = mid - 1 - c from by omega]
  obtain ⟨a1, a2, a3, a4⟩ := bs_spec (fun c => !lt.sp ts (gz os (mid + q - 1 - c)) (gz os c)) d lo hi (by omega) hd (fun h k h1 h2 h3 hk => by
    simp only [hp k (by omega) h3] at hk
    simp only [hp h h1 (by omega)]
    exact ask_mono hl hr _ (by omega) (by omega) (by omega) hk)
  have s1 : lo ≤ s := a1
  have s2 : s ≤ hi := a2
  refine ⟨by omega, by omega, by omega, by omega, ?_⟩
  refine split_at hl hr hc (c := s - a) (e := mid - s) (fun x1 x2 x3 => ?_) (fun x1 x2 x3 => ?_) (by omega) (by omega)
  · have := a3 (s - 1) (by omega) (by omega)
    simp only [hp (s - 1) (by omega) (by omega)] at this
    unfold ask at this
    rw [show mid - 1 - a - (s - 1 - a) = mid - s from by omega, show s - 1 - a = s - a - 1 from by omega] at this
    rw [gz_eq x3, gz_eq (by omega)] at this
    simpa using this
  · have := a4 s (Nat.le_refl _) (by omega)
    simp only [hp s (by omega) (by omega)] at this
    unfold ask at this
    rw [show mid - 1 - a - (s - a) = mid - s - 1 from by omega] at this
    rw [gz_eq (by omega), gz_eq x3] at this
    simpa using this
theorem okM_app {ts : List Int} {k a q b : Nat} {P l r S : List Int} (ha : P.length = a) (hq : a + l.length = q) (hb : q + r.length = b) (hin : inr k (P ++ (l ++ (r ++ S)))) (hl : Sorted ts l) (hr : Sorted ts r) (hc : Cross ts l r) : okM.sp ts k a q b (P ++ (l ++ (r ++ S))) = true := by
  have e1 : seg.sv a q (P ++ (l ++ (r ++ S))) = l := seg_app ha hq
  have e2 : seg.sv q b (P ++ (l ++ (r ++ S))) = r := by
    have e : P ++ (l ++ (r ++ S)) = (P ++ l) ++ (r ++ S) := by simp
    rw [e]
    exact seg_app (by simp [ha, hq]) hb
  unfold okM.sp
  rw [e1, e2]
  simp only [hin, hl, hr, hc, decide_true, Bool.and_self]
theorem okM_open {ts : List Int} {k a q b : Nat} {P l r S : List Int} (ha : P.length = a) (hq : a + l.length = q) (hb : q + r.length = b) (h : okM.sp ts k a q b (P ++ (l ++ (r ++ S))) = true) : inr k (P ++ (l ++ (r ++ S))) ∧ Sorted ts l ∧ Sorted ts r ∧ Cross ts l r := by
  have e1 : seg.sv a q (P ++ (l ++ (r ++ S))) = l := seg_app ha hq
  have e2 : seg.sv q b (P ++ (l ++ (r ++ S))) = r := by
    have e : P ++ (l ++ (r ++ S)) = (P ++ l) ++ (r ++ S) := by simp
    rw [e]
    exact seg_app (by simp [ha, hq]) hb
  unfold okM.sp at h
  rw [e1, e2] at h
  simpa only [Bool.and_eq_true, decide_eq_true_eq] using h
theorem Sorted.take {ts l : List Int} (h : Sorted ts l) (n : Nat) : Sorted ts (l.take n) := List.Pairwise.sublist (List.take_sublist n l) h
theorem Sorted.drop {ts l : List Int} (h : Sorted ts l) (n : Nat) : Sorted ts (l.drop n) := List.Pairwise.sublist (List.drop_sublist n l) h
/-- What is left to do behind the search: a rotation and two merges, each if there is need. -/
theorem rest {ts P l r S : List Int} {k a q b mid s : Nat} (ha : P.length = a) (hq : a + l.length = q) (hb : q + r.length = b) (hl : Sorted ts l) (hr : Sorted ts r) (hc : Cross ts l r) (hin : inr k (P ++ (l ++ (r ++ S))))
    (hs1 : a ≤ s) (hs2 : s ≤ q) (hs3 : s ≤ mid) (hs4 : mid + q - s ≤ b) (hsp : ms.sv ts (l ++ r) = ms.sv ts (l.take (s - a) ++ r.take (mid - s)) ++ ms.sv ts (l.drop (s - a) ++ r.drop (mid - s))) :
    ∃ O1 O2, O1.length = (P ++ (l ++ (r ++ S))).length ∧ O2.length = (P ++ (l ++ (r ++ S))).length ∧
      (s < q → q < mid + q - s → rot.sv (mid + q - s - s) (q - s) (mid + q - s - q) q (P ++ (l ++ (r ++ S))) = O1) ∧ (¬ (s < q ∧ q < mid + q - s) → P ++ (l ++ (r ++ S)) = O1) ∧
      (a < s → s < mid → okM.sp ts k a s mid O1 = true ∧ out.sv ts a mid O1 = O2) ∧ (¬ (a < s ∧ s < mid) → O1 = O2) ∧
      (mid < mid + q - s → mid + q - s < b → okM.sp ts k mid (mid + q - s) b O2 = true ∧ out.sv ts mid b O2 = P ++ (ms.sv ts (l ++ r) ++ S)) ∧ (¬ (mid < mid + q - s ∧ mid + q - s < b) → O2 = P ++ (ms.sv ts (l ++ r) ++ S)) := by
  have el : l.take (s - a) ++ l.drop (s - a) = l := List.take_append_drop _ _
  have er : r.take (mid - s) ++ r.drop (mid - s) = r := List.take_append_drop _ _
  have l1 : (l.take (s - a)).length = s - a := by rw [List.length_take]; omega
  have l2 : (l.drop (s - a)).length = q - s := by rw [List.length_drop]; omega
  have r1 : (r.take (mid - s)).length = mid - s := by rw [List.length_take]; omega
  have r2 : (r.drop (mid - s)).length = b - (mid + q - s) := by rw [List.length_drop]; omega
  have sl1 := hl.take (s - a)
  have sl2 := hl.drop (s - a)
  have sr1 := hr.take (mid - s)
  have sr2 := hr.drop (mid - s)
  have c1 : Cross ts (l.take (s - a)) (r.take (mid - s)) := fun x hx y hy => hc x (List.mem_of_mem_take hx) y (List.mem_of_mem_take hy)
  have c2 : Cross ts (l.drop (s - a)) (r.drop (mid - s)) := fun x hx y hy => hc x (List.mem_of_mem_drop hx) y (List.mem_of_mem_drop hy)
  have eo : P ++ (l ++ (r ++ S)) = P ++ (l.take (s - a) ++ (l.drop (s - a) ++ (r.take (mid - s) ++ (r.drop (mid - s) ++ S)))) := by
    rw [← List.append_assoc (r.take (mid - s)), er, ← List.append_assoc (l.take (s - a)), el]
  rw [hsp]
  rw [eo] at hin ⊢
  generalize l.take (s - a) = A at *
  generalize l.drop (s - a) = B at *
  generalize r.take (mid - s) = C at *
  generalize r.drop (mid - s) = D at *
  have hp1 : (P ++ (A ++ (C ++ (B ++ (D ++ S))))).Perm (P ++ (A ++ (B ++ (C ++ (D ++ S))))) := by
    refine List.Perm.append_left P (List.Perm.append_left A ?_)
    rw [← List.append_assoc C B (D ++ S), ← List.append_assoc B C (D ++ S)]
    exact List.Perm.append_right _ List.perm_append_comm
  have hp2 : (P ++ (ms.sv ts (A ++ C) ++ (B ++ (D ++ S)))).Perm (P ++ (A ++ (C ++ (B ++ (D ++ S))))) := by
    refine List.Perm.append_left P ?_
    rw [← List.append_assoc A]
    exact List.Perm.append_right _ (ms_perm _ _)
  have hin1 := inr_perm hin hp1
  have hin2 := inr_perm hin1 hp2
  refine ⟨P ++ (A ++ (C ++ (B ++ (D ++ S)))), P ++ (ms.sv ts (A ++ C) ++ (B ++ (D ++ S))), hp1.length_eq, (hp2.trans hp1).length_eq, fun g1 g2 => ?_, fun g => ?_, fun g1 g2 => ⟨?_, ?_⟩, fun g => ?_, fun g1 g2 => ⟨?_, ?_⟩, fun g => ?_⟩
  · have := rot_app (mid + q - s - s) B C (P ++ A) (D ++ S) (by omega) (by omega) (by omega) q (by rw [List.length_append]; omega)
    rw [l2, r1, List.append_assoc, List.append_assoc] at this
    rw [show mid + q - s - q = mid - s from by omega, this]
  · by_cases c : s < q
    · obtain rfl : C = [] := List.eq_nil_of_length_eq_zero (by omega)
      rfl
    · obtain rfl : B = [] := List.eq_nil_of_length_eq_zero (by omega)
      rfl
  · exact okM_app ha (by omega) (by omega) hin1 sl1 sr1 c1
  · have : P ++ (A ++ (C ++ (B ++ (D ++ S)))) = P ++ ((A ++ C) ++ (B ++ (D ++ S))) := by simp
    rw [this]
    exact out_app ha (by rw [List.length_append]; omega)
  · have : ms.sv ts (A ++ C) = A ++ C := by
      by_cases c : a < s
      · obtain rfl : C = [] := List.eq_nil_of_length_eq_zero (by omega)
        rw [List.append_nil]; exact ms_self sl1
      · obtain rfl : A = [] := List.eq_nil_of_length_eq_zero (by omega)
        rw [List.nil_append]; exact ms_self sr1
    rw [this]
    simp
  · have e : P ++ (ms.sv ts (A ++ C) ++ (B ++ (D ++ S))) = (P ++ ms.sv ts (A ++ C)) ++ (B ++ (D ++ S)) := by simp
    rw [e] at hin2 ⊢
    exact okM_app (by rw [List.length_append, ms_length, List.length_append]; omega) (by omega) (by omega) hin2 sl2 sr2 c2
  · have e : P ++ (ms.sv ts (A ++ C) ++ (B ++ (D ++ S))) = (P ++ ms.sv ts (A ++ C)) ++ ((B ++ D) ++ S) := by simp
    rw [e, out_app (by rw [List.length_append, ms_length, List.length_append]; omega) (by rw [List.length_append]; omega)]
    simp
  · have : ms.sv ts (B ++ D) = B ++ D := by
      by_cases c : mid < mid + q - s
      · obtain rfl : D = [] := List.eq_nil_of_length_eq_zero (by omega)
        rw [List.append_nil]; exact ms_self sl2
      · obtain rfl : B = [] := List.eq_nil_of_length_eq_zero (by omega)
        rw [List.nil_append]; exact ms_self sr2
    rw [this]
    simp
end ss

end Go.Proofs.Ytadpndpbooofiaa.Ab
