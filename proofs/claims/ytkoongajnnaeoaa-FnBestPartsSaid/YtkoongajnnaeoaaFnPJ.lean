/-
  Best parts, plainly: what the law asks of sums, least ones and products; what it asks of the thing that is parted.
-/
import Derived.Test.YtkoongajnnaeoaaFnPH
import Derived.Test.YtkoongajnnaeoaaFnPI
namespace Go.Proofs.Ytkoongajnnaeoaa.Ab
open Go
set_option linter.unusedVariables false
set_option linter.unusedSimpArgs false
set_option maxRecDepth 100000

namespace pf
theorem wsum {xs : List Int} (h : ∀ k, 0 ≤ gz xs k ∧ gz xs k ≤ 8000) (hl : xs.length ≤ 1000) : sumOf.sp xs = sum xs xs.length := by
  have key : ∀ d i, i + d = xs.length → (xs.drop i).foldl (fun s x => IntKind.i64.wrap (s + x)) (sum xs i) = sum xs xs.length := by
    intro d
    induction d with
    | zero =>
      intro i hi
      rw [List.drop_of_length_le (by omega)]
      obtain rfl : i = xs.length := by omega
      rfl
    | succ d ih =>
      intro i hi
      have b := sum_in h i
      have c := h i
      rw [List.drop_eq_getElem_cons (by omega), List.foldl_cons, ← gz_eq (by omega), IntWalk.i64_in _ (by omega)]
      exact ih (i + 1) (by omega)
  have := key xs.length 0 (by omega)
  rw [List.drop_zero] at this
  exact this
theorem low_min {xs : List Int} (h : ∀ k, 0 ≤ gz xs k ∧ gz xs k ≤ 8000) (h0 : 0 < xs.length) : ln.low.sv xs = low xs xs.length := by
  match xs, h0 with
  | x :: r, _ =>
    have key : ∀ d i, i + d = (x :: r).length → 1 ≤ i → ((x :: r).drop i).foldl ln.imin (low (x :: r) i) = low (x :: r) (x :: r).length := by
      intro d
      induction d with
      | zero =>
        intro i hi h1
        rw [List.drop_of_length_le (by omega)]
        rw [show i = (x :: r).length by omega]
        rfl
      | succ d ih =>
        intro i hi h1
        rw [List.drop_eq_getElem_cons (by omega), List.foldl_cons, ← gz_eq (by omega)]
        exact ih (i + 1) (by omega) (by omega)
    have k := key r.length 1 (by simp; omega) (Nat.le_refl _)
    have e : low (x :: r) 1 = x := by
      have := h 0
      show (if gz (x :: r) 0 < 1000000 then gz (x :: r) 0 else 1000000) = x
      rw [if_pos (by omega)]
      rfl
    rw [e] at k
    exact k
theorem pro_zero {xs : List Int} : ∀ n k, k < n → gz xs k = 0 → pro xs n = 0 := by
  intro n
  induction n with
  | zero => intro k hk; omega
  | succ n ih =>
    intro k hk h0
    simp only [pro]
    by_cases e : k = n
    · rw [← e, h0, Int.mul_zero]
    · rw [ih k (by omega) h0, Int.zero_mul]
theorem cap_pro {xs : List Int} (h : ∀ k, 0 ≤ gz xs k ∧ gz xs k ≤ 8000) : ∀ n, n ≤ 3 → cap xs n = pro xs n ∧ pro xs n ≤ 1000000000000 := by
  intro n
  induction n with
  | zero => intro _; exact ⟨rfl, by simp [pro]⟩
  | succ n ih =>
    intro hn
    have a := ih (by omega)
    have b := (pro_in h (n + 1) (by omega)).2
    have c : (8000 : Int) ^ (n + 1) ≤ 1000000000000 := by
      have : n = 0 ∨ n = 1 ∨ n = 2 := by omega
      rcases this with e | e | e <;> subst e <;> decide
    simp only [pro, cap] at b ⊢
    rw [a.1, if_neg (by omega)]
    exact ⟨rfl, by omega⟩
theorem prod_pro {xs : List Int} (h : ∀ k, 0 ≤ gz xs k ∧ gz xs k ≤ 8000) (hl : xs.length ≤ 3) : prod.sv xs xs.length = pro xs xs.length ∧ pro xs xs.length ≤ 1000000000000 := by
  have c := cap_pro h xs.length hl
  refine ⟨?_, c.2⟩
  unfold prod.sv
  rw [List.take_length]
  cases hz : xs.any fun y => 0 == y
  · rw [cond_false, c.1]
  · rw [cond_true]
    obtain ⟨y, hy, e⟩ := List.any_eq_true.1 hz
    obtain ⟨k, hk, rfl⟩ := List.getElem_of_mem hy
    have e' : xs[k] = 0 := by have := beq_iff_eq.1 e; omega
    exact (pro_zero _ k hk (by rw [gz_eq hk]; exact e')).symm
end pf
namespace bp
theorem own_le {ws : List Int} (v : ∀ x ∈ ws, 0 ≤ x ∧ x ≤ 1000) (t : Nat) {os : List Int} (h : os.length ≤ 8) (p : Nat) : ∀ k, 0 ≤ gz (vp.own.sv t ws os p) k ∧ gz (vp.own.sv t ws os p) k ≤ 8000 := pf.small (own_small v t h p)
theorem Ts_eq {ws : List Int} (v : ∀ x ∈ ws, 0 ≤ x ∧ x ≤ 1000) (t : Nat) {os : List Int} (h : os.length ≤ 8) {p : Nat} (hp : p ≤ 6) : pf.sum (vp.own.sv t ws os p) p = Ts t ws p os := by
  have := pf.wsum (own_le v t h p) (by rw [vp.own_length]; omega)
  rw [vp.own_length] at this
  exact this.symm
theorem Tl_eq {ws : List Int} (v : ∀ x ∈ ws, 0 ≤ x ∧ x ≤ 1000) (t : Nat) {os : List Int} (h : os.length ≤ 8) {p : Nat} (hp : 1 ≤ p) : pf.low (vp.own.sv t ws os p) p = Tl t ws p os := by
  have := pf.low_min (own_le v t h p) (by rw [vp.own_length]; omega)
  rw [vp.own_length] at this
  exact this.symm
theorem Tp_eq {ws : List Int} (v : ∀ x ∈ ws, 0 ≤ x ∧ x ≤ 1000) (t : Nat) {os : List Int} (h : os.length ≤ 8) {p : Nat} (hp : p ≤ 3) : pf.pro (vp.own.sv t ws os p) p = Tp t ws p os ∧ Tp t ws p os ≤ 1000000000000 := by
  have := pf.prod_pro (own_le v t h p) (by rw [vp.own_length]; omega)
  rw [vp.own_length] at this
  exact ⟨this.1.symm, by unfold Tp; rw [this.1]; exact this.2⟩
theorem pw_few {p t : Nat} (hp : p ≤ 3) (ht : t ≤ 4) : few.sp p t = true := by
  simp only [few.sp, decide_eq_true_eq, Int.toNat_natCast]
  exact Nat.le_trans (Nat.pow_le_pow_left hp t) (Nat.le_trans (Nat.pow_le_pow_right (by omega) ht) (by decide))
end bp
namespace so
theorem on_two (fs ss : List Int) (k : Nat) : (gz fs k < gz ss k ∧ on fs ss k = 1) ∨ (¬ gz fs k < gz ss k ∧ on fs ss k = 0) := by
  unfold on
  by_cases c : gz fs k < gz ss k
  · exact .inl ⟨c, by rw [decide_eq_true c]; rfl⟩
  · exact .inr ⟨c, by rw [decide_eq_false c]; rfl⟩
theorem hf_ha (fs ss : List Int) (n : Nat) : ∀ k, k ≤ n → hf fs ss k = ha fs (own.sv fs ss n) 0 k := by
  intro k
  induction k with
  | zero => intro _; rfl
  | succ k ih =>
    intro hk
    simp only [hf, ha, ih (by omega), own_get (show k < n by omega), on]
    cases decide (gz fs k < gz ss k) <;> rfl
theorem hs_ha (fs ss : List Int) (n : Nat) : ∀ k, k ≤ n → hs fs ss k = ha ss (own.sv fs ss n) 1 k := by
  intro k
  induction k with
  | zero => intro _; rfl
  | succ k ih =>
    intro hk
    simp only [hs, ha, ih (by omega), own_get (show k < n by omega), on]
    cases decide (gz fs k < gz ss k) <;> rfl
theorem th_mem (os : List Int) (G : Int) : ∀ n (x : Int), x ∈ th os G n ↔ ∃ j : Nat, j < n ∧ x = j ∧ gz os j = G := by
  intro n
  induction n with
  | zero => intro x; simp [th]
  | succ n ih =>
    intro x
    simp only [th]
    cases hc : gz os n == G
    · rw [cond_false, ih]
      have hc' : ¬ gz os n = G := by simpa using hc
      constructor
      · rintro ⟨j, a, b, c⟩; exact ⟨j, by omega, b, c⟩
      · rintro ⟨j, a, b, c⟩
        refine ⟨j, ?_, b, c⟩
        by_cases e : j = n
        · rw [e] at c; exact absurd c hc'
        · omega
    · rw [cond_true, List.mem_append, ih, List.mem_singleton]
      have hc' : gz os n = G := by simpa using hc
      constructor
      · rintro (⟨j, a, b, c⟩ | e)
        · exact ⟨j, by omega, b, c⟩
        · exact ⟨n, by omega, e, hc'⟩
      · rintro ⟨j, a, b, c⟩
        by_cases e : j = n
        · right; rw [b, e]
        · exact .inl ⟨j, by omega, b, c⟩
theorem th_nodup (os : List Int) (G : Int) : ∀ n, (th os G n).Nodup := by
  intro n
  induction n with
  | zero => simp [th]
  | succ n ih =>
    simp only [th]
    cases gz os n == G
    · exact ih
    · rw [cond_true, List.nodup_append]
      refine ⟨ih, by simp, fun a ha b hb => ?_⟩
      rw [List.mem_singleton] at hb
      have := th_in os G n a ha
      omega
theorem sort_perm (ow ot l : List Int) : (sort.sv ow ot l).Perm l := List.perm_iff_count.2 fun x => sort_mem l x
theorem start_inv {G : Int} (hG : G = 0 ∨ G = 1) {ow ot os : List Int} (nt : ∀ k, 0 ≤ gz ot k) {n : Nat} (hl : os.length = n) (h2 : ∀ j, j < n → (gz os j = G ∧ gz ot j ≤ gz ow j) ∨ (gz os j = 1 - G ∧ gz ow j ≤ gz ot j)) (hp : ha ot os (1 - G) n ≤ ha ow os G n) : Inv G ow ot n (sort.sv ow ot (th os G n)) os := by
  have hm := sort_perm ow ot (th os G n)
  have key : ∀ x ∈ sort.sv ow ot (th os G n), ∃ j : Nat, j < n ∧ x = j ∧ gz os j = G := fun x hx => (th_mem os G n x).1 (hm.mem_iff.1 hx)
  refine ⟨hl, fun j hj => ?_, fun x hx => ?_, fun j hj e => ?_, hm.nodup_iff.2 (th_nodup os G n), fun j hj e => ?_, ?_, fun x hx => ?_, hp⟩
  · rcases h2 j hj with a | a
    · exact .inl a.1
    · exact .inr a.1
  · obtain ⟨j, a, rfl, c⟩ := key x hx
    exact ⟨by omega, by omega, by rw [Int.toNat_natCast]; exact c⟩
  · exact hm.mem_iff.2 ((th_mem os G n _).2 ⟨j, hj, rfl, e⟩)
  · rcases h2 j hj with a | a
    · omega
    · exact .inl a.2
  · have s := sort_sorted nt (ow := ow) (th os G n)
    refine List.pairwise_iff_getElem.2 fun i j hi hj hij => ?_
    have := s i j hij (by rw [sort_length] at hj; exact hj)
    rwa [gz_eq hi, gz_eq hj] at this
  · obtain ⟨j, a, rfl, c⟩ := key x hx
    rw [Int.toNat_natCast]
    rcases h2 j a with b | b
    · exact b.2
    · omega
theorem sm_sum {xs : List Int} : ∀ n, sm xs n = pf.sum xs n := by
  intro n
  induction n with
  | zero => rfl
  | succ n ih => simp only [sm, pf.sum, ih]
/-- Sums over those that are one's, times q. -/
def la (fs os : List Int) (q : Int) : Nat → Int
  | 0 => 0
  | k + 1 => la fs os q k + (bif gz os k == 0 then gz fs k * q else 0)
def lb (ss os : List Int) (q : Int) : Nat → Int
  | 0 => 0
  | k + 1 => lb ss os q k + (bif gz os k == 0 then 0 else gz ss k * q)
theorem la_ha (fs os : List Int) (q : Int) : ∀ n, la fs os q n = q * ha fs os 0 n := by
  intro n
  induction n with
  | zero => simp [la, ha]
  | succ n ih =>
    simp only [la, ha, ih, Int.mul_add]
    cases gz os n == 0
    · simp
    · simp only [cond_true]; rw [Int.mul_comm (gz fs n)]
theorem lb_ha (ss os : List Int) (q : Int) : ∀ n, (∀ j, j < n → gz os j = 0 ∨ gz os j = 1) → lb ss os q n = q * ha ss os 1 n := by
  intro n
  induction n with
  | zero => intro _; simp [lb, ha]
  | succ n ih =>
    intro h
    simp only [lb, ha, ih (fun j hj => h j (by omega)), Int.mul_add]
    rcases h n (by omega) with e | e
    · simp [e]
    · simp only [e]
      simp only [show ((1 : Int) == 0) = false from rfl, show ((1 : Int) == 1) = true from rfl, cond_true, cond_false]
      rw [Int.mul_comm (gz ss n)]
theorem la_in {fs os : List Int} {q : Int} (w : ∀ k, 0 ≤ gz fs k ∧ gz fs k ≤ 1000) (hq : 0 ≤ q ∧ q ≤ 5000) : ∀ n, 0 ≤ la fs os q n ∧ la fs os q n ≤ 5000000 * n := by
  intro n
  induction n with
  | zero => simp [la]
  | succ n ih =>
    have x := w n
    have c := Int.mul_nonneg x.1 hq.1
    have d := Int.mul_le_mul x.2 hq.2 hq.1 (by omega)
    simp only [la]
    cases gz os n == 0
    · simp only [cond_false]; omega
    · simp only [cond_true]; omega
theorem lb_in {ss os : List Int} {q : Int} (w : ∀ k, 0 ≤ gz ss k ∧ gz ss k ≤ 1000) (hq : 0 ≤ q ∧ q ≤ 5000) : ∀ n, 0 ≤ lb ss os q n ∧ lb ss os q n ≤ 5000000 * n := by
  intro n
  induction n with
  | zero => simp [lb]
  | succ n ih =>
    have x := w n
    have c := Int.mul_nonneg x.1 hq.1
    have d := Int.mul_le_mul x.2 hq.2 hq.1 (by omega)
    simp only [lb]
    cases gz os n == 0
    · simp only [cond_false]; omega
    · simp only [cond_true]; omega
/-- What the law asks of the parting. -/
structure Law (fs ss : List Int) (n : Nat) (r : List Int × Int × Int × Int) : Prop where
  len : r.1.length = n
  q1 : 1 ≤ r.2.2.2
  qs : r.2.2.2 ≤ 5000
  p0 : 0 ≤ r.2.2.1
  pq : r.2.2.1 ≤ r.2.2.2
  at0 : -1 ≤ r.2.1
  at1 : r.2.1 < (n : Int)
  non : r.2.1 < 0 ↔ r.2.2.1 = 0
  out : r.2.1 < 0 → la fs r.1 r.2.2.2 n = lb ss r.1 r.2.2.2 n ∧ pf.sum fs n * r.2.2.2 ≤ 2 * la fs r.1 r.2.2.2 n
  one : 0 ≤ r.2.1 → gz r.1 r.2.1.toNat = 0 → la fs r.1 r.2.2.2 n - gz fs r.2.1.toNat * r.2.2.1 = lb ss r.1 r.2.2.2 n + gz ss r.2.1.toNat * r.2.2.1 ∧ pf.sum fs n * r.2.2.2 ≤ 2 * (la fs r.1 r.2.2.2 n - gz fs r.2.1.toNat * r.2.2.1)
  two : 0 ≤ r.2.1 → ¬ gz r.1 r.2.1.toNat = 0 → la fs r.1 r.2.2.2 n + gz fs r.2.1.toNat * r.2.2.1 = lb ss r.1 r.2.2.2 n - gz ss r.2.1.toNat * r.2.2.1 ∧ pf.sum fs n * r.2.2.2 ≤ 2 * (la fs r.1 r.2.2.2 n + gz fs r.2.1.toNat * r.2.2.1)
theorem law {fs ss : List Int} {n : Nat} (hf1 : sm.sp fs = true) (hs1 : sm.sp ss = true) (hsum : pf.sum fs n = pf.sum ss n) (hz : 0 < pf.sum fs n) : Law fs ss n (res.sv fs ss n) := by
  have w := small hf1
  have v := small hs1
  have ol := own_length fs ss n
  unfold res.sv
  by_cases c : hf fs ss n < hs fs ss n
  · rw [decide_eq_true c, cond_true]
    have hp := hf_ha fs ss n n (Nat.le_refl _)
    have hq := hs_ha fs ss n n (Nat.le_refl _)
    have I := start_inv (G := 1) (.inr rfl) (ow := ss) (ot := fs) (os := own.sv fs ss n) (fun k => (w k).1) ol (fun j hj => by
      rw [own_get hj]
      rcases on_two fs ss j with a | a
      · exact .inl ⟨a.2, by omega⟩
      · exact .inr ⟨by rw [a.2]; rfl, by omega⟩) (by show ha fs (own.sv fs ss n) (1 - 1) n ≤ _; rw [show (1 : Int) - 1 = 0 from rfl]; omega)
    have g := go_ok (.inr rfl) v w (S := pf.sum ss n) (sm_sum n) (by rw [sm_sum, hsum]) (by omega) _ _ I
    rw [show (1 : Int) - 1 = 0 from rfl, ← hp, ← hq] at g
    have h := g
    unfold fin
    generalize go 1 ss fs (sort.sv ss fs (th (own.sv fs ss n) 1 n)) (own.sv fs ss n) (hs fs ss n) (hf fs ss n) = r at *
    obtain ⟨os, k, p, q⟩ := r
    have two : ∀ j, j < n → gz os j = 0 ∨ gz os j = 1 := fun j hj => (h.two j hj).symm
    have eA := la_ha fs os q n
    have eB := lb_ha ss os q n two
    refine ⟨h.len, h.q1, h.qs, h.p0, h.pq, h.at0, h.at1, h.non, fun hk => ?_, fun hk e => ?_, fun hk e => ?_⟩
    · have x := h.eq
      have y := h.half
      have z := h.non.1 hk
      simp only [show ¬ (0 ≤ k) by have : k < 0 := hk; omega, if_false, Int.mul_zero, show (1 : Int) - 1 = 0 from rfl, Int.add_zero, Int.sub_zero] at x y
      show la fs os q n = lb ss os q n ∧ pf.sum fs n * q ≤ 2 * la fs os q n
      rw [Int.mul_comm (pf.sum fs n), hsum]
      omega
    · have := h.one hk
      simp only at this e
      omega
    · have x := h.eq
      have y := h.half
      simp only [show (0 ≤ k) from hk, if_true, show (1 : Int) - 1 = 0 from rfl] at x y
      show la fs os q n + gz fs k.toNat * p = lb ss os q n - gz ss k.toNat * p ∧ pf.sum fs n * q ≤ 2 * (la fs os q n + gz fs k.toNat * p)
      rw [Int.mul_comm (pf.sum fs n), hsum, Int.mul_comm (gz fs k.toNat), Int.mul_comm (gz ss k.toNat)]
      omega
  · rw [decide_eq_false c, cond_false]
    have hp := hf_ha fs ss n n (Nat.le_refl _)
    have hq := hs_ha fs ss n n (Nat.le_refl _)
    have I := start_inv (G := 0) (.inl rfl) (ow := fs) (ot := ss) (os := own.sv fs ss n) (fun k => (v k).1) ol (fun j hj => by
      rw [own_get hj]
      rcases on_two fs ss j with a | a
      · exact .inr ⟨by rw [a.2]; rfl, by omega⟩
      · exact .inl ⟨a.2, by omega⟩) (by show ha ss (own.sv fs ss n) (1 - 0) n ≤ _; rw [show (1 : Int) - 0 = 1 from rfl]; omega)
    have g := go_ok (.inl rfl) w v (S := pf.sum fs n) (sm_sum n) (by rw [sm_sum, hsum]) hz _ _ I
    rw [show (1 : Int) - 0 = 1 from rfl, ← hp, ← hq] at g
    have h := g
    unfold fin
    generalize go 0 fs ss (sort.sv fs ss (th (own.sv fs ss n) 0 n)) (own.sv fs ss n) (hf fs ss n) (hs fs ss n) = r at *
    obtain ⟨os, k, p, q⟩ := r
    have two : ∀ j, j < n → gz os j = 0 ∨ gz os j = 1 := fun j hj => h.two j hj
    have eA := la_ha fs os q n
    have eB := lb_ha ss os q n two
    refine ⟨h.len, h.q1, h.qs, h.p0, h.pq, h.at0, h.at1, h.non, fun hk => ?_, fun hk e => ?_, fun hk e => ?_⟩
    · have x := h.eq
      have y := h.half
      simp only [show ¬ (0 ≤ k) by have : k < 0 := hk; omega, if_false, Int.mul_zero, show (1 : Int) - 0 = 1 from rfl, Int.add_zero, Int.sub_zero] at x y
      show la fs os q n = lb ss os q n ∧ pf.sum fs n * q ≤ 2 * la fs os q n
      rw [Int.mul_comm (pf.sum fs n)]
      omega
    · have x := h.eq
      have y := h.half
      simp only [show (0 ≤ k) from hk, if_true, show (1 : Int) - 0 = 1 from rfl] at x y
      show la fs os q n - gz fs k.toNat * p = lb ss os q n + gz ss k.toNat * p ∧ pf.sum fs n * q ≤ 2 * (la fs os q n - gz fs k.toNat * p)
      rw [Int.mul_comm (pf.sum fs n), Int.mul_comm (gz fs k.toNat), Int.mul_comm (gz ss k.toNat)]
      omega
    · have := h.one hk
      simp only at this e
      exact absurd this e
end so

end Go.Proofs.Ytkoongajnnaeoaa.Ab
