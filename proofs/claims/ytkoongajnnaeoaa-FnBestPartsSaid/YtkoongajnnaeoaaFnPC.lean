/-
  One thing is parted between two, plainly: both have the same, and half at least.
-/
import Derived.Test.YtkoongajnnaeoaaFnPB
import Derived.Test.YtkoongajnnaeoaaFnPG
namespace Go.Proofs.Ytkoongajnnaeoaa.Ab
open Go
set_option linter.unusedVariables false
set_option linter.unusedSimpArgs false
set_option maxRecDepth 100000

namespace so
/-- Who has which thing at first. -/
def on (fs ss : List Int) (k : Nat) : Int := bif decide (gz fs k < gz ss k) then 1 else 0
def own.sv (fs ss : List Int) (n : Nat) : List Int := (List.range n).map (on fs ss)
/-- What those things are worth that are one's own, of the first ones. -/
def ha (xs os : List Int) (o : Int) : Nat → Int
  | 0 => 0
  | k + 1 => ha xs os o k + (bif gz os k == o then gz xs k else 0)
def hf (fs ss : List Int) : Nat → Int
  | 0 => 0
  | k + 1 => hf fs ss k + (bif decide (gz fs k < gz ss k) then 0 else gz fs k)
def hs (fs ss : List Int) : Nat → Int
  | 0 => 0
  | k + 1 => hs fs ss k + (bif decide (gz fs k < gz ss k) then gz ss k else 0)
def sm (xs : List Int) : Nat → Int
  | 0 => 0
  | k + 1 => sm xs k + gz xs k
def th (os : List Int) (G : Int) : Nat → List Int
  | 0 => []
  | k + 1 => bif gz os k == G then th os G k ++ [(k : Int)] else th os G k
/-- Things go over, the dearest for the other first, until both have the same. -/
def go (G : Int) (ow ot : List Int) : List Int → List Int → Int → Int → List Int × Int × Int × Int
  | [], os, _, _ => (os, -1, 0, 1)
  | k :: r, os, hg, ho => bif hg - ho == 0 then (os, -1, 0, 1) else bif decide (hg - ho < gz ow k.toNat + gz ot k.toNat) then (os, k, rd.p.sv (hg - ho) (gz ow k.toNat + gz ot k.toNat), rd.q.sv (hg - ho) (gz ow k.toNat + gz ot k.toNat)) else go G ow ot r (os.set k.toNat (1 - G)) (hg - gz ow k.toNat) (ho + gz ot k.toNat)
theorem own_length (fs ss : List Int) (n : Nat) : (own.sv fs ss n).length = n := by simp [own.sv]
theorem own_succ (fs ss : List Int) (n : Nat) : own.sv fs ss n ++ [on fs ss n] = own.sv fs ss (n + 1) := by simp [own.sv, List.range_succ]
theorem own_get {fs ss : List Int} {n k : Nat} (h : k < n) : gz (own.sv fs ss n) k = on fs ss k := by rw [gz_eq (by rw [own_length]; exact h)]; simp [own.sv]
theorem ha_set {xs os : List Int} {k : Nat} (hk : k < os.length) (o x : Int) : ∀ n, ha xs (os.set k x) o n = ha xs os o n + (if k < n then (if x = o then gz xs k else 0) - (if gz os k = o then gz xs k else 0) else 0) := by
  intro n
  induction n with
  | zero => simp [ha]
  | succ n ih =>
    simp only [ha, ih, gz_set hk]
    by_cases e : k = n
    · subst e
      rw [if_pos rfl, if_neg (Nat.lt_irrefl _), if_pos (Nat.lt_succ_self _)]
      have e1 : (bif x == o then gz xs k else 0) = if x = o then gz xs k else 0 := by
        by_cases c : x = o
        · simp [c]
        · rw [beqF c]; simp [c]
      have e2 : (bif gz os k == o then gz xs k else 0) = if gz os k = o then gz xs k else 0 := by
        by_cases c : gz os k = o
        · simp [c]
        · rw [beqF c]; simp [c]
      rw [e1, e2]
      omega
    · rw [if_neg e]
      by_cases c : k < n
      · rw [if_pos c, if_pos (show k < n + 1 by omega)]; omega
      · rw [if_neg c, if_neg (show ¬ (k < n + 1) by omega)]; omega
structure Inv (G : Int) (ow ot : List Int) (n : Nat) (rest os : List Int) : Prop where
  len : os.length = n
  two : ∀ j, j < n → gz os j = G ∨ gz os j = 1 - G
  mem : ∀ x ∈ rest, 0 ≤ x ∧ x < (n : Int) ∧ gz os x.toNat = G
  all : ∀ j : Nat, j < n → gz os j = G → (j : Int) ∈ rest
  nd : rest.Nodup
  oth : ∀ j : Nat, j < n → gz os j = 1 - G → gz ow j ≤ gz ot j ∨ ∀ x ∈ rest, Le ow ot (j : Int) x
  srt : rest.Pairwise (Le ow ot)
  les : ∀ x ∈ rest, gz ot x.toNat ≤ gz ow x.toNat
  pos : ha ot os (1 - G) n ≤ ha ow os G n
structure Good (G : Int) (ow ot : List Int) (n : Nat) (S : Int) (r : List Int × Int × Int × Int) : Prop where
  len : r.1.length = n
  two : ∀ j, j < n → gz r.1 j = G ∨ gz r.1 j = 1 - G
  q1 : 1 ≤ r.2.2.2
  p0 : 0 ≤ r.2.2.1
  pq : r.2.2.1 ≤ r.2.2.2
  qs : r.2.2.2 ≤ 5000
  at0 : -1 ≤ r.2.1
  at1 : r.2.1 < (n : Int)
  non : r.2.1 < 0 ↔ r.2.2.1 = 0
  one : 0 ≤ r.2.1 → gz r.1 r.2.1.toNat = G
  eq : r.2.2.2 * ha ow r.1 G n - r.2.2.1 * (if 0 ≤ r.2.1 then gz ow r.2.1.toNat else 0) = r.2.2.2 * ha ot r.1 (1 - G) n + r.2.2.1 * (if 0 ≤ r.2.1 then gz ot r.2.1.toNat else 0)
  half : r.2.2.2 * S ≤ 2 * (r.2.2.2 * ha ow r.1 G n - r.2.2.1 * (if 0 ≤ r.2.1 then gz ow r.2.1.toNat else 0))
theorem fsum {G : Int} (hG : G = 0 ∨ G = 1) {ow ot os : List Int} {u w : Int} : ∀ n, (∀ j, j < n → gz os j = G → u * gz ot j ≤ w * gz ow j) → (∀ j, j < n → gz os j = 1 - G → w * gz ow j ≤ u * gz ot j) → (∀ j, j < n → gz os j = G ∨ gz os j = 1 - G) →
    0 ≤ w * (2 * ha ow os G n - sm ow n) + u * (2 * ha ot os (1 - G) n - sm ot n) := by
  intro n
  induction n with
  | zero => intro _ _ _; simp [ha, sm]
  | succ n ih =>
    intro h1 h2 h3
    have g := ih (fun j hj => h1 j (by omega)) (fun j hj => h2 j (by omega)) (fun j hj => h3 j (by omega))
    simp only [ha, sm]
    rcases h3 n (by omega) with e | e
    · have b1 : (gz os n == G) = true := by simp [e]
      have b2 : (gz os n == 1 - G) = false := by simp only [beq_eq_false_iff_ne, ne_eq]; omega
      have k := h1 n (by omega) e
      rw [b1, b2, cond_true, cond_false]
      have e1 : w * (2 * (ha ow os G n + gz ow n) - (sm ow n + gz ow n)) = w * (2 * ha ow os G n - sm ow n) + w * gz ow n := by rw [← Int.mul_add]; congr 1; omega
      have e2 : u * (2 * (ha ot os (1 - G) n + 0) - (sm ot n + gz ot n)) = u * (2 * ha ot os (1 - G) n - sm ot n) - u * gz ot n := by rw [← Int.mul_sub]; congr 1; omega
      rw [e1, e2]
      omega
    · have b1 : (gz os n == G) = false := by simp only [beq_eq_false_iff_ne, ne_eq]; omega
      have b2 : (gz os n == 1 - G) = true := by simp [e]
      have k := h2 n (by omega) e
      rw [b1, b2, cond_true, cond_false]
      have e1 : w * (2 * (ha ow os G n + 0) - (sm ow n + gz ow n)) = w * (2 * ha ow os G n - sm ow n) - w * gz ow n := by rw [← Int.mul_sub]; congr 1; omega
      have e2 : u * (2 * (ha ot os (1 - G) n + gz ot n) - (sm ot n + gz ot n)) = u * (2 * ha ot os (1 - G) n - sm ot n) + u * gz ot n := by rw [← Int.mul_add]; congr 1; omega
      rw [e1, e2]
      omega
/-- Those who part at some thing have half at least. -/
theorem fair {G : Int} (hG : G = 0 ∨ G = 1) {ow ot : List Int} (no : ∀ k, 0 ≤ gz ow k) (nt : ∀ k, 0 ≤ gz ot k) {n : Nat} {S : Int} (hs1 : sm ow n = S) (hs2 : sm ot n = S) {k : Int} {r os : List Int} (I : Inv G ow ot n (k :: r) os) {p q : Int} (hq : 1 ≤ q)
    (he : q * ha ow os G n - p * gz ow k.toNat = q * ha ot os (1 - G) n + p * gz ot k.toNat) : q * S ≤ 2 * (q * ha ow os G n - p * gz ow k.toNat) := by
  have hk := I.mem k (List.mem_cons_self ..)
  have hle := I.les k (List.mem_cons_self ..)
  have hp := List.pairwise_cons.1 I.srt
  obtain ⟨u, w, h1, h2, h3, h4, h5⟩ : ∃ u w : Int, (∀ j, j < n → gz os j = G → u * gz ot j ≤ w * gz ow j) ∧ (∀ j, j < n → gz os j = 1 - G → w * gz ow j ≤ u * gz ot j) ∧ w * gz ow k.toNat = u * gz ot k.toNat ∧ 0 ≤ u ∧ 0 ≤ w ∧ 0 < u + w := by
    by_cases c : gz ot k.toNat = 0
    · refine ⟨1, 0, fun j hj hG => ?_, fun j hj hG => ?_, ?_, by omega, by omega, by omega⟩
      · have hm := I.all j hj hG
        rw [Int.one_mul, Int.zero_mul]
        rcases List.mem_cons.1 hm with e | e
        · rw [← e, Int.toNat_natCast] at c; omega
        · rcases hp.1 _ e with f | f
          · rw [Int.toNat_natCast] at f; omega
          · exact absurd c f.1
      · rw [Int.one_mul, Int.zero_mul]; exact nt j
      · rw [c]; simp
    · refine ⟨gz ow k.toNat, gz ot k.toNat, fun j hj hG => ?_, fun j hj hG => ?_, Int.mul_comm _ _, no _, nt _, ?_⟩
      · have hm := I.all j hj hG
        rcases List.mem_cons.1 hm with e | e
        · rw [← e, Int.toNat_natCast, Int.mul_comm]; exact Int.le_refl _
        · rcases hp.1 _ e with f | f
          · rw [Int.toNat_natCast] at f
            rw [f, Int.mul_zero]
            exact Int.mul_nonneg (nt _) (no _)
          · rw [Int.toNat_natCast] at f
            rw [Int.mul_comm (gz ot k.toNat)]
            exact f.2
      · rcases I.oth j hj hG with f | f
        · have a1 := Int.mul_le_mul_of_nonneg_left f (nt k.toNat)
          have a2 := Int.mul_le_mul_of_nonneg_right hle (nt j)
          omega
        · rcases f k (List.mem_cons_self ..) with f | f
          · exact absurd f c
          · rw [Int.toNat_natCast] at f
            rw [Int.mul_comm (gz ot k.toNat)]
            exact f.2
      · have := nt k.toNat; have := no k.toNat; omega
  have g := fsum hG n h1 h2 I.two
  rw [hs1, hs2] at g
  have gq := Int.mul_nonneg (show 0 ≤ q by omega) g
  have e1 : q * (w * (2 * ha ow os G n - S) + u * (2 * ha ot os (1 - G) n - S)) = w * (2 * (q * ha ow os G n - p * gz ow k.toNat) - q * S) + u * (2 * (q * ha ot os (1 - G) n + p * gz ot k.toNat) - q * S) := by
    have x1 : w * (2 * (q * ha ow os G n - p * gz ow k.toNat) - q * S) = q * (w * (2 * ha ow os G n - S)) - 2 * p * (w * gz ow k.toNat) := by
      simp only [Int.mul_sub]
      have y1 : w * (2 * (q * ha ow os G n)) = q * (w * (2 * ha ow os G n)) := by ac_rfl
      have y2 : w * (2 * (p * gz ow k.toNat)) = 2 * p * (w * gz ow k.toNat) := by ac_rfl
      have y3 : w * (q * S) = q * (w * S) := by ac_rfl
      rw [y1, y2, y3]
      omega
    have x2 : u * (2 * (q * ha ot os (1 - G) n + p * gz ot k.toNat) - q * S) = q * (u * (2 * ha ot os (1 - G) n - S)) + 2 * p * (u * gz ot k.toNat) := by
      simp only [Int.mul_sub, Int.mul_add]
      have y1 : u * (2 * (q * ha ot os (1 - G) n)) = q * (u * (2 * ha ot os (1 - G) n)) := by ac_rfl
      have y2 : u * (2 * (p * gz ot k.toNat)) = 2 * p * (u * gz ot k.toNat) := by ac_rfl
      have y3 : u * (q * S) = q * (u * S) := by ac_rfl
      rw [y1, y2, y3]
      omega
    rw [x1, x2, h3, Int.mul_add]
    omega
  rw [e1, ← he] at gq
  generalize hD : 2 * (q * ha ow os G n - p * gz ow k.toNat) - q * S = D at gq
  have e2 : w * D + u * D = (w + u) * D := by rw [Int.add_mul]
  rw [e2] at gq
  have : 0 ≤ D := by
    by_cases c : D < 0
    · have := Int.mul_neg_of_pos_of_neg (show 0 < w + u by omega) c
      omega
    · omega
  omega
theorem rd_pos {a b : Int} (ha : 0 < a) (hb : a < b) (hb2 : b ≤ 5000) : 0 < rd.p.sv a b ∧ rd.p.sv a b ≤ rd.q.sv a b ∧ 1 ≤ rd.q.sv a b ∧ rd.q.sv a b ≤ 5000 ∧ rd.p.sv a b * b = rd.q.sv a b * a := by
  have hb0 : b ≠ 0 := by omega
  have hg := rd.gcd_pos (a := a) hb0
  have e : rd.by.sv a b = (Int.gcd a b : Int) := if_neg (by omega)
  have hz : (b == 0) = false := by simpa using hb0
  obtain ⟨a', ha'⟩ := Int.gcd_dvd_left a b
  obtain ⟨b', hb'⟩ := Int.gcd_dvd_right a b
  have key : ∀ g : Int, 0 < g → ∀ a' b' : Int, a = g * a' → b = g * b' → a.tdiv g = a' ∧ b.tdiv g = b' ∧ 0 < a' ∧ a' < b' ∧ b' ≤ 5000 ∧ a' * b = b' * a := by
    intro g h0 a' b' h1 h2
    have p1 : 0 < a' := by
      by_cases c : a' ≤ 0
      · have := Int.mul_le_mul_of_nonneg_left c (show 0 ≤ g by omega)
        rw [Int.mul_zero] at this; omega
      · omega
    have p2 : a' < b' := by
      by_cases c : b' ≤ a'
      · have := Int.mul_le_mul_of_nonneg_left c (show 0 ≤ g by omega)
        omega
      · omega
    have p3 := Int.mul_le_mul_of_nonneg_right (show 1 ≤ g by omega) (show 0 ≤ b' by omega)
    refine ⟨by rw [h1]; exact Int.mul_tdiv_cancel_left _ (by omega), by rw [h2]; exact Int.mul_tdiv_cancel_left _ (by omega), p1, p2, by omega, ?_⟩
    rw [h1, h2]; ac_rfl
  obtain ⟨k1, k2, k3, k4, k5, k6⟩ := key (Int.gcd a b) (by omega) a' b' ha' hb'
  have ep : rd.p.sv a b = a' := by unfold rd.p.sv; rw [hz, cond_false, e, k1]
  have eq : rd.q.sv a b = b' := by unfold rd.q.sv; rw [hz, cond_false, e, k2]
  rw [ep, eq]
  exact ⟨k3, by omega, by omega, k5, k6⟩
theorem go_ok {G : Int} (hG : G = 0 ∨ G = 1) {ow ot : List Int} (no : ∀ k, 0 ≤ gz ow k ∧ gz ow k ≤ 1000) (nt : ∀ k, 0 ≤ gz ot k ∧ gz ot k ≤ 1000) {n : Nat} {S : Int} (hs1 : sm ow n = S) (hs2 : sm ot n = S) (hS : 0 < S) : ∀ (rest os : List Int), Inv G ow ot n rest os → Good G ow ot n S (go G ow ot rest os (ha ow os G n) (ha ot os (1 - G) n)) := by
  intro rest
  induction rest with
  | nil =>
    intro os I
    exfalso
    have z1 : ∀ m, m ≤ n → ha ow os G m = 0 := by
      intro m
      induction m with
      | zero => intro _; rfl
      | succ m ih =>
        intro hm
        have b : (gz os m == G) = false := by
          simp only [beq_eq_false_iff_ne, ne_eq]
          intro e
          exact absurd (I.all m (by omega) e) (by simp)
        simp only [ha, ih (by omega), b, cond_false]; rfl
    have z2 : ∀ m, m ≤ n → ha ot os (1 - G) m = sm ot m := by
      intro m
      induction m with
      | zero => intro _; rfl
      | succ m ih =>
        intro hm
        have b : (gz os m == 1 - G) = true := by
          rcases I.two m (by omega) with e | e
          · exact absurd (I.all m (by omega) e) (by simp)
          · simp [e]
        simp only [ha, sm, ih (by omega), b, cond_true]
    have := I.pos
    rw [z1 n (Nat.le_refl _), z2 n (Nat.le_refl _), hs2] at this
    omega
  | cons k r ih =>
    intro os I
    obtain ⟨hk0, hk1, hkG⟩ := I.mem k (List.mem_cons_self ..)
    have hkl : k.toNat < os.length := by rw [I.len]; omega
    have hpos := I.pos
    simp only [go]
    by_cases c0 : ha ow os G n - ha ot os (1 - G) n = 0
    · rw [show (ha ow os G n - ha ot os (1 - G) n == 0) = true from by simp [c0], cond_true]
      have f := fair hG (fun k => (no k).1) (fun k => (nt k).1) hs1 hs2 I (p := 0) (q := 1) (by omega) (by omega)
      refine ⟨I.len, I.two, by simp, by simp, by simp, by simp, by simp, by simp; omega, by simp, by simp, ?_, ?_⟩
      · simp only [show ¬ ((0 : Int) ≤ -1) by omega, if_false]; omega
      · simp only [show ¬ ((0 : Int) ≤ -1) by omega, if_false]; omega
    · rw [show (ha ow os G n - ha ot os (1 - G) n == 0) = false from by simpa using c0, cond_false]
      have nk := no k.toNat
      have tk := nt k.toNat
      by_cases c1 : ha ow os G n - ha ot os (1 - G) n < gz ow k.toNat + gz ot k.toNat
      · rw [decide_eq_true c1, cond_true]
        obtain ⟨r1, r2, r3, r4, r5⟩ := rd_pos (a := ha ow os G n - ha ot os (1 - G) n) (b := gz ow k.toNat + gz ot k.toNat) (by omega) c1 (by omega)
        generalize rd.p.sv (ha ow os G n - ha ot os (1 - G) n) (gz ow k.toNat + gz ot k.toNat) = p at *
        generalize rd.q.sv (ha ow os G n - ha ot os (1 - G) n) (gz ow k.toNat + gz ot k.toNat) = q at *
        rw [Int.mul_add, Int.mul_sub] at r5
        have f := fair hG (fun k => (no k).1) (fun k => (nt k).1) hs1 hs2 I (p := p) (q := q) (by omega) (by omega)
        refine ⟨I.len, I.two, r3, by show 0 ≤ p; omega, r2, r4, by show -1 ≤ k; omega, hk1, ⟨fun h => absurd h (by show ¬ (k < 0); omega), fun h => absurd h (by show ¬ (p = 0); omega)⟩, fun _ => hkG, ?_, ?_⟩
        · simp only [hk0, if_true]; omega
        · simp only [hk0, if_true]; exact f
      · rw [decide_eq_false c1, cond_false]
        have hp := List.pairwise_cons.1 I.srt
        have hnd := List.nodup_cons.1 I.nd
        have a1 := ha_set (xs := ow) hkl G (1 - G) n
        have a2 := ha_set (xs := ot) hkl (1 - G) (1 - G) n
        rw [if_pos (by omega), if_neg (by omega), if_pos hkG] at a1
        rw [if_pos (by omega), if_pos rfl, if_neg (by omega)] at a2
        have g := ih (os.set k.toNat (1 - G)) ⟨by rw [List.length_set]; exact I.len, fun j hj => ?_, fun x hx => ?_, fun j hj e => ?_, hnd.2, fun j hj e => ?_, hp.2, fun x hx => I.les x (List.mem_cons_of_mem _ hx), by rw [a1, a2]; omega⟩
        · rw [a1, a2] at g
          rw [show ha ow os G n - gz ow k.toNat = ha ow os G n + (0 - gz ow k.toNat) by omega, show ha ot os (1 - G) n + gz ot k.toNat = ha ot os (1 - G) n + (gz ot k.toNat - 0) by omega]
          exact g
        · rw [gz_set hkl]
          by_cases e : k.toNat = j
          · rw [if_pos e]; exact .inr rfl
          · rw [if_neg e]; exact I.two j hj
        · obtain ⟨x0, x1, x2⟩ := I.mem x (List.mem_cons_of_mem _ hx)
          refine ⟨x0, x1, ?_⟩
          rw [gz_set hkl, if_neg]
          · exact x2
          · intro e
            have : x = k := by omega
            rw [this] at hx
            exact hnd.1 hx
        · rw [gz_set hkl] at e
          by_cases e2 : k.toNat = j
          · rw [if_pos e2] at e; omega
          · rw [if_neg e2] at e
            rcases List.mem_cons.1 (I.all j hj e) with f | f
            · omega
            · exact f
        · rw [gz_set hkl] at e
          by_cases e2 : k.toNat = j
          · right
            intro x hx
            rw [show (j : Int) = k by omega]
            exact hp.1 x hx
          · rw [if_neg e2] at e
            rcases I.oth j hj e with f | f
            · exact .inl f
            · exact .inr fun x hx => f x (List.mem_cons_of_mem _ hx)
end so

end Go.Proofs.Ytkoongajnnaeoaa.Ab
