/-
  Functions: points that are best.
-/
import Derived.Test.YtadpndpbooofiaaFnE
import Derived.Test.YtadpndpbooofiaaFnB
namespace Go.Proofs.Ytadpndpbooofiaa.Ab
open Go
set_option linter.unusedVariables false
set_option linter.unusedSimpArgs false
set_option maxRecDepth 100000

namespace point
def sp (xs : List Int) (x y : Int) : Bool := (l07Points.sp xs && (decide (0 ≤ x) && decide (x ≤ 1000))) && (decide (0 ≤ y) && decide (y ≤ 1000))
/-- The best of pairs, from a place on. -/
def scan (g : Int → Int → Int) (x y : Int) : List Int → Int → Int → Int → Int
  | a :: b :: r, j, best, most => bif decide (a - x < 0) || decide (b - y < 0) then scan g x y r (j + 1) best most
    else bif decide (best < 0) || decide (most < g (a - x) (b - y)) then scan g x y r (j + 1) j (g (a - x) (b - y)) else scan g x y r (j + 1) best most
  | _, _, best, _ => best
/-- The places of the pairs that are no less. -/
def pick (x y : Int) : List Int → Nat → List Int
  | a :: b :: r, j => bif decide (x ≤ a) && decide (y ≤ b) then (j : Int) :: pick x y r (j + 1) else pick x y r (j + 1)
  | _, _ => []
def sv (xs : List Int) (x y : Int) : List Int := pick x y xs 0
def great (g : Int → Int → Int) (xs : List Int) (x y : Int) : List Int → Int → Int → Int
  | [], best, _ => best
  | j :: r, best, most => bif decide (best < 0) || decide (most < g (gz xs (2 * j).toNat - x) (gz xs (2 * j + 1).toNat - y)) then great g xs x y r j (g (gz xs (2 * j).toNat - x) (gz xs (2 * j + 1).toNat - y)) else great g xs x y r best most
def gmin.sv (p q : Int) : Int := if q < p then q else p
def gmul.sv (p q : Int) : Int := IntKind.i64.wrap (p * q)
theorem great_pick (g : Int → Int → Int) (xs : List Int) (x y : Int) : ∀ (r : List Int) (j : Nat) (best most : Int), r = xs.drop (2 * j) → great g xs x y (pick x y r j) best most = scan g x y r j best most := by
  intro r
  induction hn : r.length using Nat.strongRecOn generalizing r with
  | _ n ih =>
    intro j best most hr
    match r, hn, hr with
    | [], _, _ => simp [pick, scan, great]
    | [a], _, _ => simp [pick, scan, great]
    | a :: b :: r, hn, hr =>
      have h0 : gz xs (2 * j) = a := by
        have := congrArg (fun l => l[0]?) hr
        simp only [List.getElem?_cons_zero, List.getElem?_drop, Nat.add_zero] at this
        simp [gz, List.getD_eq_getElem?_getD, ← this]
      have h1 : gz xs (2 * j + 1) = b := by
        have := congrArg (fun l => l[1]?) hr
        simp only [List.getElem?_cons_succ, List.getElem?_cons_zero, List.getElem?_drop] at this
        simp [gz, List.getD_eq_getElem?_getD, ← this]
      have hd : r = xs.drop (2 * (j + 1)) := by
        have := congrArg (fun l => l.drop 2) hr
        simpa [List.drop_drop, Nat.mul_add] using this
      have hrec := ih r.length (by rw [← hn]; simp; omega) r rfl (j + 1)
      have e0 : (2 * (j : Int)).toNat = 2 * j := by omega
      have e1 : (2 * (j : Int) + 1).toNat = 2 * j + 1 := by omega
      have ej : ((j + 1 : Nat) : Int) = (j : Int) + 1 := by omega
      have ca : decide (x ≤ a) = !decide (a - x < 0) := by rw [← decide_not]; congr 1; apply propext; omega
      have cb : decide (y ≤ b) = !decide (b - y < 0) := by rw [← decide_not]; congr 1; apply propext; omega
      simp only [pick, scan, ca, cb]
      rw [ej] at hrec
      cases decide (a - x < 0)
      · cases decide (b - y < 0)
        · simp only [Bool.not_false, Bool.and_self, Bool.or_self, cond_true, cond_false, great, e0, e1, h0, h1]
          cases decide (best < 0) || decide (most < g (a - x) (b - y))
          · exact hrec best most hd
          · exact hrec _ _ hd
        · simp only [Bool.not_false, Bool.not_true, Bool.and_false, Bool.or_true, cond_true, cond_false]
          exact hrec best most hd
      · simp only [Bool.not_true, Bool.false_and, Bool.true_or, cond_true, cond_false]
        exact hrec best most hd
theorem pick_in (x y : Int) : ∀ (r : List Int) (j : Nat), ∀ k ∈ pick x y r j, ∃ i : Nat, k = i ∧ j ≤ i ∧ 2 * i + 1 < 2 * j + r.length := by
  intro r
  induction hn : r.length using Nat.strongRecOn generalizing r with
  | _ n ih =>
    intro j k hk
    match r, hn, hk with
    | [], _, hk => simp [pick] at hk
    | [a], _, hk => simp [pick] at hk
    | a :: b :: r, hn, hk =>
      have hrec := ih r.length (by rw [← hn]; simp; omega) r rfl (j + 1) k
      simp only [List.length_cons] at hn
      simp only [pick] at hk
      have go : k ∈ pick x y r (j + 1) → ∃ i : Nat, k = i ∧ j ≤ i ∧ 2 * i + 1 < 2 * j + n := fun h => by
        obtain ⟨i, h1, h2, h3⟩ := hrec h
        exact ⟨i, h1, by omega, by omega⟩
      cases hb : decide (x ≤ a) && decide (y ≤ b) with
      | false => rw [hb] at hk; exact go hk
      | true =>
        rw [hb] at hk
        simp only [cond_true, List.mem_cons] at hk
        rcases hk with rfl | hk
        · exact ⟨j, rfl, by omega, by omega⟩
        · exact go hk
theorem pick_len (x y : Int) : ∀ (r : List Int) (j : Nat), (pick x y r j).length ≤ r.length := by
  intro r
  induction hn : r.length using Nat.strongRecOn generalizing r with
  | _ n ih =>
    intro j
    match r, hn with
    | [], _ => simp [pick]
    | [a], _ => simp [pick]
    | a :: b :: r, hn =>
      have hrec := ih r.length (by rw [← hn]; simp; omega) r rfl (j + 1)
      simp only [List.length_cons] at hn
      simp only [pick]
      cases decide (x ≤ a) && decide (y ≤ b)
      · simp only [cond_false]; omega
      · simp only [cond_true, List.length_cons]; omega
/-- A place is told. -/
theorem scan_neg (g : Int → Int → Int) (x y : Int) : ∀ (r : List Int) (j : Nat) (best most : Int), (0 ≤ best → 0 ≤ scan g x y r j best most) ∧ (best < 0 → pick x y r j ≠ [] → 0 ≤ scan g x y r j best most) ∧ (pick x y r j = [] → scan g x y r j best most = best) := by
  intro r
  induction hn : r.length using Nat.strongRecOn generalizing r with
  | _ n ih =>
    intro j best most
    match r, hn with
    | [], _ => simp [pick, scan]
    | [a], _ => simp [pick, scan]
    | a :: b :: r, hn =>
      have hrec := ih r.length (by rw [← hn]; simp; omega) r rfl (j + 1)
      have ej : ((j + 1 : Nat) : Int) = (j : Int) + 1 := by omega
      rw [ej] at hrec
      have ca : decide (x ≤ a) = !decide (a - x < 0) := by rw [← decide_not]; congr 1; apply propext; omega
      have cb : decide (y ≤ b) = !decide (b - y < 0) := by rw [← decide_not]; congr 1; apply propext; omega
      simp only [pick, scan, ca, cb]
      cases decide (a - x < 0)
      · cases decide (b - y < 0)
        · simp only [Bool.not_false, Bool.and_self, Bool.or_self, cond_true, cond_false]
          by_cases hb : best < 0
          · simp only [hb, decide_true, Bool.true_or, cond_true]
            have := (hrec j (g (a - x) (b - y))).1 (by omega)
            exact ⟨fun h => by omega, fun _ _ => this, fun h => by cases h⟩
          · have hb' : decide (best < 0) = false := by simpa using hb
            simp only [hb', Bool.false_or]
            cases decide (most < g (a - x) (b - y))
            · exact ⟨(hrec best most).1, fun h => absurd h hb, fun h => by cases h⟩
            · exact ⟨fun _ => (hrec j _).1 (by omega), fun h => absurd h hb, fun h => by cases h⟩
        · simp only [Bool.not_false, Bool.not_true, Bool.and_false, Bool.or_true, cond_true, cond_false]
          exact hrec best most
      · simp only [Bool.not_true, Bool.false_and, Bool.true_or, cond_true, cond_false]
        exact hrec best most
/-- Is there one? And which? -/
def sq (xs : List Int) (x y : Int) : Bool := sp xs x y && decide (0 < (sv xs x y).length)
def best (g : Int → Int → Int) (xs : List Int) (x y : Int) : Int := bif sq xs x y then scan g x y xs 0 (-1) 0 else 0
def least.sw (xs : List Int) (x y : Int) : Int := best gmin.sv xs x y
def prod.sw (xs : List Int) (x y : Int) : Int := best gmul.sv xs x y
theorem valid {xs : List Int} {x y : Int} (h : sp xs x y = true) : (2 ≤ xs.length ∧ xs.length ≤ 32 ∧ xs.length % 2 = 0) ∧ (∀ v ∈ xs, 0 ≤ v ∧ v ≤ 1000) ∧ (0 ≤ x ∧ x ≤ 1000) ∧ 0 ≤ y ∧ y ≤ 1000 := by
  simp only [sp, l07Points.sp, Bool.and_eq_true, decide_eq_true_eq, List.all_eq_true] at h
  exact ⟨⟨h.1.1.1.1, h.1.1.1.2.1, h.1.1.1.2.2⟩, h.1.1.2, h.1.2, h.2⟩
end point

namespace l07Bargain
def R : List AVal → Option (Bool × AVal × List Blk)
  | [.ro (.ints .i64 xs) m 1, .int .i64 x, .int .i64 y] => some (decide (m ≤ xs.length ∧ m ≤ 4611686018427387904), .bool (point.sp (xs.take m) x y), [])
  | _ => none
theorem go (xs : List Int) (m : Nat) (x y : Int) :
  runFn Try.prog (orc [⟨24, l07Points.R⟩, ⟨45, l00In.R⟩]) hd0 Dr.std none 0 (bodyOf Try.f32) 17 [6] [.ro (.ints .i64 xs) m 1, .int .i64 x, .int .i64 y] []
  = (bif decide (m ≤ xs.length ∧ m ≤ (4611686018427387904 : Nat)) && (true && true || true && true) then bif l07Points.sp (List.take m xs) then bif true && (true && true || true && true) then bif decide ((0 : Int) ≤ x) && decide (x ≤ (1000 : Int)) then bif true && (true && true || true && true) then some (AVal.bool (decide ((0 : Int) ≤ y) && decide (y ≤ (1000 : Int))), []) else none else some (AVal.bool false, []) else none else some (AVal.bool false, []) else none) := by kernel_rfl
theorem run : ∀ args v new, R args = some (true, v, new) → ∃ fuel, runFn Try.prog (orc [⟨24, l07Points.R⟩, ⟨45, l00In.R⟩]) hd0 Dr.std none fuel (bodyOf Try.f32) 17 [6] args [] = some (v, new) := by
  intro args v new h
  unfold R at h
  split at h
  · rename_i xs m x y
    simp only [Option.some.injEq, Prod.mk.injEq, decide_eq_true_eq] at h
    obtain ⟨⟨h1, h2⟩, rfl, rfl⟩ := h
    refine ⟨0, ?_⟩
    rw [go]
    simp only [h1, h2, and_self, decide_true, Bool.and_self, Bool.or_self, Bool.and_true, Bool.or_true, cond_true, point.sp]
    generalize (decide (0 ≤ x) && decide (x ≤ 1000)) = b1
    generalize (decide (0 ≤ y) && decide (y ≤ 1000)) = b2
    cases l07Points.sp (xs.take m) <;> cases b1 <;> cases b2 <;> rfl
  · cases h
theorem ok : EntOk Try.prog ⟨32, R⟩ :=
  ent_okA mixed (A := (orc [⟨24, l07Points.R⟩, ⟨45, l00In.R⟩])) (orc_ok (by simp only [List.mem_cons, List.not_mem_nil, or_false, forall_eq_or_imp, forall_eq]; exact ⟨l07Points.ok, l00In.ok⟩)) Try.func32 (by kernel_rfl) (by kernel_rfl) (n := 17) (ts := [6]) (hd := hd0) (dr := Dr.std) (cut := none) (by kernel_rfl) (by kernel_rfl) (by kernel_rfl) run
end l07Bargain








end Go.Proofs.Ytadpndpbooofiaa.Ab
