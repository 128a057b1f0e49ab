/-
  Functions: points that are best.
-/
import Derived.Test.YtmaegbgkpjbohaaFnE
import Derived.Test.YtmaegbgkpjbohaaFnB
namespace Go.Proofs.Ytmaegbgkpjbohaa.Ab
open Go
set_option linter.unusedVariables false
set_option linter.unusedSimpArgs false
set_option maxRecDepth 100000

namespace point
def sp (xs : List Int) (x y : Int) : Bool := (l07Points.sp xs && (decide (0 ≤ x) && decide (x ≤ 1000))) && (decide (0 ≤ y) && decide (y ≤ 1000))
/-- The best of pairs, from a place on. -/
def scan (g : Int → Int → Int) (x y : Int) : List Int → Int → Int → Int → Int
  | a :: b :: r, j, best, most => bif decide (a - x < 0) || decide (b - y < 0) then scan g x y r (j + 1) best most
    else bif decide (best < 0) || decide (most < g (a - x) (b - y)) then scan g x y r (j + 1) j (g (a - x) (b - y)) else scan g x y r (j + 1) best most
  | _, _, best, _ => best
/-- The places of the pairs that are no less. -/
def pick (x y : Int) : List Int → Nat → List Int
  | a :: b :: r, j => bif decide (x ≤ a) && decide (y ≤ b) then (j : Int) :: pick x y r (j + 1) else pick x y r (j + 1)
  | _, _ => []
def sv (xs : List Int) (x y : Int) : List Int := pick x y xs 0
def great (g : Int → Int → Int) (xs : List Int) (x y : Int) : List Int → Int → Int → Int
  | [], best, _ => best
  | j :: r, best, most => bif decide (best < 0) || decide (most < g (gz xs (2 * j).toNat - x) (gz xs (2 * j + 1).toNat - y)) then great g xs x y r j (g (gz xs (2 * j).toNat - x) (gz xs (2 * j + 1).toNat - y)) else great g xs x y r best most
def gmin.sv (p q : Int) : Int := if q < p then q else p
def gmul.sv (p q : Int) : Int := IntKind.i64.wrap (p * q)
theorem great_pick (g : Int → Int → Int) (xs : List Int) (x y : Int) : ∀ (r : List Int) (j : Nat) (best most : Int), r = xs.drop (2 * j) → great g xs x y (pick x y r j) best most = scan g x y r j best most := by
  intro r
  induction hn : r.length using Nat.strongRecOn generalizing r with
  | _ n ih =>
    intro j best most hr
    match r, hn, hr with
    | [], _, _ => simp [pick, scan, great]
    | [a], _, _ => simp [pick, scan, great]
    | a :: b :: r, hn, hr =>
      have h0 : gz xs (2 * j) = a := by
        have := congrArg (fun l => l[0]?) hr
        simp only [List.getElem?_cons_zero, List.getElem?_drop, Nat.add_zero] at this
        simp [gz, List.getD_eq_getElem?_getD, ← this]
      have h1 : gz xs (2 * j + 1) = b := by
        have := congrArg (fun l => l[1]?) hr
        simp only [List.getElem?_cons_succ, List.getElem?_cons_zero, List.getElem?_drop] at this
        simp [gz, List.getD_eq_getElem?_getD, ← this]
      have hd : r = xs.drop (2 * (j + 1)) := by
        have := congrArg (fun l => l.drop 2) hr
        simpa [List.drop_drop, Nat.mul_add] using this
      have hrec := ih r.length (by rw [← hn]; simp; omega) r rfl (j + 1)
      have e0 : (2 * (j : Int)).toNat = 2 * j := by omega
      have e1 : (2 * (j : Int) + 1).toNat = 2 * j + 1 := by omega
      have ej : ((j + 1 : Nat) : Int) = (j : Int) + 1 := by omega
      have ca : decide (x ≤ a) = !decide (a - x < 0) := by rw [← decide_not]; congr 1; apply propext; omega
      have cb : decide (y ≤ b) = !decide (b - y < 0) := by rw [← decide_not]; congr 1; apply propext; omega
      simp only [pick, scan, ca, cb]
      rw [ej] at hrec
      cases decide (a - x < 0)
      · cases decide (b - y < 0)
        · simp only [Bool.not_false, Bool.and_self, Bool.or_self, cond_true, cond_false, great, e0, e1, h0, h1]
          cases decide (best < 0) || decide (most < g (a - x) (b - y))
          · exact hrec best most hd
          · exact hrec _ _ hd
        · simp only [Bool.not_false, Bool.not_true, Bool.and_false, Bool.or_true, cond_true, cond_false]
          exact hrec best most hd
      · simp only [Bool.not_true, Bool.false_and, Bool.true_or, cond_true, cond_false]
        exact hrec best most hd
theorem pick_in (x y : Int) : ∀ (r : List Int) (j : Nat), ∀ k ∈ pick x y r j, ∃ i : Nat, k = i ∧ j ≤ i ∧ 2 * i + 1 < 2 * j + r.length := by
  intro r
  induction hn : r.length using Nat.strongRecOn generalizing r with
  | _ n ih =>
    intro j k hk
    match r, hn, hk with
    | [], _, hk => simp [pick] at hk
    | [a], _, hk => simp [pick] at hk
    | a :: b :: r, hn, hk =>
      have hrec := ih r.length (by rw [← hn]; simp; omega) r rfl (j + 1) k
      simp only [List.length_cons] at hn
      simp only [pick] at hk
      have go : k ∈ pick x y r (j + 1) → ∃ i : Nat, k = i ∧ j ≤ i ∧ 2 * i + 1 < 2 * j + n := fun h => by
        obtain ⟨i, h1, h2, h3⟩ := hrec h
        exact ⟨i, h1, by omega, by omega⟩
      cases hb : decide (x ≤ a) && decide (y ≤ b) with
      | false => rw [hb] at hk; exact go hk
      | true =>
        rw [hb] at hk
        simp only [cond_true, List.mem_cons] at hk
        rcases hk with rfl | hk
        · exact ⟨j, rfl, by omega, by omega⟩
        · exact go hk
theorem pick_len (x y : Int) : ∀ (r : List Int) (j : Nat), (pick x y r j).length ≤ r.length := by
  intro r
  induction hn : r.length using Nat.strongRecOn generalizing r with
  | _ n ih =>
    intro j
    match r, hn with
    | [], _ => simp [pick]
    | [a], _ => simp [pick]
    | a :: b :: r, hn =>
      have hrec := ih r.length (by rw [← hn]; simp; omega) r rfl (j + 1)
      simp only [List.length_cons] at hn
      simp only [pick]
      cases decide (x ≤ a) && decide (y ≤ b)
      · simp only [cond_false]; omega
      · simp only [cond_true, List.length_cons]; omega
/-- A place is told. -/
theorem scan_neg (g : Int → Int → Int) (x y : Int) : ∀ (r : List Int) (j : Nat) (best most : Int), (0 ≤ best → 0 ≤ scan g x y r j best most) ∧ (best < 0 → pick x y r j ≠ [] → 0 ≤ scan g x y r j best most) ∧ (pick x y r j = [] → scan g x y r j best most = best) := by
  intro r
  induction hn : r.length using Nat.strongRecOn generalizing r with
  | _ n ih =>
    intro j best most
    match r, hn with
    | [], _ => simp [pick, scan]
    | [a], _ => simp [pick, scan]
    | a :: b :: r, hn =>
      have hrec := ih r.length (by rw [← hn]; simp; omega) r rfl (j + 1)
      have ej : ((j + 1 : Nat) : Int) = (j : Int) + 1 := by omega
      rw [ej] at hrec
      have ca : decide (x ≤ a) = !decide (a - x < 0) := by rw [← decide_not]; congr 1; apply propext; omega
      have cb : decide (y ≤ b) = !decide (b - y < 0) := by rw [← decide_not]; congr 1; apply propext; omega
      simp only [pick, scan, ca, cb]
      cases decide (a - x < 0)
      · cases decide (b - y < 0)
        · simp only [Bool.not_false, Bool.and_self, Bool.or_self, cond_true, cond_false]
          by_cases hb : best < 0
          · simp only [hb, decide_true, Bool.true_or, cond_true]
            have := (hrec j (g (a - x) (b - y))).1 (by omega)
            exact ⟨fun h => by omega, fun _ _ => this, fun h => by cases h⟩
          · have hb' : decide (best < 0) = false := by simpa using hb
            simp only [hb', Bool.false_or]
            cases decide (most < g (a - x) (b - y))
            · exact ⟨(hrec best most).1, fun h => absurd h hb, fun h => by cases h⟩
            · exact ⟨fun _ => (hrec j _).1 (by omega), fun h => absurd h hb, fun h => by cases h⟩
        · simp only [Bool.not_false, Bool.not_true, Bool.and_false, Bool.or_true, cond_true, cond_false]
          exact hrec best most
      · simp only [Bool.not_true, Bool.false_and, Bool.true_or, cond_true, cond_false]
        exact hrec best most
/-- Is there one? And which? -/
def sq (xs : List Int) (x y : Int) : Bool := sp xs x y && decide (0 < (sv xs x y).length)
def best (g : Int → Int → Int) (xs : List Int) (x y : Int) : Int := bif sq xs x y then scan g x y xs 0 (-1) 0 else 0
def least.sw (xs : List Int) (x y : Int) : Int := best gmin.sv xs x y
def prod.sw (xs : List Int) (x y : Int) : Int := best gmul.sv xs x y
theorem valid {xs : List Int} {x y : Int} (h : sp xs x y = true) : (2 ≤ xs.length ∧ xs.length ≤ 32 ∧ xs.length % 2 = 0) ∧ (∀ v ∈ xs, 0 ≤ v ∧ v ≤ 1000) ∧ (0 ≤ x ∧ x ≤ 1000) ∧ 0 ≤ y ∧ y ≤ 1000 := by
  simp only [sp, l07Points.sp, Bool.and_eq_true, decide_eq_true_eq, List.all_eq_true] at h
  exact ⟨⟨h.1.1.1.1, h.1.1.1.2.1, h.1.1.1.2.2⟩, h.1.1.2, h.1.2, h.2⟩
end point

namespace l07Bargain
def R : List AVal → Option (Bool × AVal × List Blk)
  | [.ro (.ints .i64 xs) m 1, .int .i64 x, .int .i64 y] => some (decide (m ≤ xs.length ∧ m ≤ 4611686018427387904), .bool (point.sp (xs.take m) x y), [])
  | _ => none
theorem go (xs : List Int) (m : Nat) (x y : Int) :
  runFn Try.prog (orc [⟨51, l07Points.R⟩, ⟨60, l00In.R⟩]) hd0 Dr.std none 0 (bodyOf Try.f71) 17 [6] [.ro (.ints .i64 xs) m 1, .int .i64 x, .int .i64 y] []
  = (bif decide (m ≤ xs.length ∧ m ≤ (4611686018427387904 : Nat)) && (true && true || true && true) then bif l07Points.sp (List.take m xs) then bif true && (true && true || true && true) then bif decide ((0 : Int) ≤ x) && decide (x ≤ (1000 : Int)) then bif true && (true && true || true && true) then some (AVal.bool (decide ((0 : Int) ≤ y) && decide (y ≤ (1000 : Int))), []) else none else some (AVal.bool false, []) else none else some (AVal.bool false, []) else none) := by kernel_rfl
theorem run : ∀ args v new, R args = some (true, v, new) → ∃ fuel, runFn Try.prog (orc [⟨51, l07Points.R⟩, ⟨60, l00In.R⟩]) hd0 Dr.std none fuel (bodyOf Try.f71) 17 [6] args [] = some (v, new) := by
  intro args v new h
  unfold R at h
  split at h
  · rename_i xs m x y
    simp only [Option.some.injEq, Prod.mk.injEq, decide_eq_true_eq] at h
    obtain ⟨⟨h1, h2⟩, rfl, rfl⟩ := h
    refine ⟨0, ?_⟩
    rw [go]
    simp only [h1, h2, and_self, decide_true, Bool.and_self, Bool.or_self, Bool.and_true, Bool.or_true, cond_true, point.sp]
    generalize (decide (0 ≤ x) && decide (x ≤ 1000)) = b1
    generalize (decide (0 ≤ y) && decide (y ≤ 1000)) = b2
    cases l07Points.sp (xs.take m) <;> cases b1 <;> cases b2 <;> rfl
  · cases h
theorem ok : EntOk Try.prog ⟨71, R⟩ :=
  ent_okA mixed (A := (orc [⟨51, l07Points.R⟩, ⟨60, l00In.R⟩])) (orc_ok (by simp only [List.mem_cons, List.not_mem_nil, or_false, forall_eq_or_imp, forall_eq]; exact ⟨l07Points.ok, l00In.ok⟩)) Try.func71 (by kernel_rfl) (by kernel_rfl) (n := 17) (ts := [6]) (hd := hd0) (dr := Dr.std) (cut := none) (by kernel_rfl) (by kernel_rfl) (by kernel_rfl) run
end l07Bargain

namespace l00Min
def R : List AVal → Option (Bool × AVal × List Blk)
  | [.int .i64 p, .int .i64 q] => some (true, .int .i64 (point.gmin.sv p q), [])
  | _ => none
theorem go (p q : Int) :
  runFn Try.prog (orc []) hd0 Dr.std none 0 (bodyOf Try.f87) 10 [4] [.int .i64 p, .int .i64 q] []
  = (bif decide (p < q) then some (AVal.int IntKind.i64 p, []) else some (AVal.int IntKind.i64 q, [])) := by kernel_rfl
theorem run : ∀ args v new, R args = some (true, v, new) → ∃ fuel, runFn Try.prog (orc []) hd0 Dr.std none fuel (bodyOf Try.f87) 10 [4] args [] = some (v, new) := by
  intro args v new h
  unfold R at h
  split at h
  · rename_i p q
    simp only [Option.some.injEq, Prod.mk.injEq] at h
    obtain ⟨_, rfl, rfl⟩ := h
    refine ⟨0, ?_⟩
    rw [go]
    unfold point.gmin.sv
    by_cases c : p < q
    · have : ¬ q < p := by omega
      simp [c, this]
    · by_cases c2 : q < p
      · simp [c, c2]
      · have : p = q := by omega
        simp [this]
  · cases h
theorem ok : EntOk Try.prog ⟨87, R⟩ :=
  ent_okA mixed (A := (orc [])) (orc_ok (by simp)) Try.func87 (by kernel_rfl) (by kernel_rfl) (n := 10) (ts := [4]) (hd := hd0) (dr := Dr.std) (cut := none) (by kernel_rfl) (by kernel_rfl) (by kernel_rfl) run
end l00Min

namespace leastPoint_1
def R : List AVal → Option (Bool × AVal × List Blk)
  | [.int .i64 p, .int .i64 q] => some (true, .int .i64 (point.gmin.sv p q), [])
  | _ => none
theorem go (p q : Int) :
  runFn Try.prog (orc []) hd0 Dr.std none 0 (bodyOf Try.f74) 8 [4] [.int .i64 p, .int .i64 q] []
  = (some (AVal.int IntKind.i64 (if q < p then q else p), [])) := by kernel_rfl
theorem run : ∀ args v new, R args = some (true, v, new) → ∃ fuel, runFn Try.prog (orc []) hd0 Dr.std none fuel (bodyOf Try.f74) 8 [4] args [] = some (v, new) := by
  intro args v new h
  unfold R at h
  split at h
  · rename_i p q
    simp only [Option.some.injEq, Prod.mk.injEq] at h
    obtain ⟨_, rfl, rfl⟩ := h
    refine ⟨0, ?_⟩
    rw [go]
    rfl
  · cases h
theorem ok : EntOk Try.prog ⟨74, R⟩ :=
  ent_okA mixed (A := (orc [])) (orc_ok (by simp)) Try.func74 (by kernel_rfl) (by kernel_rfl) (n := 8) (ts := [4]) (hd := hd0) (dr := Dr.std) (cut := none) (by kernel_rfl) (by kernel_rfl) (by kernel_rfl) run
end leastPoint_1

namespace productPoint_1
def R : List AVal → Option (Bool × AVal × List Blk)
  | [.int .i64 p, .int .i64 q] => some (true, .int .i64 (point.gmul.sv p q), [])
  | _ => none
theorem go (p q : Int) :
  runFn Try.prog (orc []) hd0 Dr.std none 0 (bodyOf Try.f75) 8 [4] [.int .i64 p, .int .i64 q] []
  = (some (AVal.int IntKind.i64 (IntKind.i64.wrap (p * q)), [])) := by kernel_rfl
theorem run : ∀ args v new, R args = some (true, v, new) → ∃ fuel, runFn Try.prog (orc []) hd0 Dr.std none fuel (bodyOf Try.f75) 8 [4] args [] = some (v, new) := by
  intro args v new h
  unfold R at h
  split at h
  · rename_i p q
    simp only [Option.some.injEq, Prod.mk.injEq] at h
    obtain ⟨_, rfl, rfl⟩ := h
    refine ⟨0, ?_⟩
    rw [go]
    rfl
  · cases h
theorem ok : EntOk Try.prog ⟨75, R⟩ :=
  ent_okA mixed (A := (orc [])) (orc_ok (by simp)) Try.func75 (by kernel_rfl) (by kernel_rfl) (n := 8) (ts := [4]) (hd := hd0) (dr := Dr.std) (cut := none) (by kernel_rfl) (by kernel_rfl) (by kernel_rfl) run
end productPoint_1

namespace l07BestT
def R : List AVal → Option (Bool × AVal × List Blk)
  | [.ro (.ints .i64 xs) m 1, .int .i64 x, .int .i64 y, .bool true] => some (decide (m ≤ xs.length ∧ m ≤ 4611686018427387904) && point.sp (xs.take m) x y, .int .i64 (point.scan point.gmin.sv x y (xs.take m) 0 (-1) 0), [])
  | _ => none
def hd : Nat → Head := fun _ => ⟨[0, 1, 2, 3, 9, 10, 11], none⟩
noncomputable def L (f n : Nat) (s : State) := loopAt Try.prog (orc [⟨87, l00Min.R⟩]) hd Dr.std 0 f (bodyOf Try.f72) 0 [true, true, true, false, true] (retK Try.prog [8] 0 none) n s
theorem start (xs : List Int) (m : Nat) (x y : Int) (f : Nat) :
  runFn Try.prog (orc [⟨87, l00Min.R⟩]) hd Dr.std none f (bodyOf Try.f72) 58 [8] [.ro (.ints .i64 xs) m 1, .int .i64 x, .int .i64 y, .bool true] []
  = (L f f (mkS (58 : Nat) [((0 : Nat), AVal.ro (Cont.ints IntKind.i64 xs) m (1 : Nat)), ((1 : Nat), AVal.int IntKind.i64 x), ((2 : Nat), AVal.int IntKind.i64 y), ((3 : Nat), AVal.bool true), ((9 : Nat), AVal.int IntKind.i64 (-1 : Int)), ((10 : Nat), AVal.int IntKind.i64 (0 : Int)), ((11 : Nat), AVal.int IntKind.i64 (0 : Int))] [])) := by kernel_rfl
theorem round (xs : List Int) (m : Nat) (x y : Int) (best most : Int) (i f n : Nat) :
  L f (n + 1) (mkS 58 [(0, .ro (.ints .i64 xs) m 1), (1, .int .i64 x), (2, .int .i64 y), (3, .bool true), (9, .int .i64 best), (10, .int .i64 most), (11, .int .i64 i)] [])
  = (bif decide ((↑i : Int) < (↑m : Int)) then bif true && (decide ((0 : Int) ≤ (↑i : Int)) && decide ((↑i : Int) < (↑m : Int))) then bif decide ((↑i : Int).toNat < xs.length) then bif true && (decide ((0 : Int) ≤ IntKind.i64.wrap ((↑i : Int) + (1 : Int))) && decide (IntKind.i64.wrap ((↑i : Int) + (1 : Int)) < (↑m : Int))) then bif decide ((IntKind.i64.wrap ((↑i : Int) + (1 : Int))).toNat < xs.length) then bif decide (IntKind.i64.wrap (gz xs (↑i : Int).toNat - x) < (0 : Int)) then L f n (mkS (58 : Nat) [((0 : Nat), AVal.ro (Cont.ints IntKind.i64 xs) m (1 : Nat)), ((1 : Nat), AVal.int IntKind.i64 x), ((2 : Nat), AVal.int IntKind.i64 y), ((3 : Nat), AVal.bool true), ((9 : Nat), AVal.int IntKind.i64 best), ((10 : Nat), AVal.int IntKind.i64 most), ((11 : Nat), AVal.int IntKind.i64 (IntKind.i64.wrap ((↑i : Int) + (2 : Int))))] []) else bif decide (IntKind.i64.wrap (gz xs (IntKind.i64.wrap ((↑i : Int) + (1 : Int))).toNat - y) < (0 : Int)) then L f n (mkS (58 : Nat) [((0 : Nat), AVal.ro (Cont.ints IntKind.i64 xs) m (1 : Nat)), ((1 : Nat), AVal.int IntKind.i64 x), ((2 : Nat), AVal.int IntKind.i64 y), ((3 : Nat), AVal.bool true), ((9 : Nat), AVal.int IntKind.i64 best), ((10 : Nat), AVal.int IntKind.i64 most), ((11 : Nat), AVal.int IntKind.i64 (IntKind.i64.wrap ((↑i : Int) + (2 : Int))))] []) else bif true && (true && (true && true) || true && true) then bif decide (best < (0 : Int)) then L f n (mkS (58 : Nat) [((0 : Nat), AVal.ro (Cont.ints IntKind.i64 xs) m (1 : Nat)), ((1 : Nat), AVal.int IntKind.i64 x), ((2 : Nat), AVal.int IntKind.i64 y), ((3 : Nat), AVal.bool true), ((9 : Nat), AVal.int IntKind.i64 (IntKind.i64.wrap ((↑i : Int).tdiv (2 : Int)))), ((10 : Nat), AVal.int IntKind.i64 (point.gmin.sv (IntKind.i64.wrap (gz xs (↑i : Int).toNat - x)) (IntKind.i64.wrap (gz xs (IntKind.i64.wrap ((↑i : Int) + (1 : Int))).toNat - y)))), ((11 : Nat), AVal.int IntKind.i64 (IntKind.i64.wrap ((↑i : Int) + (2 : Int))))] []) else bif decide (most < point.gmin.sv (IntKind.i64.wrap (gz xs (↑i : Int).toNat - x)) (IntKind.i64.wrap (gz xs (IntKind.i64.wrap ((↑i : Int) + (1 : Int))).toNat - y))) then L f n (mkS (58 : Nat) [((0 : Nat), AVal.ro (Cont.ints IntKind.i64 xs) m (1 : Nat)), ((1 : Nat), AVal.int IntKind.i64 x), ((2 : Nat), AVal.int IntKind.i64 y), ((3 : Nat), AVal.bool true), ((9 : Nat), AVal.int IntKind.i64 (IntKind.i64.wrap ((↑i : Int).tdiv (2 : Int)))), ((10 : Nat), AVal.int IntKind.i64 (point.gmin.sv (IntKind.i64.wrap (gz xs (↑i : Int).toNat - x)) (IntKind.i64.wrap (gz xs (IntKind.i64.wrap ((↑i : Int) + (1 : Int))).toNat - y)))), ((11 : Nat), AVal.int IntKind.i64 (IntKind.i64.wrap ((↑i : Int) + (2 : Int))))] []) else L f n (mkS (58 : Nat) [((0 : Nat), AVal.ro (Cont.ints IntKind.i64 xs) m (1 : Nat)), ((1 : Nat), AVal.int IntKind.i64 x), ((2 : Nat), AVal.int IntKind.i64 y), ((3 : Nat), AVal.bool true), ((9 : Nat), AVal.int IntKind.i64 best), ((10 : Nat), AVal.int IntKind.i64 most), ((11 : Nat), AVal.int IntKind.i64 (IntKind.i64.wrap ((↑i : Int) + (2 : Int))))] []) else none else none else none else none else none else some (AVal.int IntKind.i64 best, [])) := by kernel_rfl
theorem loop (xs : List Int) (m : Nat) (x y : Int) (f : Nat) (hx : m ≤ xs.length) (hb : m ≤ 1048576) (hv : ∀ v ∈ xs.take m, 0 ≤ v ∧ v ≤ 1000) (hx0 : 0 ≤ x ∧ x ≤ 1000) (hy0 : 0 ≤ y ∧ y ≤ 1000) : ∀ (d j n : Nat) (best most : Int), 2 * j + 2 * d = m → d < n →
    L f n (mkS 58 [(0, .ro (.ints .i64 xs) m 1), (1, .int .i64 x), (2, .int .i64 y), (3, .bool true), (9, .int .i64 best), (10, .int .i64 most), (11, .int .i64 ((2 * j : Nat) : Int))] []) = some (.int .i64 (point.scan point.gmin.sv x y ((xs.take m).drop (2 * j)) j best most), []) := by
  intro d
  induction d with
  | zero =>
    intro j n best most hj hn
    obtain ⟨n, rfl⟩ : ∃ k, n = k + 1 := ⟨n - 1, by omega⟩
    rw [round]
    have c : ¬ (((2 * j : Nat) : Int) < (m : Int)) := by omega
    have e : (xs.take m).drop (2 * j) = [] := List.drop_of_length_le (by simp; omega)
    simp only [c, decide_false, cond_false, e, point.scan]
  | succ d ih =>
    intro j n best most hj hn
    obtain ⟨n, rfl⟩ : ∃ k, n = k + 1 := ⟨n - 1, by omega⟩
    have i1 : 2 * j < m := by omega
    have i2 : 2 * j + 1 < m := by omega
    have l1 : 2 * j < xs.length := by omega
    have l2 : 2 * j + 1 < xs.length := by omega
    have c : ((2 * j : Nat) : Int) < (m : Int) := by omega
    have c0 : (0 : Int) ≤ ((2 * j : Nat) : Int) := Int.natCast_nonneg _
    have c1 : IntKind.i64.wrap (((2 * j : Nat) : Int) + 1) = ((2 * j + 1 : Nat) : Int) := by rw [IntWalk.i64_in _ (by omega)]; omega
    have c2 : ((2 * j + 1 : Nat) : Int) < (m : Int) := by omega
    have c3 : (0 : Int) ≤ ((2 * j + 1 : Nat) : Int) := Int.natCast_nonneg _
    have c4 : IntKind.i64.wrap (((2 * j : Nat) : Int) + 2) = ((2 * (j + 1) : Nat) : Int) := by rw [IntWalk.i64_in _ (by omega)]; omega
    have c5 : IntKind.i64.wrap ((((2 * j : Nat) : Int)).tdiv 2) = (j : Int) := by
      have : ((2 * j : Nat) : Int) = 2 * (j : Int) := by omega
      rw [this, Int.mul_tdiv_cancel_left _ (by decide)]; exact IntWalk.i64_in _ (by omega)
    have va := hv xs[2 * j] (List.mem_take_iff_getElem.2 ⟨2 * j, by omega, rfl⟩)
    have vb := hv xs[2 * j + 1] (List.mem_take_iff_getElem.2 ⟨2 * j + 1, by omega, rfl⟩)
    have w1 : IntKind.i64.wrap (xs[2 * j] - x) = xs[2 * j] - x := IntWalk.i64_in _ (by omega)
    have w2 : IntKind.i64.wrap (xs[2 * j + 1] - y) = xs[2 * j + 1] - y := IntWalk.i64_in _ (by omega)
    have ej : ((j + 1 : Nat) : Int) = (j : Int) + 1 := by omega
    rw [round, c1, c4, c5, Int.toNat_natCast, Int.toNat_natCast, gz_eq l1, gz_eq l2, w1, w2, drop_take_cons hx i1, drop_take_cons hx i2]
    have hr := fun b' m' => ih (j + 1) n b' m' (by omega) (by omega)
    have e2 : 2 * (j + 1) = 2 * j + 1 + 1 := by omega
    rw [ej, e2] at hr
    rw [e2]
    simp only [c, c0, c2, c3, l1, l2, decide_true, Bool.and_self, Bool.or_self, Bool.and_true, Bool.true_and, cond_true, point.scan]
    generalize xs[2 * j] - x = p
    generalize xs[2 * j + 1] - y = q
    cases decide (p < 0)
    · cases decide (q < 0)
      · simp only [cond_false, Bool.or_self]
        cases decide (best < 0)
        · simp only [cond_false, Bool.false_or]
          cases decide (most < point.gmin.sv p q)
          · exact hr _ _
          · exact hr _ _
        · exact hr _ _
      · exact hr _ _
    · exact hr _ _
theorem run : ∀ args v new, R args = some (true, v, new) → ∃ fuel, runFn Try.prog (orc [⟨87, l00Min.R⟩]) hd Dr.std none fuel (bodyOf Try.f72) 58 [8] args [] = some (v, new) := by
  intro args v new h
  unfold R at h
  split at h
  · rename_i xs m x y
    simp only [Option.some.injEq, Prod.mk.injEq, Bool.and_eq_true, decide_eq_true_eq] at h
    obtain ⟨⟨⟨h1, h2⟩, hv⟩, rfl, rfl⟩ := h
    have hlen : (xs.take m).length = m := by simp; omega
    obtain ⟨⟨v1, v2, v3⟩, v4, v5, v6⟩ := point.valid hv
    rw [hlen] at v1 v2 v3
    refine ⟨m + 1, ?_⟩
    rw [start]
    have hl := loop xs m x y (m + 1) h1 (by omega) v4 v5 v6 (m / 2) 0 (m + 1) (-1) 0 (by omega) (by omega)
    simpa using hl
  · cases h
theorem ok : EntOk Try.prog ⟨72, R⟩ :=
  ent_okA mixed (A := (orc [⟨87, l00Min.R⟩])) (orc_ok (by simp only [List.mem_cons, List.not_mem_nil, or_false, forall_eq_or_imp, forall_eq]; exact l00Min.ok)) Try.func72 (by kernel_rfl) (by kernel_rfl) (n := 58) (ts := [8]) (hd := hd) (dr := Dr.std) (cut := none) (by kernel_rfl) (by kernel_rfl) (by kernel_rfl) run
end l07BestT

namespace l07BestF
def R : List AVal → Option (Bool × AVal × List Blk)
  | [.ro (.ints .i64 xs) m 1, .int .i64 x, .int .i64 y, .bool false] => some (decide (m ≤ xs.length ∧ m ≤ 4611686018427387904) && point.sp (xs.take m) x y, .int .i64 (point.scan point.gmul.sv x y (xs.take m) 0 (-1) 0), [])
  | _ => none
def hd : Nat → Head := fun _ => ⟨[0, 1, 2, 3, 9, 10, 11], none⟩
noncomputable def L (f n : Nat) (s : State) := loopAt Try.prog (orc [⟨87, l00Min.R⟩]) hd Dr.std 0 f (bodyOf Try.f72) 0 [true, true, true, false, true] (retK Try.prog [8] 0 none) n s
theorem start (xs : List Int) (m : Nat) (x y : Int) (f : Nat) :
  runFn Try.prog (orc [⟨87, l00Min.R⟩]) hd Dr.std none f (bodyOf Try.f72) 58 [8] [.ro (.ints .i64 xs) m 1, .int .i64 x, .int .i64 y, .bool false] []
  = (L f f (mkS (58 : Nat) [((0 : Nat), AVal.ro (Cont.ints IntKind.i64 xs) m (1 : Nat)), ((1 : Nat), AVal.int IntKind.i64 x), ((2 : Nat), AVal.int IntKind.i64 y), ((3 : Nat), AVal.bool false), ((9 : Nat), AVal.int IntKind.i64 (-1 : Int)), ((10 : Nat), AVal.int IntKind.i64 (0 : Int)), ((11 : Nat), AVal.int IntKind.i64 (0 : Int))] [])) := by kernel_rfl
theorem round (xs : List Int) (m : Nat) (x y : Int) (best most : Int) (i f n : Nat) :
  L f (n + 1) (mkS 58 [(0, .ro (.ints .i64 xs) m 1), (1, .int .i64 x), (2, .int .i64 y), (3, .bool false), (9, .int .i64 best), (10, .int .i64 most), (11, .int .i64 i)] [])
  = (bif decide ((↑i : Int) < (↑m : Int)) then bif true && (decide ((0 : Int) ≤ (↑i : Int)) && decide ((↑i : Int) < (↑m : Int))) then bif decide ((↑i : Int).toNat < xs.length) then bif true && (decide ((0 : Int) ≤ IntKind.i64.wrap ((↑i : Int) + (1 : Int))) && decide (IntKind.i64.wrap ((↑i : Int) + (1 : Int)) < (↑m : Int))) then bif decide ((IntKind.i64.wrap ((↑i : Int) + (1 : Int))).toNat < xs.length) then bif decide (IntKind.i64.wrap (gz xs (↑i : Int).toNat - x) < (0 : Int)) then L f n (mkS (58 : Nat) [((0 : Nat), AVal.ro (Cont.ints IntKind.i64 xs) m (1 : Nat)), ((1 : Nat), AVal.int IntKind.i64 x), ((2 : Nat), AVal.int IntKind.i64 y), ((3 : Nat), AVal.bool false), ((9 : Nat), AVal.int IntKind.i64 best), ((10 : Nat), AVal.int IntKind.i64 most), ((11 : Nat), AVal.int IntKind.i64 (IntKind.i64.wrap ((↑i : Int) + (2 : Int))))] []) else bif decide (IntKind.i64.wrap (gz xs (IntKind.i64.wrap ((↑i : Int) + (1 : Int))).toNat - y) < (0 : Int)) then L f n (mkS (58 : Nat) [((0 : Nat), AVal.ro (Cont.ints IntKind.i64 xs) m (1 : Nat)), ((1 : Nat), AVal.int IntKind.i64 x), ((2 : Nat), AVal.int IntKind.i64 y), ((3 : Nat), AVal.bool false), ((9 : Nat), AVal.int IntKind.i64 best), ((10 : Nat), AVal.int IntKind.i64 most), ((11 : Nat), AVal.int IntKind.i64 (IntKind.i64.wrap ((↑i : Int) + (2 : Int))))] []) else bif decide (best < (0 : Int)) then L f n (mkS (58 : Nat) [((0 : Nat), AVal.ro (Cont.ints IntKind.i64 xs) m (1 : Nat)), ((1 : Nat), AVal.int IntKind.i64 x), ((2 : Nat), AVal.int IntKind.i64 y), ((3 : Nat), AVal.bool false), ((9 : Nat), AVal.int IntKind.i64 (IntKind.i64.wrap ((↑i : Int).tdiv (2 : Int)))), ((10 : Nat), AVal.int IntKind.i64 (IntKind.i64.wrap (IntKind.i64.wrap (gz xs (↑i : Int).toNat - x) * IntKind.i64.wrap (gz xs (IntKind.i64.wrap ((↑i : Int) + (1 : Int))).toNat - y)))), ((11 : Nat), AVal.int IntKind.i64 (IntKind.i64.wrap ((↑i : Int) + (2 : Int))))] []) else bif decide (most < IntKind.i64.wrap (IntKind.i64.wrap (gz xs (↑i : Int).toNat - x) * IntKind.i64.wrap (gz xs (IntKind.i64.wrap ((↑i : Int) + (1 : Int))).toNat - y))) then L f n (mkS (58 : Nat) [((0 : Nat), AVal.ro (Cont.ints IntKind.i64 xs) m (1 : Nat)), ((1 : Nat), AVal.int IntKind.i64 x), ((2 : Nat), AVal.int IntKind.i64 y), ((3 : Nat), AVal.bool false), ((9 : Nat), AVal.int IntKind.i64 (IntKind.i64.wrap ((↑i : Int).tdiv (2 : Int)))), ((10 : Nat), AVal.int IntKind.i64 (IntKind.i64.wrap (IntKind.i64.wrap (gz xs (↑i : Int).toNat - x) * IntKind.i64.wrap (gz xs (IntKind.i64.wrap ((↑i : Int) + (1 : Int))).toNat - y)))), ((11 : Nat), AVal.int IntKind.i64 (IntKind.i64.wrap ((↑i : Int) + (2 : Int))))] []) else L f n (mkS (58 : Nat) [((0 : Nat), AVal.ro (Cont.ints IntKind.i64 xs) m (1 : Nat)), ((1 : Nat), AVal.int IntKind.i64 x), ((2 : Nat), AVal.int IntKind.i64 y), ((3 : Nat), AVal.bool false), ((9 : Nat), AVal.int IntKind.i64 best), ((10 : Nat), AVal.int IntKind.i64 most), ((11 : Nat), AVal.int IntKind.i64 (IntKind.i64.wrap ((↑i : Int) + (2 : Int))))] []) else none else none else none else none else some (AVal.int IntKind.i64 best, [])) := by kernel_rfl
theorem loop (xs : List Int) (m : Nat) (x y : Int) (f : Nat) (hx : m ≤ xs.length) (hb : m ≤ 1048576) (hv : ∀ v ∈ xs.take m, 0 ≤ v ∧ v ≤ 1000) (hx0 : 0 ≤ x ∧ x ≤ 1000) (hy0 : 0 ≤ y ∧ y ≤ 1000) : ∀ (d j n : Nat) (best most : Int), 2 * j + 2 * d = m → d < n →
    L f n (mkS 58 [(0, .ro (.ints .i64 xs) m 1), (1, .int .i64 x), (2, .int .i64 y), (3, .bool false), (9, .int .i64 best), (10, .int .i64 most), (11, .int .i64 ((2 * j : Nat) : Int))] []) = some (.int .i64 (point.scan point.gmul.sv x y ((xs.take m).drop (2 * j)) j best most), []) := by
  intro d
  induction d with
  | zero =>
    intro j n best most hj hn
    obtain ⟨n, rfl⟩ : ∃ k, n = k + 1 := ⟨n - 1, by omega⟩
    rw [round]
    have c : ¬ (((2 * j : Nat) : Int) < (m : Int)) := by omega
    have e : (xs.take m).drop (2 * j) = [] := List.drop_of_length_le (by simp; omega)
    simp only [c, decide_false, cond_false, e, point.scan]
  | succ d ih =>
    intro j n best most hj hn
    obtain ⟨n, rfl⟩ : ∃ k, n = k + 1 := ⟨n - 1, by omega⟩
    have i1 : 2 * j < m := by omega
    have i2 : 2 * j + 1 < m := by omega
    have l1 : 2 * j < xs.length := by omega
    have l2 : 2 * j + 1 < xs.length := by omega
    have c : ((2 * j : Nat) : Int) < (m : Int) := by omega
    have c0 : (0 : Int) ≤ ((2 * j : Nat) : Int) := Int.natCast_nonneg _
    have c1 : IntKind.i64.wrap (((2 * j : Nat) : Int) + 1) = ((2 * j + 1 : Nat) : Int) := by rw [IntWalk.i64_in _ (by omega)]; omega
    have c2 : ((2 * j + 1 : Nat) : Int) < (m : Int) := by omega
    have c3 : (0 : Int) ≤ ((2 * j + 1 : Nat) : Int) := Int.natCast_nonneg _
    have c4 : IntKind.i64.wrap (((2 * j : Nat) : Int) + 2) = ((2 * (j + 1) : Nat) : Int) := by rw [IntWalk.i64_in _ (by omega)]; omega
    have c5 : IntKind.i64.wrap ((((2 * j : Nat) : Int)).tdiv 2) = (j : Int) := by
      have : ((2 * j : Nat) : Int) = 2 * (j : Int) := by omega
      rw [this, Int.mul_tdiv_cancel_left _ (by decide)]; exact IntWalk.i64_in _ (by omega)
    have va := hv xs[2 * j] (List.mem_take_iff_getElem.2 ⟨2 * j, by omega, rfl⟩)
    have vb := hv xs[2 * j + 1] (List.mem_take_iff_getElem.2 ⟨2 * j + 1, by omega, rfl⟩)
    have w1 : IntKind.i64.wrap (xs[2 * j] - x) = xs[2 * j] - x := IntWalk.i64_in _ (by omega)
    have w2 : IntKind.i64.wrap (xs[2 * j + 1] - y) = xs[2 * j + 1] - y := IntWalk.i64_in _ (by omega)
    have ej : ((j + 1 : Nat) : Int) = (j : Int) + 1 := by omega
    rw [round, c1, c4, c5, Int.toNat_natCast, Int.toNat_natCast, gz_eq l1, gz_eq l2, w1, w2, drop_take_cons hx i1, drop_take_cons hx i2]
    have hr := fun b' m' => ih (j + 1) n b' m' (by omega) (by omega)
    have e2 : 2 * (j + 1) = 2 * j + 1 + 1 := by omega
    rw [ej, e2] at hr
    rw [e2]
    simp only [c, c0, c2, c3, l1, l2, decide_true, Bool.and_self, Bool.or_self, Bool.and_true, Bool.true_and, cond_true, point.scan]
    generalize xs[2 * j] - x = p
    generalize xs[2 * j + 1] - y = q
    have hg : IntKind.i64.wrap (p * q) = point.gmul.sv p q := rfl
    rw [hg]
    cases decide (p < 0)
    · cases decide (q < 0)
      · simp only [cond_false, Bool.or_self]
        cases decide (best < 0)
        · simp only [cond_false, Bool.false_or]
          cases decide (most < point.gmul.sv p q)
          · exact hr _ _
          · exact hr _ _
        · exact hr _ _
      · exact hr _ _
    · exact hr _ _
theorem run : ∀ args v new, R args = some (true, v, new) → ∃ fuel, runFn Try.prog (orc [⟨87, l00Min.R⟩]) hd Dr.std none fuel (bodyOf Try.f72) 58 [8] args [] = some (v, new) := by
  intro args v new h
  unfold R at h
  split at h
  · rename_i xs m x y
    simp only [Option.some.injEq, Prod.mk.injEq, Bool.and_eq_true, decide_eq_true_eq] at h
    obtain ⟨⟨⟨h1, h2⟩, hv⟩, rfl, rfl⟩ := h
    have hlen : (xs.take m).length = m := by simp; omega
    obtain ⟨⟨v1, v2, v3⟩, v4, v5, v6⟩ := point.valid hv
    rw [hlen] at v1 v2 v3
    refine ⟨m + 1, ?_⟩
    rw [start]
    have hl := loop xs m x y (m + 1) h1 (by omega) v4 v5 v6 (m / 2) 0 (m + 1) (-1) 0 (by omega) (by omega)
    simpa using hl
  · cases h
theorem ok : EntOk Try.prog ⟨72, R⟩ :=
  ent_okA mixed (A := (orc [⟨87, l00Min.R⟩])) (orc_ok (by simp only [List.mem_cons, List.not_mem_nil, or_false, forall_eq_or_imp, forall_eq]; exact l00Min.ok)) Try.func72 (by kernel_rfl) (by kernel_rfl) (n := 58) (ts := [8]) (hd := hd) (dr := Dr.std) (cut := none) (by kernel_rfl) (by kernel_rfl) (by kernel_rfl) run
end l07BestF

namespace sLeastPointt
def R : List AVal → Option (Bool × AVal × List Blk)
  | [.ro (.ints .i64 xs) m 1, .int .i64 x, .int .i64 y] => some (decide (m ≤ xs.length ∧ m ≤ 4611686018427387904) && point.sp (xs.take m) x y, .tup [.int .i64 (point.least.sw (xs.take m) x y), .bool (point.sq (xs.take m) x y)], [])
  | _ => none
theorem go (xs : List Int) (m : Nat) (x y : Int) :
  runFn Try.prog (orc [⟨71, l07Bargain.R⟩, ⟨72, l07BestT.R⟩]) hd0 Dr.std none 0 (bodyOf Try.f38) 21 [6, 7] [.ro (.ints .i64 xs) m 1, .int .i64 x, .int .i64 y] []
  = (bif decide (m ≤ xs.length ∧ m ≤ (4611686018427387904 : Nat)) && (true && (true && (true && true)) || true && true) then bif !point.sp (List.take m xs) x y then some (AVal.tup [AVal.int IntKind.i64 (0 : Int), AVal.bool false], []) else bif decide (m ≤ xs.length ∧ m ≤ (4611686018427387904 : Nat)) && point.sp (List.take m xs) x y && (true && (true && (true && true)) || true && true) then bif decide (point.scan point.gmin.sv x y (List.take m xs) (0 : Int) (-1 : Int) (0 : Int) < (0 : Int)) then some (AVal.tup [AVal.int IntKind.i64 (0 : Int), AVal.bool false], []) else some (AVal.tup [AVal.int IntKind.i64 (point.scan point.gmin.sv x y (List.take m xs) (0 : Int) (-1 : Int) (0 : Int)), AVal.bool true], []) else none else none) := by kernel_rfl
theorem run : ∀ args v new, R args = some (true, v, new) → ∃ fuel, runFn Try.prog (orc [⟨71, l07Bargain.R⟩, ⟨72, l07BestT.R⟩]) hd0 Dr.std none fuel (bodyOf Try.f38) 21 [6, 7] args [] = some (v, new) := by
  intro args v new h
  unfold R at h
  split at h
  · rename_i xs m x y
    simp only [Option.some.injEq, Prod.mk.injEq, Bool.and_eq_true, decide_eq_true_eq] at h
    obtain ⟨⟨⟨h1, h2⟩, hv⟩, rfl, rfl⟩ := h
    refine ⟨0, ?_⟩
    rw [go]
    have hlen : (xs.take m).length = m := by simp; omega
    simp only [h1, h2, hv, and_self, decide_true, Bool.and_self, Bool.or_self, Bool.and_true, Bool.or_true, cond_true, Bool.not_true, cond_false, point.least.sw, point.best, point.sq, Bool.true_and]
    obtain ⟨n1, n2, n3⟩ := point.scan_neg point.gmin.sv x y (xs.take m) 0 (-1) 0
    have z : ((0 : Nat) : Int) = 0 := rfl
    rw [z] at n2 n3
    by_cases hp : point.pick x y (xs.take m) 0 = []
    · have : (point.sv (xs.take m) x y).length = 0 := by unfold point.sv; rw [hp]; rfl
      rw [this, n3 hp]
      rfl
    · have : 0 < (point.sv (xs.take m) x y).length := by unfold point.sv; exact List.length_pos_iff.2 hp
      have n4 := n2 (by decide) hp
      have c : ¬ point.scan point.gmin.sv x y (xs.take m) 0 (-1) 0 < 0 := by omega
      simp [this, c]
  · cases h
theorem ok : EntOk Try.prog ⟨38, R⟩ :=
  ent_okA mixed (A := (orc [⟨71, l07Bargain.R⟩, ⟨72, l07BestT.R⟩])) (orc_ok (by simp only [List.mem_cons, List.not_mem_nil, or_false, forall_eq_or_imp, forall_eq]; exact ⟨l07Bargain.ok, l07BestT.ok⟩)) Try.func38 (by kernel_rfl) (by kernel_rfl) (n := 21) (ts := [6, 7]) (hd := hd0) (dr := Dr.std) (cut := none) (by kernel_rfl) (by kernel_rfl) (by kernel_rfl) run
end sLeastPointt

namespace sProductPointt
def R : List AVal → Option (Bool × AVal × List Blk)
  | [.ro (.ints .i64 xs) m 1, .int .i64 x, .int .i64 y] => some (decide (m ≤ xs.length ∧ m ≤ 4611686018427387904) && point.sp (xs.take m) x y, .tup [.int .i64 (point.prod.sw (xs.take m) x y), .bool (point.sq (xs.take m) x y)], [])
  | _ => none
theorem go (xs : List Int) (m : Nat) (x y : Int) :
  runFn Try.prog (orc [⟨71, l07Bargain.R⟩, ⟨72, l07BestF.R⟩]) hd0 Dr.std none 0 (bodyOf Try.f40) 21 [6, 7] [.ro (.ints .i64 xs) m 1, .int .i64 x, .int .i64 y] []
  = (bif decide (m ≤ xs.length ∧ m ≤ (4611686018427387904 : Nat)) && (true && (true && (true && true)) || true && true) then bif !point.sp (List.take m xs) x y then some (AVal.tup [AVal.int IntKind.i64 (0 : Int), AVal.bool false], []) else bif decide (m ≤ xs.length ∧ m ≤ (4611686018427387904 : Nat)) && point.sp (List.take m xs) x y && (true && (true && (true && true)) || true && true) then bif decide (point.scan point.gmul.sv x y (List.take m xs) (0 : Int) (-1 : Int) (0 : Int) < (0 : Int)) then some (AVal.tup [AVal.int IntKind.i64 (0 : Int), AVal.bool false], []) else some (AVal.tup [AVal.int IntKind.i64 (point.scan point.gmul.sv x y (List.take m xs) (0 : Int) (-1 : Int) (0 : Int)), AVal.bool true], []) else none else none) := by kernel_rfl
theorem run : ∀ args v new, R args = some (true, v, new) → ∃ fuel, runFn Try.prog (orc [⟨71, l07Bargain.R⟩, ⟨72, l07BestF.R⟩]) hd0 Dr.std none fuel (bodyOf Try.f40) 21 [6, 7] args [] = some (v, new) := by
  intro args v new h
  unfold R at h
  split at h
  · rename_i xs m x y
    simp only [Option.some.injEq, Prod.mk.injEq, Bool.and_eq_true, decide_eq_true_eq] at h
    obtain ⟨⟨⟨h1, h2⟩, hv⟩, rfl, rfl⟩ := h
    refine ⟨0, ?_⟩
    rw [go]
    have hlen : (xs.take m).length = m := by simp; omega
    simp only [h1, h2, hv, and_self, decide_true, Bool.and_self, Bool.or_self, Bool.and_true, Bool.or_true, cond_true, Bool.not_true, cond_false, point.prod.sw, point.best, point.sq, Bool.true_and]
    obtain ⟨n1, n2, n3⟩ := point.scan_neg point.gmul.sv x y (xs.take m) 0 (-1) 0
    have z : ((0 : Nat) : Int) = 0 := rfl
    rw [z] at n2 n3
    by_cases hp : point.pick x y (xs.take m) 0 = []
    · have : (point.sv (xs.take m) x y).length = 0 := by unfold point.sv; rw [hp]; rfl
      rw [this, n3 hp]
      rfl
    · have : 0 < (point.sv (xs.take m) x y).length := by unfold point.sv; exact List.length_pos_iff.2 hp
      have n4 := n2 (by decide) hp
      have c : ¬ point.scan point.gmul.sv x y (xs.take m) 0 (-1) 0 < 0 := by omega
      simp [this, c]
  · cases h
theorem ok : EntOk Try.prog ⟨40, R⟩ :=
  ent_okA mixed (A := (orc [⟨71, l07Bargain.R⟩, ⟨72, l07BestF.R⟩])) (orc_ok (by simp only [List.mem_cons, List.not_mem_nil, or_false, forall_eq_or_imp, forall_eq]; exact ⟨l07Bargain.ok, l07BestF.ok⟩)) Try.func40 (by kernel_rfl) (by kernel_rfl) (n := 21) (ts := [6, 7]) (hd := hd0) (dr := Dr.std) (cut := none) (by kernel_rfl) (by kernel_rfl) (by kernel_rfl) run
end sProductPointt

end Go.Proofs.Ytmaegbgkpjbohaa.Ab
