/-
  Functions: houses in turns.
-/
import Derived.Test.YtkoongajnnaeoaaFnHB
namespace Go.Proofs.Ytkoongajnnaeoaa.Ab
open Go
set_option linter.unusedVariables false
set_option linter.unusedSimpArgs false
set_option maxRecDepth 100000

namespace hse
/-- An order of all. -/
def odr.sp (os : List Int) : Bool := (os.all fun x => decide (0 ≤ x) && decide (x < (os.length : Int))) && decide os.Nodup
theorem odr_uniq {os : List Int} (h : odr.sp os = true) : uniq.sq (os.length : Int) [] os = true := by
  simp only [odr.sp, Bool.and_eq_true, decide_eq_true_eq, List.all_eq_true] at h
  exact uniq_ok h.1 h.2 (fun x _ => by simp)
theorem odr_in {os : List Int} (h : odr.sp os = true) : (∀ x ∈ os, 0 ≤ x ∧ x < (os.length : Int)) ∧ os.Nodup := by
  simp only [odr.sp, Bool.and_eq_true, decide_eq_true_eq, List.all_eq_true] at h
  exact h
/-- Who is left, and who has what, behind some turns. -/
def tl (W : List (List Int)) (os : List Int) (n : Nat) : Nat → List Bool
  | 0 => List.replicate n true
  | k + 1 => (tl W os n k).set (ds.sv (gr W (gz os k).toNat) (tl W os n k)).toNat false
def to (W : List (List Int)) (os z : List Int) (n : Nat) : Nat → List Int
  | 0 => z
  | k + 1 => (to W os z n k).set (gz os k).toNat (ds.sv (gr W (gz os k).toNat) (tl W os n k))
def tr.sv (W : List (List Int)) (os : List Int) : List Int := to W os (List.replicate W.length (-1)) W.length W.length
theorem tl_length (W : List (List Int)) (os : List Int) (n : Nat) : ∀ k, (tl W os n k).length = n
  | 0 => by simp [tl]
  | k + 1 => by rw [tl, List.length_set, tl_length W os n k]
theorem to_length (W : List (List Int)) (os z : List Int) (n : Nat) : ∀ k, (to W os z n k).length = z.length
  | 0 => rfl
  | k + 1 => by rw [to, List.length_set, to_length W os z n k]
def cb (l : List Bool) : Nat → Nat
  | 0 => 0
  | k + 1 => cb l k + (if gb l k = true then 1 else 0)
theorem gb_set {l : List Bool} {i j : Nat} {x : Bool} (h : i < l.length) : gb (l.set i x) j = if i = j then x else gb l j := by
  by_cases hj : j < l.length
  · rw [isAll.gb_eq (by simpa using hj), isAll.gb_eq hj, List.getElem_set]
  · have e1 : gb (l.set i x) j = false := by unfold gb; rw [List.getD_eq_getElem?_getD, List.getElem?_eq_none (by simp; omega)]; rfl
    have e2 : gb l j = false := by unfold gb; rw [List.getD_eq_getElem?_getD, List.getElem?_eq_none (by omega)]; rfl
    rw [e1, e2, if_neg (by omega)]
theorem cb_set {l : List Bool} {b : Nat} (hb : b < l.length) (h : gb l b = true) : ∀ n, cb (l.set b false) n + (if b < n then 1 else 0) = cb l n := by
  intro n
  induction n with
  | zero => simp [cb]
  | succ n ih =>
    simp only [cb, gb_set hb]
    by_cases e : b = n
    · subst e
      rw [if_pos rfl, if_pos (show b < b + 1 by omega), if_pos h]
      rw [if_neg (show ¬ b < b by omega)] at ih
      simp only [Bool.false_eq_true, if_false]
      omega
    · rw [if_neg e]
      by_cases c : b < n
      · rw [if_pos c] at ih
        rw [if_pos (show b < n + 1 by omega)]
        omega
      · rw [if_neg c] at ih
        rw [if_neg (show ¬ b < n + 1 by omega)]
        omega
theorem cb_pos {l : List Bool} : ∀ n, 0 < cb l n → ∃ i, i < n ∧ gb l i = true := by
  intro n
  induction n with
  | zero => intro h; simp [cb] at h
  | succ n ih =>
    intro h
    simp only [cb] at h
    by_cases c : gb l n = true
    · exact ⟨n, by omega, c⟩
    · rw [if_neg c] at h
      obtain ⟨i, a, b⟩ := ih (by omega)
      exact ⟨i, by omega, b⟩
theorem cb_all : ∀ m n, m ≤ n → cb (List.replicate n true) m = m := by
  intro m
  induction m with
  | zero => intro n _; rfl
  | succ m ih =>
    intro n h
    have : gb (List.replicate n true) m = true := by rw [isAll.gb_eq (by rw [List.length_replicate]; omega)]; simp
    simp only [cb, ih n (by omega), this, if_true]
/-- The first that is left: where it is. -/
theorem ds_ok {W : List (List Int)} {n : Nat} (v : V W n) {i : Nat} (hi : i < n) {ls : List Bool} {j : Nat} (hj : j < n) (hjb : gb ls j = true) : ∃ k, k < n ∧ ds.sv (gr W i) ls = gz (gr W i) k ∧ gb ls (gz (gr W i) k).toNat = true ∧ ∀ m, m < k → gb ls (gz (gr W i) m).toNat = false := by
  obtain ⟨k0, hk0, e0⟩ := v.has hi (x := (j : Int)) ⟨by omega, by omega⟩
  rcases fidx_p (0 : Int) (fun h : Int => gb ls h.toNat) (gr W i) 0 with ⟨h, h2⟩ | ⟨k, h, h2, h3, h4⟩
  · exfalso
    have := h2 _ (gz_mem (l := gr W i) (j := k0) (by rw [v.rl i hi]; exact hk0))
    rw [e0, Int.toNat_natCast, hjb] at this
    cases this
  · rw [v.rl i hi] at h2
    refine ⟨k, h2, ?_, h3, h4⟩
    unfold ds.sv
    rw [h, Int.toNat_natCast, Nat.zero_add]
theorem tl_cnt {W : List (List Int)} {n : Nat} (v : V W n) {os : List Int} (ho : ∀ x ∈ os, 0 ≤ x ∧ x < (n : Int)) (hl : os.length = n) : ∀ k, k ≤ n → cb (tl W os n k) n + k = n := by
  intro k
  induction k with
  | zero => intro _; rw [tl, cb_all n n (Nat.le_refl _)]; rfl
  | succ k ih =>
    intro hk
    have a := ih (by omega)
    obtain ⟨j, hj, hjb⟩ := cb_pos (l := tl W os n k) n (by omega)
    have ho2 := ho _ (gz_mem (l := os) (j := k) (by omega))
    obtain ⟨m, hm, e, hb, _⟩ := ds_ok v (i := (gz os k).toNat) (by omega) hj hjb
    have hx := v.get (i := (gz os k).toNat) (k := m) (by omega) hm
    have g := cb_set (l := tl W os n k) (b := (gz (gr W (gz os k).toNat) m).toNat) (by rw [tl_length]; omega) hb n
    rw [if_pos (show (gz (gr W (gz os k).toNat) m).toNat < n by omega)] at g
    rw [tl, e]
    omega
theorem tl_some {W : List (List Int)} {n : Nat} (v : V W n) {os : List Int} (ho : ∀ x ∈ os, 0 ≤ x ∧ x < (n : Int)) (hl : os.length = n) {k : Nat} (hk : k < n) : ∃ j, j < n ∧ gb (tl W os n k) j = true := by
  have := tl_cnt v ho hl k (by omega)
  exact cb_pos n (by omega)
theorem to_same {W : List (List Int)} {os z z' : List Int} {n : Nat} (hz : z.length = n) (hz' : z'.length = n) (ho : ∀ x ∈ os, 0 ≤ x ∧ x < (n : Int)) : ∀ k, k ≤ os.length → ∀ i : Nat, (∃ j, j < k ∧ gz os j = i) → gz (to W os z n k) i = gz (to W os z' n k) i := by
  intro k
  induction k with
  | zero => intro _ i ⟨j, h, _⟩; omega
  | succ k ih =>
    intro hk i ⟨j, hj, e⟩
    have h0 := ho _ (gz_mem (l := os) (j := k) (by omega))
    rw [to, to, gz_set (by rw [to_length]; omega), gz_set (by rw [to_length]; omega)]
    by_cases c : (gz os k).toNat = i
    · rw [if_pos c, if_pos c]
    · rw [if_neg c, if_neg c]
      refine ih (by omega) i ⟨j, ?_, e⟩
      by_cases d : j = k
      · rw [d] at e; omega
      · omega
theorem to_all {W : List (List Int)} {os z z' : List Int} {n : Nat} (hz : z.length = n) (hz' : z'.length = n) (hl : os.length = n) (ho : ∀ x ∈ os, 0 ≤ x ∧ x < (n : Int)) (hd : os.Nodup) : to W os z n n = to W os z' n n := by
  refine List.ext_getElem (by rw [to_length, to_length, hz, hz']) fun i h1 h2 => ?_
  rw [to_length, hz] at h1
  have hm := all_in hl ho hd (x := (i : Int)) ⟨by omega, by omega⟩
  obtain ⟨j, hj, e⟩ := List.getElem_of_mem hm
  have := to_same (W := W) hz hz' ho n (by omega) i ⟨j, by omega, by rw [gz_eq hj]; exact e⟩
  rw [gz_eq (by rw [to_length, hz]; exact h1), gz_eq (by rw [to_length, hz']; exact h1)] at this
  exact this
theorem to_first {W : List (List Int)} {n : Nat} (v : V W n) {os z : List Int} (hz : z.length = n) (hl : os.length = n) (ho : ∀ x ∈ os, 0 ≤ x ∧ x < (n : Int)) (hd : os.Nodup) : ∀ k, k < n → gz (to W os z n (k + 1)) (gz os 0).toNat = gz (gr W (gz os 0).toNat) 0 := by
  have h1 := v.h1
  have h0 := ho _ (gz_mem (l := os) (j := 0) (by omega))
  intro k
  induction k with
  | zero =>
    intro _
    obtain ⟨m, hm, e, hb, hbef⟩ := ds_ok v (i := (gz os 0).toNat) (by omega) (ls := tl W os n 0) (j := 0) (by omega) (by rw [tl, isAll.gb_eq (by simp; omega)]; simp)
    have : m = 0 := by
      by_cases c : m = 0
      · exact c
      · exfalso
        have := hbef 0 (by omega)
        have hx := v.get (i := (gz os 0).toNat) (k := 0) (by omega) (by omega)
        rw [tl, isAll.gb_eq (by simp; omega)] at this
        simp at this
    rw [this] at e
    rw [to, gz_set (by rw [to_length]; omega), if_pos rfl, e]
  | succ k ih =>
    intro hk
    have h2 := ho _ (gz_mem (l := os) (j := k + 1) (by omega))
    rw [to, gz_set (by rw [to_length]; omega), if_neg]
    · exact ih (by omega)
    · intro e
      have := nd_get hd (a := k + 1) (b := 0) (by omega) (by omega) (by omega)
      omega
theorem tr_length (W : List (List Int)) (os : List Int) : (tr.sv W os).length = W.length := by
  unfold tr.sv
  rw [to_length]; simp
def tk.sv (ls : List Bool) : List Bool := ls.map fun b => !b
theorem tk_get {ls : List Bool} {i : Nat} (h : i < ls.length) : gb (tk.sv ls) i = !gb ls i := by
  rw [isAll.gb_eq (by simpa [tk.sv] using h), isAll.gb_eq h]; simp [tk.sv]
theorem tk_set (ls : List Bool) (i : Nat) : (tk.sv ls).set i true = tk.sv (ls.set i false) := by
  unfold tk.sv
  rw [List.map_set]; rfl
end hse

namespace l05Order
def dr : Nat → Dr := Dr.std
def R : List AVal → Option (Bool × AVal × List Blk)
  | [.ro (.ints .i64 xs) m 1, .int .i64 v] => some (decide (m ≤ xs.length ∧ m ≤ 4611686018427387904 ∧ 0 ≤ v ∧ v ≤ 4611686018427387904), .bool (order.sp v (xs.take m)), [])
  | _ => none
def hd : Nat → Head := fun _ => ⟨[0, 1, 4, 7, 8], none⟩
noncomputable def L (f n : Nat) (s : State) := loopAt Try.prog (orc [⟨88, l00In.R⟩, ⟨149, l00Has.R⟩]) hd dr 0 f (bodyOf Try.f103) 0 [true, false, true] (retK Try.prog [4] 0 none) n s
theorem start (xs : List Int) (m : Nat) (v : Int) (f : Nat) :
  runFn Try.prog (orc [⟨88, l00In.R⟩, ⟨149, l00Has.R⟩]) hd dr none f (bodyOf Try.f103) 34 [4] [.ro (.ints .i64 xs) m 1, .int .i64 v] []
  = (L f f (mkS (34 : Nat) [((0 : Nat), AVal.ro (Cont.ints IntKind.i64 xs) m (1 : Nat)), ((1 : Nat), AVal.int IntKind.i64 v), ((4 : Nat), AVal.bool false), ((7 : Nat), AVal.int IntKind.i64 (↑m : Int)), ((8 : Nat), AVal.int IntKind.i64 (0 : Int))] [])) := by kernel_rfl
theorem round (xs : List Int) (m i : Nat) (v : Int) (f n : Nat) :
  L f (n + 1) (mkS 34 [(0, .ro (.ints .i64 xs) m 1), (1, .int .i64 v), (4, .bool false), (7, .int .i64 m), (8, .int .i64 i)] [])
  = (bif decide ((↑i : Int) < (↑m : Int)) then bif true && (decide ((0 : Int) ≤ (↑i : Int)) && decide ((↑i : Int) < (↑m : Int))) then bif decide ((↑i : Int).toNat < xs.length) then bif true && (true && (true && (true && true)) || true && true) then bif !(decide ((0 : Int) ≤ gz xs (↑i : Int).toNat) && decide (gz xs (↑i : Int).toNat ≤ IntKind.i64.wrap (v - (1 : Int)))) then some (AVal.bool false, []) else bif true && (decide ((0 : Int) ≤ (↑i : Int)) && decide ((↑i : Int) ≤ (↑m : Int)) && true) then bif true && (decide ((0 : Int) ≤ (↑i : Int)) && decide ((↑i : Int) < (↑m : Int))) then bif decide ((↑i : Int).toNat < xs.length) then bif decide ((↑i : Int).toNat - (0 : Nat) ≤ (List.take ((↑i : Int).toNat - (0 : Nat)) (List.drop (nat_lit 0) xs)).length ∧ (↑i : Int).toNat - (0 : Nat) ≤ (4611686018427387904 : Nat)) && (true && (true && true) || true && true) then bif (List.take ((↑i : Int).toNat - (0 : Nat)) (List.take ((↑i : Int).toNat - (0 : Nat)) (List.drop (0 : Nat) xs))).any (has.sp (gz xs (↑i : Int).toNat)) then some (AVal.bool false, []) else L f n (mkS (34 : Nat) [((0 : Nat), AVal.ro (Cont.ints IntKind.i64 xs) m (1 : Nat)), ((1 : Nat), AVal.int IntKind.i64 v), ((4 : Nat), AVal.bool false), ((7 : Nat), AVal.int IntKind.i64 (↑m : Int)), ((8 : Nat), AVal.int IntKind.i64 (IntKind.i64.wrap ((↑i : Int) + (1 : Int))))] []) else none else none else none else none else none else none else none else some (AVal.bool ((↑m : Int) == v), [])) := by kernel_rfl
theorem loop (xs : List Int) (m : Nat) (v : Int) (f : Nat) (hx : m ≤ xs.length) (hb : m ≤ 4611686018427387904) (hv : 0 ≤ v) (hv2 : v ≤ 4611686018427387904) : ∀ (d i n : Nat) , i + d = m → d < n →
    L f n (mkS 34 [(0, .ro (.ints .i64 xs) m 1), (1, .int .i64 v), (4, .bool false), (7, .int .i64 m), (8, .int .i64 i)] []) = some (.bool (uniq.sq v (xs.take i) ((xs.take m).drop i) && decide ((m : Int) = v)), []) := by
  intro d
  induction d with
  | zero =>
    intro i n  hi hn 
    obtain ⟨n, rfl⟩ : ∃ k, n = k + 1 := ⟨n - 1, by omega⟩
    obtain rfl : i = m := by omega
    rw [round]
    have e : (xs.take i).drop i = [] := by simp
    have e2 : (((i : Nat) : Int) == v) = decide ((i : Int) = v) := rfl
    rw [e]
    simp [uniq.sq, e2]
  | succ d ih =>
    intro i n  hi hn 
    obtain ⟨n, rfl⟩ : ∃ k, n = k + 1 := ⟨n - 1, by omega⟩
    have h1 : i < m := by omega
    have h4 : (0 : Int) ≤ (i : Int) := Int.natCast_nonneg _
    have h5 : (i : Int) < (m : Int) := by omega
    have h2 : i < xs.length := by omega
    rw [round]
    rw [drop_take_cons hx h1]
    have hr := ih (i + 1) n (by omega) (by omega)
    simp only [uniq.sq]
    rw [take_snoc h2]
    have w : IntKind.i64.wrap (v - 1) = v - 1 := IntWalk.i64_in _ (by omega)
    have hi : i ≤ 4611686018427387904 := by omega
    have hi2 : i ≤ xs.length := by omega
    have hi3 : (i : Int) ≤ (m : Int) := by omega
    simp only [h4, h5, h2, w, hi, hi2, hi3, gz_eq h2, List.drop_zero, Nat.mul_one, Nat.zero_mul, Nat.sub_zero, List.length_take, Nat.min_eq_left hi2, Nat.le_refl, List.take_take, Nat.min_self, and_self, decide_true, Bool.and_self, Bool.or_self, Bool.and_true, Bool.true_and, Bool.or_true, cond_true, Int.toNat_natCast, wrap_nat i (by omega)]
    generalize uniq.sq v (xs.take (i + 1)) ((xs.take m).drop (i + 1)) = rest at hr ⊢
    generalize (xs.take i).any (has.sp xs[i]) = b2
    generalize (decide (0 ≤ xs[i]) && decide (xs[i] ≤ v - 1)) = b1
    cases b1
    · simp
    · cases b2
      · simpa using hr
      · simp
theorem run : ∀ args v new, R args = some (true, v, new) → ∃ fuel, runFn Try.prog (orc [⟨88, l00In.R⟩, ⟨149, l00Has.R⟩]) hd dr none fuel (bodyOf Try.f103) 34 [4] args [] = some (v, new) := by
  intro args v new h
  unfold R at h
  split at h
  · rename_i xs m v
    simp only [Option.some.injEq, Prod.mk.injEq, decide_eq_true_eq] at h
    obtain ⟨⟨h1, h2, h3, h4⟩, rfl, rfl⟩ := h
    have e1 : (xs.take m).length = m := by simp; omega
    refine ⟨m + 1, ?_⟩
    rw [start]
    have hl := loop xs m v (m + 1) h1 h2 h3 h4 m 0 (m + 1) (by omega) (by omega)
    unfold order.sp
    rw [e1]
    simpa using hl
  · cases h
theorem ok : EntOk Try.prog ⟨103, R⟩ :=
  ent_okA mixed (A := (orc [⟨88, l00In.R⟩, ⟨149, l00Has.R⟩])) (orc_ok (by simp only [List.mem_cons, List.not_mem_nil, or_false, forall_eq_or_imp, forall_eq]; exact ⟨l00In.ok, l00Has.ok⟩)) Try.func103 (by kernel_rfl) (by kernel_rfl) (n := 34) (ts := [4]) (hd := hd) (dr := dr) (cut := none) (by kernel_rfl) (by kernel_rfl) (by kernel_rfl) run
end l05Order

namespace iHouseTurns
def R : List AVal → Option (Bool × AVal × List Blk)
  | [.ro (.rows .i64 W) m 1, .ro (.ints .i64 os) k 1] => some (decide (m = W.length ∧ k = os.length ∧ os.length = W.length) && (hse.sp W && hse.odr.sp os), .tup [.own 0 0 m 0 1, .bool true], [⟨.typ (.ints .i64 (hse.tr.sv W os)), 0⟩])
  | _ => none
def hd : Nat → Head := fun _ => ⟨[998, 0, 6, 7, 32, 33, 34], none⟩
noncomputable def L (f n : Nat) (s : State) := loopAt Try.prog (orc [⟨94, areHouses.R⟩, ⟨102, isAll.R⟩, ⟨95, iNone.R⟩, ⟨96, slRepeatB.R⟩, ⟨99, dearest.R⟩]) hd Dr.std 0 f (bodyOf Try.f42) 0 [true, true, true, true, false, true] (retK Try.prog [4, 5] 0 none) n s
theorem start (W : List (List Int)) (os : List Int) (f : Nat) :
  runFn Try.prog (orc [⟨94, areHouses.R⟩, ⟨102, isAll.R⟩, ⟨95, iNone.R⟩, ⟨96, slRepeatB.R⟩, ⟨99, dearest.R⟩]) hd Dr.std none f (bodyOf Try.f42) 55 [4, 5] [.ro (.rows .i64 W) W.length 1, .ro (.ints .i64 os) os.length 1] []
  = (bif decide (W.length = W.length) && hse.sp W && (true && true || true && true) then bif (↑os.length : Int) != (↑W.length : Int) then some (AVal.tup [AVal.nils, AVal.bool false], []) else bif decide (os.length ≤ os.length ∧ os.length ≤ (1000000000 : Nat)) && (true && true || true && true) then bif !uniq.sq (↑os.length : Int) [] (List.take os.length os) then some (AVal.tup [AVal.nils, AVal.bool false], []) else bif decide ((1 : Int) ≤ (↑W.length : Int) ∧ (↑W.length : Int) ≤ (8 : Int)) && (true && true || true && (true && true)) then bif decide ((1 : Nat) = (1 : Nat) ∧ ((List.replicate (1 : Nat) false).set (0 : Nat) true).length = (1 : Nat) ∧ (1 : Int) ≤ (↑W.length : Int) ∧ (↑W.length : Int) ≤ (8 : Int)) && (false && (true && true) || true && (true && true)) then L f f (mkS (55 : Nat) [((0 : Nat), AVal.ro (Cont.rows IntKind.i64 W) W.length (1 : Nat)), ((6 : Nat), AVal.own (0 : Nat) (0 : Nat) (↑W.length : Int).toNat (0 : Nat) (1 : Nat)), ((7 : Nat), AVal.own (1 : Nat) (0 : Nat) (↑W.length : Int).toNat (0 : Nat) (1 : Nat)), ((32 : Nat), AVal.ro (Cont.ints IntKind.i64 os) os.length (1 : Nat)), ((33 : Nat), AVal.int IntKind.i64 (↑os.length : Int)), ((34 : Nat), AVal.int IntKind.i64 (0 : Int))] [{ c := BC.typ (Cont.ints IntKind.i64 (List.replicate (↑W.length : Int).toNat (-1 : Int))), ver := (0 : Nat) }, { c := BC.typ (Cont.bools (List.replicate (↑W.length : Int).toNat (gb ((List.replicate (1 : Nat) false).set (0 : Nat) true) (0 : Nat)))), ver := (0 : Nat) }]) else none else none else none else none) := by kernel_rfl
theorem round (W : List (List Int)) (os out : List Int) (ls : List Bool) (N i f n : Nat) :
  L f (n + 1) (mkS 55 [(0, .ro (.rows .i64 W) W.length 1), (6, .own 0 0 N 0 1), (7, .own 1 0 N 0 1), (32, .ro (.ints .i64 os) os.length 1), (33, .int .i64 ((N : Nat) : Int)), (34, .int .i64 i)] [⟨.typ (.ints .i64 out), 0⟩, ⟨.typ (.bools ls), 0⟩])
  = (bif decide ((↑i : Int) < (↑N : Int)) then bif true && (decide ((0 : Int) ≤ (↑i : Int)) && decide ((↑i : Int) < (↑os.length : Int))) then bif decide ((↑i : Int).toNat < os.length) then bif true && (decide ((0 : Int) ≤ gz os (↑i : Int).toNat) && decide (gz os (↑i : Int).toNat < (↑W.length : Int))) then bif decide ((gz os (↑i : Int).toNat).toNat < W.length) then bif decide ((gr W (gz os (↑i : Int).toNat).toNat).length = (gr W (gz os (↑i : Int).toNat).toNat).length ∧ N = ls.length ∧ (gr W (gz os (↑i : Int).toNat).toNat).length ≤ (1000 : Nat)) && (((gr W (gz os (↑i : Int).toNat).toNat).all fun x => decide ((0 : Int) ≤ x) && decide (x < (↑ls.length : Int))) && (gr W (gz os (↑i : Int).toNat).toNat).any fun h => gb ls h.toNat) && (true && (false && true) || true && true) then bif true && (decide ((0 : Int) ≤ gz os (↑i : Int).toNat) && decide (gz os (↑i : Int).toNat < (↑N : Int))) then bif true && (true && (decide ((gz os (↑i : Int).toNat).toNat < out.length) && true)) then bif true && (decide ((0 : Int) ≤ gz os (↑i : Int).toNat) && decide (gz os (↑i : Int).toNat < (↑N : Int))) then bif true && decide ((gz os (↑i : Int).toNat).toNat < (out.set (gz os (↑i : Int).toNat).toNat (hse.ds.sv (gr W (gz os (↑i : Int).toNat).toNat) ls)).length) then bif true && (decide ((0 : Int) ≤ gz (out.set (gz os (↑i : Int).toNat).toNat (hse.ds.sv (gr W (gz os (↑i : Int).toNat).toNat) ls)) (gz os (↑i : Int).toNat).toNat) && decide (gz (out.set (gz os (↑i : Int).toNat).toNat (hse.ds.sv (gr W (gz os (↑i : Int).toNat).toNat) ls)) (gz os (↑i : Int).toNat).toNat < (↑N : Int))) then bif true && (true && (decide ((gz (out.set (gz os (↑i : Int).toNat).toNat (hse.ds.sv (gr W (gz os (↑i : Int).toNat).toNat) ls)) (gz os (↑i : Int).toNat).toNat).toNat < ls.length) && true)) then L f n (mkS (55 : Nat) [((0 : Nat), AVal.ro (Cont.rows IntKind.i64 W) W.length (1 : Nat)), ((6 : Nat), AVal.own (0 : Nat) (0 : Nat) N (0 : Nat) (1 : Nat)), ((7 : Nat), AVal.own (1 : Nat) (0 : Nat) N (0 : Nat) (1 : Nat)), ((32 : Nat), AVal.ro (Cont.ints IntKind.i64 os) os.length (1 : Nat)), ((33 : Nat), AVal.int IntKind.i64 (↑N : Int)), ((34 : Nat), AVal.int IntKind.i64 (IntKind.i64.wrap ((↑i : Int) + (1 : Int))))] [{ c := BC.typ (Cont.ints IntKind.i64 (out.set (gz os (↑i : Int).toNat).toNat (hse.ds.sv (gr W (gz os (↑i : Int).toNat).toNat) ls))), ver := (0 : Nat) }, { c := BC.typ (Cont.bools (ls.set (gz (out.set (gz os (↑i : Int).toNat).toNat (hse.ds.sv (gr W (gz os (↑i : Int).toNat).toNat) ls)) (gz os (↑i : Int).toNat).toNat).toNat false)), ver := (0 : Nat) }]) else none else none else none else none else none else none else none else none else none else none else none else some (AVal.tup [AVal.own (0 : Nat) (0 : Nat) N (0 : Nat) (1 : Nat), AVal.bool true], [{ c := BC.typ (Cont.ints IntKind.i64 out), ver := (0 : Nat) }, { c := BC.typ (Cont.bools ls), ver := (0 : Nat) }])) := by kernel_rfl
theorem loop (W : List (List Int)) (os z : List Int) (N f : Nat) (v : hse.V W N) (hN : W.length = N) (hs : hse.sp W = true) (ho : ∀ x ∈ os, 0 ≤ x ∧ x < (N : Int)) (hl : os.length = N) (hz : z.length = N) : ∀ (d k n : Nat), k + d = N → d < n →
    L f n (mkS 55 [(0, .ro (.rows .i64 W) W.length 1), (6, .own 0 0 N 0 1), (7, .own 1 0 N 0 1), (32, .ro (.ints .i64 os) os.length 1), (33, .int .i64 ((N : Nat) : Int)), (34, .int .i64 ((k : Nat) : Int))] [⟨.typ (.ints .i64 (hse.to W os z N k)), 0⟩, ⟨.typ (.bools (hse.tl W os N k)), 0⟩]) = some (.tup [.own 0 0 N 0 1, .bool true], [⟨.typ (.ints .i64 (hse.to W os z N N)), 0⟩, ⟨.typ (.bools (hse.tl W os N N)), 0⟩]) := by
  have h8 := v.h8
  intro d
  induction d with
  | zero =>
    intro k n hk hn
    obtain ⟨n, rfl⟩ : ∃ k, n = k + 1 := ⟨n - 1, by omega⟩
    obtain rfl : k = N := by omega
    rw [round]
    simp -implicitDefEqProofs (disch := omega) only [take_one, set_one, decide_eq_true, decide_eq_false, IntWalk.i64_in, beqT, beqF, bneT, bneF, nat_succ, ← Int.natCast_mul, ← Int.natCast_add, Int.toNat_natCast, Int.zero_mul, Int.zero_add, Int.add_zero, Nat.zero_add, Nat.add_zero, Nat.zero_mul, List.length_singleton, List.length_append, List.length_nil, List.length_cons, List.take_length, List.drop_zero, List.replicate_zero, List.take_nil, List.nil_append, Nat.reduceBEq, Nat.reduceMul, Nat.reduceLeDiff, eq_self, and_self, true_and, and_true, decide_true, decide_false, Bool.and_self, Bool.or_self, Bool.and_true, Bool.true_and, Bool.and_false, Bool.false_and, Bool.or_true, Bool.true_or, Bool.or_false, Bool.false_or, Bool.not_true, Bool.not_false, cond_true, cond_false]
  | succ d ih =>
    intro k n hk hn
    obtain ⟨n, rfl⟩ : ∃ k, n = k + 1 := ⟨n - 1, by omega⟩
    have g := ih (k + 1) n (by omega) (by omega)
    obtain ⟨j, hj, hjb⟩ := hse.tl_some v ho hl (k := k) (by omega)
    have ho2 := ho _ (gz_mem (l := os) (j := k) (by omega))
    obtain ⟨m, hm, e, hb, hbef⟩ := hse.ds_ok v (i := (gz os k).toNat) (by omega) hj hjb
    have hx := v.get (i := (gz os k).toNat) (k := m) (by omega) hm
    have rl := v.rl (gz os k).toNat (by omega)
    have ll := hse.tl_length W os N k
    have tl2 := hse.to_length W os z N k
    have hr : ((gr W (gz os k).toNat).all fun x => decide (0 ≤ x) && decide (x < ((hse.tl W os N k).length : Int))) = true := by
      simp only [List.all_eq_true, Bool.and_eq_true, decide_eq_true_eq]
      rw [ll]
      exact v.rin _ (by omega)
    have hany : (gr W (gz os k).toNat).any (fun h : Int => gb (hse.tl W os N k) h.toNat) = true := List.any_eq_true.2 ⟨_, gz_mem (l := gr W (gz os k).toNat) (j := m) (by omega), hb⟩
    have hg : gz ((hse.to W os z N k).set (gz os k).toNat (gz (gr W (gz os k).toNat) m)) (gz os k).toNat = gz (gr W (gz os k).toNat) m := by rw [gz_set (by omega), if_pos rfl]
    rw [hse.to, hse.tl, e] at g
    rw [round]
    simp -implicitDefEqProofs (disch := omega) only [hr, hany, e, hg, List.length_set, take_one, set_one, decide_eq_true, decide_eq_false, IntWalk.i64_in, beqT, beqF, bneT, bneF, nat_succ, ← Int.natCast_mul, ← Int.natCast_add, Int.toNat_natCast, Int.zero_mul, Int.zero_add, Int.add_zero, Nat.zero_add, Nat.add_zero, Nat.zero_mul, List.length_singleton, List.length_append, List.length_nil, List.length_cons, List.take_length, List.drop_zero, List.replicate_zero, List.take_nil, List.nil_append, Nat.reduceBEq, Nat.reduceMul, Nat.reduceLeDiff, eq_self, and_self, true_and, and_true, decide_true, decide_false, Bool.and_self, Bool.or_self, Bool.and_true, Bool.true_and, Bool.and_false, Bool.false_and, Bool.or_true, Bool.true_or, Bool.or_false, Bool.false_or, Bool.not_true, Bool.not_false, cond_true, cond_false]
    exact g
theorem run : ∀ args v new, R args = some (true, v, new) → ∃ fuel, regc [0] (runFn Try.prog (orc [⟨94, areHouses.R⟩, ⟨102, isAll.R⟩, ⟨95, iNone.R⟩, ⟨96, slRepeatB.R⟩, ⟨99, dearest.R⟩]) hd Dr.std none fuel (bodyOf Try.f42) 55 [4, 5] args []) = some (v, new) := by
  intro args v new h
  unfold R at h
  split at h
  · rename_i W m os k
    simp only [Option.some.injEq, Prod.mk.injEq, Bool.and_eq_true, decide_eq_true_eq] at h
    obtain ⟨⟨⟨rfl, rfl, hl⟩, hs, ho⟩, rfl, rfl⟩ := h
    have v := hse.valid hs
    have h1 := v.h1
    have h8 := v.h8
    have hu := hse.odr_uniq ho
    have hlI : ((os.length : Nat) : Int) = ((W.length : Nat) : Int) := by rw [hl]
    rw [hl] at hu
    obtain ⟨hi, hd⟩ := hse.odr_in ho
    rw [hl] at hi
    obtain ⟨F, hF⟩ : ∃ F : Nat, F = 200 := ⟨200, rfl⟩
    refine ⟨F, ?_⟩
    have g := loop W os (List.replicate W.length (-1)) W.length F v rfl hs hi hl (by simp) W.length 0 F (by omega) (by omega)
    have e : gb [true] 0 = true := rfl
    rw [start]
    simp -implicitDefEqProofs (disch := omega) only [hs, hu, e, hlI, take_one, set_one, decide_eq_true, decide_eq_false, IntWalk.i64_in, beqT, beqF, bneT, bneF, nat_succ, ← Int.natCast_mul, ← Int.natCast_add, Int.toNat_natCast, Int.zero_mul, Int.zero_add, Int.add_zero, Nat.zero_add, Nat.add_zero, Nat.zero_mul, List.length_singleton, List.length_append, List.length_nil, List.length_cons, List.take_length, List.drop_zero, List.replicate_zero, List.take_nil, List.nil_append, Nat.reduceBEq, Nat.reduceMul, Nat.reduceLeDiff, eq_self, and_self, true_and, and_true, decide_true, decide_false, Bool.and_self, Bool.or_self, Bool.and_true, Bool.true_and, Bool.and_false, Bool.false_and, Bool.or_true, Bool.true_or, Bool.or_false, Bool.false_or, Bool.not_true, Bool.not_false, cond_true, cond_false]
    exact (congrArg (regc [0]) g).trans rfl
  · cases h
theorem ok : EntOk Try.prog ⟨42, R⟩ :=
  ent_okAG (ks := [0]) mixed (A := (orc [⟨94, areHouses.R⟩, ⟨102, isAll.R⟩, ⟨95, iNone.R⟩, ⟨96, slRepeatB.R⟩, ⟨99, dearest.R⟩])) (orc_ok (by simp only [List.mem_cons, List.not_mem_nil, or_false, forall_eq_or_imp, forall_eq]; exact ⟨areHouses.ok, isAll.ok, iNone.ok, slRepeatB.ok, dearest.ok⟩)) Try.func42 (by kernel_rfl) (by kernel_rfl) (n := 55) (ts := [4, 5]) (hd := hd) (dr := Dr.std) (cut := none) (by kernel_rfl) (by kernel_rfl) (by kernel_rfl) run
end iHouseTurns

namespace sHouseTurns
def R : List AVal → Option (Bool × AVal × List Blk)
  | [.ro (.rows .i64 W) m 1, .ro (.ints .i64 os) k 1] => some (decide (m = W.length ∧ k = os.length ∧ os.length = W.length) && (hse.sp W && hse.odr.sp os), .tup [.own 0 0 m 0 1, .bool true], [⟨.typ (.ints .i64 (hse.tr.sv W os)), 0⟩])
  | _ => none
def hd : Nat → Head := fun i => bif eqN i 0 then ⟨[998, 0, 1, 6, 7, 28, 29], none⟩ else ⟨[998, 0, 1, 6, 7, 8, 9, 10, 28, 29], none⟩
noncomputable def L0 (f n : Nat) (s : State) := loopAt Try.prog (orc [⟨100, l05Whole.R⟩, ⟨103, l05Order.R⟩]) hd Dr.std 0 f (bodyOf Try.f43) 0 [true, true, true, true, false, true] (retK Try.prog [4, 5] 0 none) n s
noncomputable def L2 (f n n2 : Nat) (s : State) := loopAt Try.prog (orc [⟨100, l05Whole.R⟩, ⟨103, l05Order.R⟩]) hd Dr.std 0 f (bodyAt (bodyOf Try.f43) [true, true, true, true, false, true]) (curAt (bodyOf Try.f43) 0 [true, true, true, true, false, true]) [true, true, false, true, true, true, false] (iterK (normE 0 (hd (curAt (bodyOf Try.f43) 0 [true, true, true, true, false, true]))) (L0 f n) (contAt Try.prog (orc [⟨100, l05Whole.R⟩, ⟨103, l05Order.R⟩]) hd Dr.std 0 f (bodyOf Try.f43) 0 [true, true, true, true, false, true] (retK Try.prog [4, 5] 0 none))) n2 s
theorem start (W : List (List Int)) (os : List Int) (f : Nat) :
  runFn Try.prog (orc [⟨100, l05Whole.R⟩, ⟨103, l05Order.R⟩]) hd Dr.std none f (bodyOf Try.f43) 66 [4, 5] [.ro (.rows .i64 W) W.length 1, .ro (.ints .i64 os) os.length 1] []
  = (bif decide (W.length = W.length) && hse.sp W && (true && true || true && true) then bif decide (os.length ≤ os.length ∧ os.length ≤ (4611686018427387904 : Nat) ∧ (0 : Int) ≤ (↑W.length : Int) ∧ (↑W.length : Int) ≤ (4611686018427387904 : Int)) && (true && (true && true) || true && true) then bif !order.sp (↑W.length : Int) (List.take os.length os) then some (AVal.tup [AVal.nils, AVal.bool false], []) else bif (1 : Nat) == (1 : Nat) && ((↑W.length : Int) == (↑W.length : Int) && (decide ((0 : Int) ≤ (↑W.length : Int)) && (decide ((↑W.length : Int) * (1 : Int) ≤ (140737488355328 : Int)) && decide ((↑W.length : Int) ≤ (4611686018427387904 : Int))))) then bif (1 : Nat) == (1 : Nat) && ((↑W.length : Int) == (↑W.length : Int) && (decide ((0 : Int) ≤ (↑W.length : Int)) && (decide ((↑W.length : Int) * (8 : Int) ≤ (140737488355328 : Int)) && decide ((↑W.length : Int) ≤ (4611686018427387904 : Int))))) then L0 f f (mkS (66 : Nat) [((0 : Nat), AVal.ro (Cont.rows IntKind.i64 W) W.length (1 : Nat)), ((1 : Nat), AVal.ro (Cont.ints IntKind.i64 os) os.length (1 : Nat)), ((6 : Nat), AVal.own (0 : Nat) (0 : Nat) (↑W.length : Int).toNat (0 : Nat) (1 : Nat)), ((7 : Nat), AVal.own (1 : Nat) (0 : Nat) (↑W.length : Int).toNat (0 : Nat) (1 : Nat)), ((28 : Nat), AVal.int IntKind.i64 (↑os.length : Int)), ((29 : Nat), AVal.int IntKind.i64 (0 : Int))] [{ c := BC.typ (Cont.bools (List.replicate (↑W.length : Int).toNat false)), ver := (0 : Nat) }, { c := BC.typ (Cont.ints IntKind.i64 (List.replicate (↑W.length : Int).toNat (0 : Int))), ver := (0 : Nat) }]) else none else none else none else none) := by kernel_rfl
theorem round0 (W : List (List Int)) (os out : List Int) (ls : List Bool) (N i f n : Nat) :
  L0 f (n + 1) (mkS 66 [(0, .ro (.rows .i64 W) W.length 1), (1, .ro (.ints .i64 os) os.length 1), (6, .own 0 0 N 0 1), (7, .own 1 0 N 0 1), (28, .int .i64 ((N : Nat) : Int)), (29, .int .i64 i)] [⟨.typ (.bools ls), 0⟩, ⟨.typ (.ints .i64 out), 0⟩])
  = (bif decide ((↑i : Int) < (↑N : Int)) then bif true && (decide ((0 : Int) ≤ (↑i : Int)) && decide ((↑i : Int) < (↑os.length : Int))) then bif decide ((↑i : Int).toNat < os.length) then bif true && (decide ((0 : Int) ≤ gz os (↑i : Int).toNat) && decide (gz os (↑i : Int).toNat < (↑W.length : Int))) then bif decide ((gz os (↑i : Int).toNat).toNat < W.length) then L2 f n f (mkS (66 : Nat) [((0 : Nat), AVal.ro (Cont.rows IntKind.i64 W) W.length (1 : Nat)), ((1 : Nat), AVal.ro (Cont.ints IntKind.i64 os) os.length (1 : Nat)), ((6 : Nat), AVal.own (0 : Nat) (0 : Nat) N (0 : Nat) (1 : Nat)), ((7 : Nat), AVal.own (1 : Nat) (0 : Nat) N (0 : Nat) (1 : Nat)), ((8 : Nat), AVal.int IntKind.i64 (↑i : Int)), ((9 : Nat), AVal.ro (Cont.ints IntKind.i64 (gr W (gz os (↑i : Int).toNat).toNat)) (gr W (gz os (↑i : Int).toNat).toNat).length (1 : Nat)), ((10 : Nat), AVal.int IntKind.i64 (0 : Int)), ((28 : Nat), AVal.int IntKind.i64 (↑N : Int)), ((29 : Nat), AVal.int IntKind.i64 (↑i : Int))] [{ c := BC.typ (Cont.bools ls), ver := (0 : Nat) }, { c := BC.typ (Cont.ints IntKind.i64 out), ver := (0 : Nat) }]) else none else none else none else none else some (AVal.tup [AVal.own (1 : Nat) (0 : Nat) N (0 : Nat) (1 : Nat), AVal.bool true], [{ c := BC.typ (Cont.bools ls), ver := (0 : Nat) }, { c := BC.typ (Cont.ints IntKind.i64 out), ver := (0 : Nat) }])) := by kernel_rfl
theorem round2 (W : List (List Int)) (os out r : List Int) (ls : List Bool) (N i j f n n2 : Nat) :
  L2 f n (n2 + 1) (mkS 66 [(0, .ro (.rows .i64 W) W.length 1), (1, .ro (.ints .i64 os) os.length 1), (6, .own 0 0 N 0 1), (7, .own 1 0 N 0 1), (8, .int .i64 i), (9, .ro (.ints .i64 r) r.length 1), (10, .int .i64 j), (28, .int .i64 ((N : Nat) : Int)), (29, .int .i64 i)] [⟨.typ (.bools ls), 0⟩, ⟨.typ (.ints .i64 out), 0⟩])
  = (bif true && (decide ((0 : Int) ≤ (↑j : Int)) && decide ((↑j : Int) < (↑r.length : Int))) then bif decide ((↑j : Int).toNat < r.length) then bif true && (decide ((0 : Int) ≤ gz r (↑j : Int).toNat) && decide (gz r (↑j : Int).toNat < (↑N : Int))) then bif true && decide ((gz r (↑j : Int).toNat).toNat < ls.length) then bif gb ls (gz r (↑j : Int).toNat).toNat then L2 f n n2 (mkS (66 : Nat) [((0 : Nat), AVal.ro (Cont.rows IntKind.i64 W) W.length (1 : Nat)), ((1 : Nat), AVal.ro (Cont.ints IntKind.i64 os) os.length (1 : Nat)), ((6 : Nat), AVal.own (0 : Nat) (0 : Nat) N (0 : Nat) (1 : Nat)), ((7 : Nat), AVal.own (1 : Nat) (0 : Nat) N (0 : Nat) (1 : Nat)), ((8 : Nat), AVal.int IntKind.i64 (↑i : Int)), ((9 : Nat), AVal.ro (Cont.ints IntKind.i64 r) r.length (1 : Nat)), ((10 : Nat), AVal.int IntKind.i64 (IntKind.i64.wrap ((↑j : Int) + (1 : Int)))), ((28 : Nat), AVal.int IntKind.i64 (↑N : Int)), ((29 : Nat), AVal.int IntKind.i64 (↑i : Int))] [{ c := BC.typ (Cont.bools ls), ver := (0 : Nat) }, { c := BC.typ (Cont.ints IntKind.i64 out), ver := (0 : Nat) }]) else bif true && (decide ((0 : Int) ≤ (↑j : Int)) && decide ((↑j : Int) < (↑r.length : Int))) then bif decide ((↑j : Int).toNat < r.length) then bif true && (decide ((0 : Int) ≤ gz r (↑j : Int).toNat) && decide (gz r (↑j : Int).toNat < (↑N : Int))) then bif true && (true && (decide ((gz r (↑j : Int).toNat).toNat < ls.length) && true)) then bif true && (decide ((0 : Int) ≤ (↑i : Int)) && decide ((↑i : Int) < (↑os.length : Int))) then bif decide ((↑i : Int).toNat < os.length) then bif true && (decide ((0 : Int) ≤ (↑j : Int)) && decide ((↑j : Int) < (↑r.length : Int))) then bif decide ((↑j : Int).toNat < r.length) then bif true && (decide ((0 : Int) ≤ gz os (↑i : Int).toNat) && decide (gz os (↑i : Int).toNat < (↑N : Int))) then bif true && (true && (decide ((gz os (↑i : Int).toNat).toNat < out.length) && true)) then L0 f n (mkS (66 : Nat) [((0 : Nat), AVal.ro (Cont.rows IntKind.i64 W) W.length (1 : Nat)), ((1 : Nat), AVal.ro (Cont.ints IntKind.i64 os) os.length (1 : Nat)), ((6 : Nat), AVal.own (0 : Nat) (0 : Nat) N (0 : Nat) (1 : Nat)), ((7 : Nat), AVal.own (1 : Nat) (0 : Nat) N (0 : Nat) (1 : Nat)), ((28 : Nat), AVal.int IntKind.i64 (↑N : Int)), ((29 : Nat), AVal.int IntKind.i64 (IntKind.i64.wrap ((↑i : Int) + (1 : Int))))] [{ c := BC.typ (Cont.bools (ls.set (gz r (↑j : Int).toNat).toNat true)), ver := (0 : Nat) }, { c := BC.typ (Cont.ints IntKind.i64 (out.set (gz os (↑i : Int).toNat).toNat (gz r (↑j : Int).toNat))), ver := (0 : Nat) }]) else none else none else none else none else none else none else none else none else none else none else none else none else none else none) := by kernel_rfl
theorem loop2 (W : List (List Int)) (os z : List Int) (N k f n : Nat) (v : hse.V W N) (hN : W.length = N) (hs : hse.sp W = true) (ho : ∀ x ∈ os, 0 ≤ x ∧ x < (N : Int)) (hl : os.length = N) (hz : z.length = N) (hk : k < N) (m : Nat) (hm : m < N) (e : hse.ds.sv (gr W (gz os k).toNat) (hse.tl W os N k) = gz (gr W (gz os k).toNat) m) (hb : gb (hse.tl W os N k) (gz (gr W (gz os k).toNat) m).toNat = true) (hbef : ∀ j, j < m → gb (hse.tl W os N k) (gz (gr W (gz os k).toNat) j).toNat = false) : ∀ (d j n2 : Nat), j + d = m → d < n2 →
    L2 f n n2 (mkS 66 [(0, .ro (.rows .i64 W) W.length 1), (1, .ro (.ints .i64 os) os.length 1), (6, .own 0 0 N 0 1), (7, .own 1 0 N 0 1), (8, .int .i64 ((k : Nat) : Int)), (9, .ro (.ints .i64 (gr W (gz os k).toNat)) (gr W (gz os k).toNat).length 1), (10, .int .i64 ((j : Nat) : Int)), (28, .int .i64 ((N : Nat) : Int)), (29, .int .i64 ((k : Nat) : Int))] [⟨.typ (.bools (hse.tk.sv (hse.tl W os N k))), 0⟩, ⟨.typ (.ints .i64 (hse.to W os z N k)), 0⟩]) = L0 f n (mkS 66 [(0, .ro (.rows .i64 W) W.length 1), (1, .ro (.ints .i64 os) os.length 1), (6, .own 0 0 N 0 1), (7, .own 1 0 N 0 1), (28, .int .i64 ((N : Nat) : Int)), (29, .int .i64 (((k + 1) : Nat) : Int))] [⟨.typ (.bools (hse.tk.sv (hse.tl W os N (k + 1)))), 0⟩, ⟨.typ (.ints .i64 (hse.to W os z N (k + 1))), 0⟩]) := by
  have h8 := v.h8
  have ho2 := ho _ (gz_mem (l := os) (j := k) (by omega))
  have rl := v.rl (gz os k).toNat (by omega)
  have ll := hse.tl_length W os N k
  have kl : (hse.tk.sv (hse.tl W os N k)).length = N := by unfold hse.tk.sv; rw [List.length_map, ll]
  have tl2 := hse.to_length W os z N k
  intro d
  induction d with
  | zero =>
    intro j n2 hj hn
    obtain ⟨n2, rfl⟩ : ∃ q, n2 = q + 1 := ⟨n2 - 1, by omega⟩
    obtain rfl : j = m := by omega
    have hx := v.get (i := (gz os k).toNat) (k := j) (by omega) hm
    have hg := hse.tk_get (ls := hse.tl W os N k) (i := (gz (gr W (gz os k).toNat) j).toNat) (by omega)
    rw [hb] at hg
    rw [hse.to, hse.tl, e, ← hse.tk_set, round2]
    simp -implicitDefEqProofs (disch := omega) only [hg, take_one, set_one, decide_eq_true, decide_eq_false, IntWalk.i64_in, beqT, beqF, bneT, bneF, nat_succ, ← Int.natCast_mul, ← Int.natCast_add, Int.toNat_natCast, Int.zero_mul, Int.zero_add, Int.add_zero, Nat.zero_add, Nat.add_zero, Nat.zero_mul, List.length_singleton, List.length_append, List.length_nil, List.length_cons, List.take_length, List.drop_zero, List.replicate_zero, List.take_nil, List.nil_append, Nat.reduceBEq, Nat.reduceMul, Nat.reduceLeDiff, eq_self, and_self, true_and, and_true, decide_true, decide_false, Bool.and_self, Bool.or_self, Bool.and_true, Bool.true_and, Bool.and_false, Bool.false_and, Bool.or_true, Bool.true_or, Bool.or_false, Bool.false_or, Bool.not_true, Bool.not_false, cond_true, cond_false]
  | succ d ih =>
    intro j n2 hj hn
    obtain ⟨n2, rfl⟩ : ∃ q, n2 = q + 1 := ⟨n2 - 1, by omega⟩
    have g := ih (j + 1) n2 (by omega) (by omega)
    have hx := v.get (i := (gz os k).toNat) (k := j) (by omega) (by omega)
    have hg := hse.tk_get (ls := hse.tl W os N k) (i := (gz (gr W (gz os k).toNat) j).toNat) (by omega)
    rw [hbef j (by omega)] at hg
    rw [round2]
    simp -implicitDefEqProofs (disch := omega) only [hg, take_one, set_one, decide_eq_true, decide_eq_false, IntWalk.i64_in, beqT, beqF, bneT, bneF, nat_succ, ← Int.natCast_mul, ← Int.natCast_add, Int.toNat_natCast, Int.zero_mul, Int.zero_add, Int.add_zero, Nat.zero_add, Nat.add_zero, Nat.zero_mul, List.length_singleton, List.length_append, List.length_nil, List.length_cons, List.take_length, List.drop_zero, List.replicate_zero, List.take_nil, List.nil_append, Nat.reduceBEq, Nat.reduceMul, Nat.reduceLeDiff, eq_self, and_self, true_and, and_true, decide_true, decide_false, Bool.and_self, Bool.or_self, Bool.and_true, Bool.true_and, Bool.and_false, Bool.false_and, Bool.or_true, Bool.true_or, Bool.or_false, Bool.false_or, Bool.not_true, Bool.not_false, cond_true, cond_false]
    exact g
theorem loop0 (W : List (List Int)) (os z : List Int) (N f : Nat) (v : hse.V W N) (hN : W.length = N) (hs : hse.sp W = true) (ho : ∀ x ∈ os, 0 ≤ x ∧ x < (N : Int)) (hl : os.length = N) (hz : z.length = N) (hf : 100 < f) : ∀ (d k n : Nat), k + d = N → d < n →
    L0 f n (mkS 66 [(0, .ro (.rows .i64 W) W.length 1), (1, .ro (.ints .i64 os) os.length 1), (6, .own 0 0 N 0 1), (7, .own 1 0 N 0 1), (28, .int .i64 ((N : Nat) : Int)), (29, .int .i64 ((k : Nat) : Int))] [⟨.typ (.bools (hse.tk.sv (hse.tl W os N k))), 0⟩, ⟨.typ (.ints .i64 (hse.to W os z N k)), 0⟩]) = some (.tup [.own 1 0 N 0 1, .bool true], [⟨.typ (.bools (hse.tk.sv (hse.tl W os N N))), 0⟩, ⟨.typ (.ints .i64 (hse.to W os z N N)), 0⟩]) := by
  have h8 := v.h8
  intro d
  induction d with
  | zero =>
    intro k n hk hn
    obtain ⟨n, rfl⟩ : ∃ k, n = k + 1 := ⟨n - 1, by omega⟩
    obtain rfl : k = N := by omega
    rw [round0]
    simp -implicitDefEqProofs (disch := omega) only [take_one, set_one, decide_eq_true, decide_eq_false, IntWalk.i64_in, beqT, beqF, bneT, bneF, nat_succ, ← Int.natCast_mul, ← Int.natCast_add, Int.toNat_natCast, Int.zero_mul, Int.zero_add, Int.add_zero, Nat.zero_add, Nat.add_zero, Nat.zero_mul, List.length_singleton, List.length_append, List.length_nil, List.length_cons, List.take_length, List.drop_zero, List.replicate_zero, List.take_nil, List.nil_append, Nat.reduceBEq, Nat.reduceMul, Nat.reduceLeDiff, eq_self, and_self, true_and, and_true, decide_true, decide_false, Bool.and_self, Bool.or_self, Bool.and_true, Bool.true_and, Bool.and_false, Bool.false_and, Bool.or_true, Bool.true_or, Bool.or_false, Bool.false_or, Bool.not_true, Bool.not_false, cond_true, cond_false]
  | succ d ih =>
    intro k n hk hn
    obtain ⟨n, rfl⟩ : ∃ k, n = k + 1 := ⟨n - 1, by omega⟩
    have g := ih (k + 1) n (by omega) (by omega)
    obtain ⟨j, hj, hjb⟩ := hse.tl_some v ho hl (k := k) (by omega)
    have ho2 := ho _ (gz_mem (l := os) (j := k) (by omega))
    obtain ⟨m, hm, e, hb, hbef⟩ := hse.ds_ok v (i := (gz os k).toNat) (by omega) hj hjb
    have hx := v.get (i := (gz os k).toNat) (k := m) (by omega) hm
    have rl := v.rl (gz os k).toNat (by omega)
    have ll := hse.tl_length W os N k
    have g2 := loop2 W os z N k f n v hN hs ho hl hz (by omega) m hm e hb hbef m 0 f (by omega) (by omega)
    rw [round0]
    simp -implicitDefEqProofs (disch := omega) only [take_one, set_one, decide_eq_true, decide_eq_false, IntWalk.i64_in, beqT, beqF, bneT, bneF, nat_succ, ← Int.natCast_mul, ← Int.natCast_add, Int.toNat_natCast, Int.zero_mul, Int.zero_add, Int.add_zero, Nat.zero_add, Nat.add_zero, Nat.zero_mul, List.length_singleton, List.length_append, List.length_nil, List.length_cons, List.take_length, List.drop_zero, List.replicate_zero, List.take_nil, List.nil_append, Nat.reduceBEq, Nat.reduceMul, Nat.reduceLeDiff, eq_self, and_self, true_and, and_true, decide_true, decide_false, Bool.and_self, Bool.or_self, Bool.and_true, Bool.true_and, Bool.and_false, Bool.false_and, Bool.or_true, Bool.true_or, Bool.or_false, Bool.false_or, Bool.not_true, Bool.not_false, cond_true, cond_false]
    exact g2.trans g
theorem run : ∀ args v new, R args = some (true, v, new) → ∃ fuel, regc [1] (runFn Try.prog (orc [⟨100, l05Whole.R⟩, ⟨103, l05Order.R⟩]) hd Dr.std none fuel (bodyOf Try.f43) 66 [4, 5] args []) = some (v, new) := by
  intro args v new h
  unfold R at h
  split at h
  · rename_i W m os k
    simp only [Option.some.injEq, Prod.mk.injEq, Bool.and_eq_true, decide_eq_true_eq] at h
    obtain ⟨⟨⟨rfl, rfl, hl⟩, hs, ho⟩, rfl, rfl⟩ := h
    have v := hse.valid hs
    have h1 := v.h1
    have h8 := v.h8
    have hu := hse.odr_uniq ho
    have hlI : ((os.length : Nat) : Int) = ((W.length : Nat) : Int) := by rw [hl]
    rw [hl] at hu
    obtain ⟨hi, hd⟩ := hse.odr_in ho
    rw [hl] at hi
    obtain ⟨F, hF⟩ : ∃ F : Nat, F = 200 := ⟨200, rfl⟩
    refine ⟨F, ?_⟩
    have g := loop0 W os (List.replicate W.length 0) W.length F v rfl hs hi hl (by simp) (by omega) W.length 0 F (by omega) (by omega)
    have eo : order.sp (W.length : Int) os = true := by
      simp only [order.sp, Bool.and_eq_true, decide_eq_true_eq]
      exact ⟨hu, hlI⟩
    have ez : hse.to W os (List.replicate W.length 0) W.length W.length = hse.tr.sv W os := hse.to_all (by simp) (by simp) hl hi hd
    have e0 : hse.tk.sv (hse.tl W os W.length 0) = List.replicate W.length false := by simp [hse.tk.sv, hse.tl]
    rw [ez, e0] at g
    rw [start]
    simp -implicitDefEqProofs (disch := omega) only [hs, hu, eo, hlI, take_one, set_one, decide_eq_true, decide_eq_false, IntWalk.i64_in, beqT, beqF, bneT, bneF, nat_succ, ← Int.natCast_mul, ← Int.natCast_add, Int.toNat_natCast, Int.zero_mul, Int.zero_add, Int.add_zero, Nat.zero_add, Nat.add_zero, Nat.zero_mul, List.length_singleton, List.length_append, List.length_nil, List.length_cons, List.take_length, List.drop_zero, List.replicate_zero, List.take_nil, List.nil_append, Nat.reduceBEq, Nat.reduceMul, Nat.reduceLeDiff, eq_self, and_self, true_and, and_true, decide_true, decide_false, Bool.and_self, Bool.or_self, Bool.and_true, Bool.true_and, Bool.and_false, Bool.false_and, Bool.or_true, Bool.true_or, Bool.or_false, Bool.false_or, Bool.not_true, Bool.not_false, cond_true, cond_false]
    exact (congrArg (regc [1]) g).trans rfl
  · cases h
theorem ok : EntOk Try.prog ⟨43, R⟩ :=
  ent_okAG (ks := [1]) mixed (A := (orc [⟨100, l05Whole.R⟩, ⟨103, l05Order.R⟩])) (orc_ok (by simp only [List.mem_cons, List.not_mem_nil, or_false, forall_eq_or_imp, forall_eq]; exact ⟨l05Whole.ok, l05Order.ok⟩)) Try.func43 (by kernel_rfl) (by kernel_rfl) (n := 66) (ts := [4, 5]) (hd := hd) (dr := Dr.std) (cut := none) (by kernel_rfl) (by kernel_rfl) (by kernel_rfl) run
end sHouseTurns

end Go.Proofs.Ytkoongajnnaeoaa.Ab
