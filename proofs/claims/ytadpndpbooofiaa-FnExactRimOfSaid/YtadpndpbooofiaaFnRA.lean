/-
  Functions: rims of bargains.
-/
import Derived.Test.YtadpndpbooofiaaFnZA
import Derived.Test.YtadpndpbooofiaaFnB
namespace Go.Proofs.Ytadpndpbooofiaa.Ab
open Go
set_option linter.unusedVariables false
set_option linter.unusedSimpArgs false
set_option maxRecDepth 100000

namespace rm
theorem drop_range {r j : Nat} (h : j < r) : (List.range r).drop j = j :: (List.range r).drop (j + 1) := by
  rw [List.drop_eq_getElem_cons (by simpa using h)]; simp
theorem sv_get {n i : Nat} (h : i < n) : gz (cq.sv n) i = (i : Int) := by rw [gz_eq (by rw [cq.sv_length]; exact h)]; simp [cq.sv]
def ex.sp (n : Nat) (p : Nat → Bool) : Bool := (List.range n).any p
def ix.sv (n : Nat) (p : Nat → Bool) : Int := fidx.sq p (List.range n) 0
theorem ix_ge (n : Nat) (p : Nat → Bool) : decide (0 ≤ rm.ix.sv n p) = rm.ex.sp n p := fidx_ge _ _ _
/-- Is 'k' better than 'i' in one way and no worse in the other? -/
def w.sp (xs : List Int) (i k : Nat) : Bool := (decide (gz xs (2 * i) ≤ gz xs (2 * k)) && decide (gz xs (2 * i + 1) ≤ gz xs (2 * k + 1))) && (decide (gz xs (2 * i) < gz xs (2 * k)) || decide (gz xs (2 * i + 1) < gz xs (2 * k + 1)))
def o.sp (xs : List Int) (i : Nat) : Bool := rm.ex.sp (xs.length / 2) (rm.w.sp xs i)
/-- The first 'j', less those that are left out. -/
def fl (p : Nat → Bool) (j : Nat) : List Int := ((List.range j).filter fun i => !p i).map fun i : Nat => (i : Int)
theorem fl_succ (p : Nat → Bool) (j : Nat) : fl p (j + 1) = bif p j then fl p j else fl p j ++ [(j : Int)] := by
  simp only [fl, List.range_succ, List.filter_append, List.map_append]
  cases h : p j <;> simp [h]
theorem fl_length (p : Nat → Bool) (j : Nat) : (fl p j).length ≤ j := by
  have := List.length_filter_le (fun i => !p i) (List.range j)
  simpa [fl] using this
theorem fl_all {p : Nat → Bool} {j : Nat} (h : ∀ k, k < j → p k = false) : fl p j = cq.sv j := by
  induction j with
  | zero => rfl
  | succ j ih =>
    rw [fl_succ, h j (by omega), cond_false, ih (fun k hk => h k (by omega)), cq.sv_succ]
def sv (xs : List Int) : List Int := fl (rm.o.sp xs) (xs.length / 2)
theorem fidx_first (p : Nat → Bool) : ∀ (d i : Nat) (l : List Nat), (∀ k, k < d → l[k]? = some (i + k)) → l.length = d →
    (fidx.sq p l i = -1 ∧ ∀ k, i ≤ k → k < i + d → p k = false) ∨ ∃ j : Nat, fidx.sq p l i = (j : Int) ∧ i ≤ j ∧ j < i + d ∧ p j = true ∧ ∀ k, i ≤ k → k < j → p k = false := by
  intro d
  induction d with
  | zero =>
    intro i l h hl
    obtain rfl := List.length_eq_zero_iff.1 hl
    exact .inl ⟨rfl, fun k h1 h2 => by omega⟩
  | succ d ih =>
    intro i l h hl
    cases l with
    | nil => simp at hl
    | cons x r =>
      have hx := h 0 (by omega)
      simp only [List.getElem?_cons_zero, Option.some.injEq, Nat.add_zero] at hx
      subst hx
      cases hp : p x with
      | true => exact .inr ⟨x, by simp only [fidx.sq, hp, cond_true], Nat.le_refl _, by omega, hp, fun k h1 h2 => by omega⟩
      | false =>
        have := ih (x + 1) r (fun k hk => by
          have := h (k + 1) (by omega)
          rw [List.getElem?_cons_succ] at this
          rw [this]; congr 1; omega) (by simpa using hl)
        simp only [fidx.sq, hp, cond_false]
        rcases this with ⟨h1, h2⟩ | ⟨j, h1, h2, h3, h4, h5⟩
        · refine .inl ⟨h1, fun k k1 k2 => ?_⟩
          by_cases e : k = x
          · subst e; exact hp
          · exact h2 k (by omega) (by omega)
        · refine .inr ⟨j, h1, by omega, by omega, h4, fun k k1 k2 => ?_⟩
          by_cases e : k = x
          · subst e; exact hp
          · exact h5 k (by omega) k2
theorem ix_first (n : Nat) (p : Nat → Bool) : (rm.ix.sv n p = -1 ∧ ∀ k, k < n → p k = false) ∨ ∃ j : Nat, rm.ix.sv n p = (j : Int) ∧ j < n ∧ p j = true ∧ ∀ k, k < j → p k = false := by
  rcases fidx_first p n 0 (List.range n) (fun k hk => by rw [List.getElem?_range hk]; simp) (by simp) with ⟨h1, h2⟩ | ⟨j, h1, _, h3, h4, h5⟩
  · exact .inl ⟨h1, fun k hk => h2 k (Nat.zero_le _) (by omega)⟩
  · exact .inr ⟨j, h1, by omega, h4, fun k hk => h5 k (Nat.zero_le _) hk⟩
/-- One round: what is kept goes to the front. -/
theorem keep {p : Nat → Bool} {m i j : Nat} {zs : List Int} (hl : zs.length = m) (hi : i < j) (hj : j < m) (h1 : zs.take i = fl p j) (hil : i = (fl p j).length) (h2 : zs.drop j = (cq.sv m).drop j) (hp : p j = false) :
    (zs.set i (j : Int)).take (i + 1) = fl p (j + 1) ∧ i + 1 = (fl p (j + 1)).length ∧ (zs.set i (j : Int)).drop (j + 1) = (cq.sv m).drop (j + 1) := by
  have e : fl p (j + 1) = fl p j ++ [(j : Int)] := by rw [fl_succ, hp, cond_false]
  refine ⟨?_, by rw [e, List.length_append, ← hil]; rfl, ?_⟩
  · rw [e, List.take_add_one, List.take_set_of_le (Nat.le_refl _), h1]
    congr 1
    simp [show i < zs.length by omega]
  · rw [List.drop_set_of_lt (by omega)]
    have := congrArg (List.drop 1) h2
    simpa [List.drop_drop, Nat.add_comm] using this
theorem at_j {m j : Nat} {zs : List Int} (hl : zs.length = m) (hj : j < m) (h2 : zs.drop j = (cq.sv m).drop j) : gz zs j = (j : Int) := by
  have := congrArg (fun l => l[0]?) h2
  simp only [List.getElem?_drop, Nat.add_zero] at this
  rw [gz_eq (by omega)]
  rw [List.getElem?_eq_getElem (by omega), List.getElem?_eq_getElem (by rw [cq.sv_length]; exact hj)] at this
  simp only [Option.some.injEq] at this
  rw [this]; simp [cq.sv]
end rm

namespace slClone2
def R : List AVal → Option (Bool × AVal × List Blk)
  | [.ro (.ints .i64 xs) m 1] => some (decide (0 < m ∧ m ≤ xs.length ∧ m ≤ 1048576), .own 0 0 m 0 1, [⟨.typ (.ints .i64 (xs.take m)), 0⟩])
  | _ => none
theorem goS (xs : List Int) (m : Nat) :
  runFn Try.prog (orc []) hd0 Dr.std none 0 (bodyOf Try.f28) 8 [2] [.ro (.ints .i64 xs) (m + 1) 1] []
  = (bif (1 : Nat) == (1 : Nat) && (1 : Nat) == (1 : Nat) && (true && (true && true) && (true && (decide ((0 : Nat) + (List.take (m + (1 : Nat)) xs).length ≤ (4611686018427387904 : Nat)) && decide (((0 : Nat) + (List.take (m + (1 : Nat)) xs).length) * (8 : Nat) ≤ (140737488355328 : Nat))))) then some (AVal.own (0 : Nat) (0 : Nat) ((0 : Nat) + (List.take (m + (1 : Nat)) xs).length) (0 : Nat) (1 : Nat), [{ c := BC.typ (Cont.ints IntKind.i64 (List.take (0 : Nat) (List.replicate (0 : Nat) (0 : Int)) ++ List.take (m + (1 : Nat)) xs)), ver := (0 : Nat) }]) else none) := by kernel_rfl
theorem run : ∀ args v new, R args = some (true, v, new) → ∃ fuel, runFn Try.prog (orc []) hd0 Dr.std none fuel (bodyOf Try.f28) 8 [2] args [] = some (v, new) := by
  intro args v new h
  unfold R at h
  split at h
  · rename_i xs m
    simp only [Option.some.injEq, Prod.mk.injEq, decide_eq_true_eq] at h
    obtain ⟨⟨h0, h1, h2⟩, rfl, rfl⟩ := h
    cases m with
    | zero => omega
    | succ m =>
      refine ⟨0, ?_⟩
      rw [goS]
      have e1 : (xs.take (m + 1)).length = m + 1 := by simp; omega
      have c1 : m + 1 ≤ 4611686018427387904 := by omega
      have c2 : (m + 1) * 8 ≤ 140737488355328 := by omega
      simp only [e1, c1, c2, Nat.zero_add, List.replicate_zero, List.take_nil, List.nil_append, decide_true, Bool.and_self, Bool.or_self, Bool.and_true, Bool.true_and, cond_true, Nat.reduceBEq]
  · cases h
theorem ok : EntOk Try.prog ⟨28, R⟩ :=
  ent_okA mixed (A := (orc [])) (orc_ok (by simp)) Try.func28 (by kernel_rfl) (by kernel_rfl) (n := 8) (ts := [2]) (hd := hd0) (dr := Dr.std) (cut := none) (by kernel_rfl) (by kernel_rfl) (by kernel_rfl) run
end slClone2

namespace rim2
def R : List AVal → Option (Bool × AVal × List Blk)
  | [.int .i64 k, .rom [.ro (.ints .i64 xs) mx 1] 0, .rom [.int .i64 i] 0] => some (decide (mx = xs.length ∧ xs.length % 2 = 0 ∧ xs.length ≤ 32 ∧ 0 ≤ k ∧ k < (xs.length / 2 : Nat) ∧ 0 ≤ i ∧ i < (xs.length / 2 : Nat)), .bool (rm.w.sp xs i.toNat k.toNat), [])
  | _ => none
theorem go (xs : List Int) (i k : Int) :
  runFn Try.prog (orc []) hd0 Dr.std none 0 (bodyOf Try.f31) 49 [4] [.int .i64 k, .rom [.ro (.ints .i64 xs) xs.length 1] 0, .rom [.int .i64 i] 0] []
  = (bif true && (decide ((0 : Int) ≤ IntKind.i64.wrap ((2 : Int) * i)) && decide (IntKind.i64.wrap ((2 : Int) * i) < (↑xs.length : Int))) then bif decide ((IntKind.i64.wrap ((2 : Int) * i)).toNat < xs.length) then bif true && (decide ((0 : Int) ≤ IntKind.i64.wrap (IntKind.i64.wrap ((2 : Int) * i) + (1 : Int))) && decide (IntKind.i64.wrap (IntKind.i64.wrap ((2 : Int) * i) + (1 : Int)) < (↑xs.length : Int))) then bif decide ((IntKind.i64.wrap (IntKind.i64.wrap ((2 : Int) * i) + (1 : Int))).toNat < xs.length) then bif true && (decide ((0 : Int) ≤ IntKind.i64.wrap ((2 : Int) * k)) && decide (IntKind.i64.wrap ((2 : Int) * k) < (↑xs.length : Int))) then bif decide ((IntKind.i64.wrap ((2 : Int) * k)).toNat < xs.length) then bif true && (decide ((0 : Int) ≤ IntKind.i64.wrap (IntKind.i64.wrap ((2 : Int) * k) + (1 : Int))) && decide (IntKind.i64.wrap (IntKind.i64.wrap ((2 : Int) * k) + (1 : Int)) < (↑xs.length : Int))) then bif decide ((IntKind.i64.wrap (IntKind.i64.wrap ((2 : Int) * k) + (1 : Int))).toNat < xs.length) then bif decide (gz xs (IntKind.i64.wrap ((2 : Int) * i)).toNat ≤ gz xs (IntKind.i64.wrap ((2 : Int) * k)).toNat) then bif decide (gz xs (IntKind.i64.wrap (IntKind.i64.wrap ((2 : Int) * i) + (1 : Int))).toNat ≤ gz xs (IntKind.i64.wrap (IntKind.i64.wrap ((2 : Int) * k) + (1 : Int))).toNat) then bif decide (gz xs (IntKind.i64.wrap ((2 : Int) * i)).toNat < gz xs (IntKind.i64.wrap ((2 : Int) * k)).toNat) then some (AVal.bool true, []) else some (AVal.bool (decide (gz xs (IntKind.i64.wrap (IntKind.i64.wrap ((2 : Int) * i) + (1 : Int))).toNat < gz xs (IntKind.i64.wrap (IntKind.i64.wrap ((2 : Int) * k) + (1 : Int))).toNat)), []) else some (AVal.bool false, []) else some (AVal.bool false, []) else none else none else none else none else none else none else none else none) := by kernel_rfl
theorem run : ∀ args v new, R args = some (true, v, new) → ∃ fuel, runFn Try.prog (orc []) hd0 Dr.std none fuel (bodyOf Try.f31) 49 [4] args [] = some (v, new) := by
  intro args v new h
  unfold R at h
  split at h
  · rename_i k xs mx i
    simp only [Option.some.injEq, Prod.mk.injEq, decide_eq_true_eq] at h
    obtain ⟨⟨rfl, h1, h2, h3, h4, h5, h6⟩, rfl, rfl⟩ := h
    obtain ⟨k, rfl⟩ : ∃ q : Nat, k = q := ⟨k.toNat, by omega⟩
    obtain ⟨i, rfl⟩ : ∃ q : Nat, i = q := ⟨i.toNat, by omega⟩
    have wk : IntKind.i64.wrap (2 * (k : Int)) = ((2 * k : Nat) : Int) := by rw [IntWalk.i64_in _ (by omega)]; omega
    have wi : IntKind.i64.wrap (2 * (i : Int)) = ((2 * i : Nat) : Int) := by rw [IntWalk.i64_in _ (by omega)]; omega
    have wk1 : IntKind.i64.wrap (((2 * k : Nat) : Int) + 1) = ((2 * k + 1 : Nat) : Int) := by rw [IntWalk.i64_in _ (by omega)]; omega
    have wi1 : IntKind.i64.wrap (((2 * i : Nat) : Int) + 1) = ((2 * i + 1 : Nat) : Int) := by rw [IntWalk.i64_in _ (by omega)]; omega
    have a0 : (0 : Int) ≤ ((2 * k : Nat) : Int) := Int.natCast_nonneg _
    have a1 : (0 : Int) ≤ ((2 * i : Nat) : Int) := Int.natCast_nonneg _
    have a2 : (0 : Int) ≤ ((2 * k + 1 : Nat) : Int) := Int.natCast_nonneg _
    have a3 : (0 : Int) ≤ ((2 * i + 1 : Nat) : Int) := Int.natCast_nonneg _
    have b0 : ((2 * k : Nat) : Int) < (xs.length : Int) := by omega
    have b1 : ((2 * i : Nat) : Int) < (xs.length : Int) := by omega
    have b2 : ((2 * k + 1 : Nat) : Int) < (xs.length : Int) := by omega
    have b3 : ((2 * i + 1 : Nat) : Int) < (xs.length : Int) := by omega
    have c0 : 2 * k < xs.length := by omega
    have c1 : 2 * i < xs.length := by omega
    have c2 : 2 * k + 1 < xs.length := by omega
    have c3 : 2 * i + 1 < xs.length := by omega
    refine ⟨0, ?_⟩
    rw [go]
    simp -implicitDefEqProofs only [wk, wi, wk1, wi1, a0, a1, a2, a3, b0, b1, b2, b3, c0, c1, c2, c3, Int.toNat_natCast, rm.w.sp, decide_true, decide_false, Bool.and_self, Bool.or_self, Bool.and_true, Bool.true_and, Bool.and_false, Bool.false_and, Bool.or_true, Bool.true_or, Bool.or_false, Bool.false_or, Bool.not_true, Bool.not_false, cond_true, cond_false]
    cases decide (gz xs (2 * i) ≤ gz xs (2 * k)) <;> cases decide (gz xs (2 * i + 1) ≤ gz xs (2 * k + 1)) <;> cases decide (gz xs (2 * i) < gz xs (2 * k)) <;> cases decide (gz xs (2 * i + 1) < gz xs (2 * k + 1)) <;> rfl
  · cases h
theorem ok : EntOk Try.prog ⟨31, R⟩ :=
  ent_okA mixed (A := (orc [])) (orc_ok (by simp)) Try.func31 (by kernel_rfl) (by kernel_rfl) (n := 49) (ts := [4]) (hd := hd0) (dr := Dr.std) (cut := none) (by kernel_rfl) (by kernel_rfl) (by kernel_rfl) run
end rim2

namespace rimIdx2
def R : List AVal → Option (Bool × AVal × List Blk)
  | [.ro (.ints .i64 zs) m 1, .fn ff [.rom [.ro (.ints .i64 xs) mx 1] 0, .rom [.int .i64 i] 0]] => some (decide (m = xs.length / 2 ∧ mx = xs.length ∧ xs.length % 2 = 0 ∧ xs.length ≤ 32 ∧ 0 ≤ i ∧ i < (xs.length / 2 : Nat) ∧ zs = cq.sv m ∧ ff = 31), .int .i64 (rm.ix.sv m (rm.w.sp xs i.toNat)), [])
  | _ => none
def hd : Nat → Head := fun _ => ⟨[0, 1, 4, 7, 8], none⟩
noncomputable def L (f n : Nat) (s : State) := loopAt Try.prog (orc [⟨31, rim2.R⟩]) hd Dr.std 0 f (bodyOf Try.f46) 0 [true, false, true] (retK Try.prog [4] 0 none) n s
theorem start (zs : List Int) (m : Nat) (xs : List Int) (i : Nat) (f : Nat) :
  runFn Try.prog (orc [⟨31, rim2.R⟩]) hd Dr.std none f (bodyOf Try.f46) 19 [4] [.ro (.ints .i64 zs) m 1, .fn 31 [.rom [.ro (.ints .i64 xs) xs.length 1] 0, .rom [.int .i64 i] 0]] []
  = (L f f (mkS (19 : Nat) [((0 : Nat), AVal.ro (Cont.ints IntKind.i64 zs) m (1 : Nat)), ((1 : Nat), AVal.fn (31 : Nat) [AVal.rom [AVal.ro (Cont.ints IntKind.i64 xs) xs.length (1 : Nat)] (0 : Nat), AVal.rom [AVal.int IntKind.i64 (↑i : Int)] (0 : Nat)]), ((4 : Nat), AVal.int IntKind.i64 (0 : Int)), ((7 : Nat), AVal.int IntKind.i64 (↑m : Int)), ((8 : Nat), AVal.int IntKind.i64 (0 : Int))] [])) := by kernel_rfl
theorem round (zs : List Int) (m i0 : Nat) (xs : List Int) (i : Nat) (f n : Nat) :
  L f (n + 1) (mkS 19 [(0, .ro (.ints .i64 zs) m 1), (1, .fn 31 [.rom [.ro (.ints .i64 xs) xs.length 1] 0, .rom [.int .i64 i] 0]), (4, .int .i64 0), (7, .int .i64 m), (8, .int .i64 i0)] [])
  = (bif decide ((↑i0 : Int) < (↑m : Int)) then bif true && (decide ((0 : Int) ≤ (↑i0 : Int)) && decide ((↑i0 : Int) < (↑m : Int))) then bif decide ((↑i0 : Int).toNat < zs.length) then bif decide (xs.length = xs.length ∧ xs.length % (2 : Nat) = (0 : Nat) ∧ xs.length ≤ (32 : Nat) ∧ (0 : Int) ≤ gz zs (↑i0 : Int).toNat ∧ gz zs (↑i0 : Int).toNat < (↑(xs.length / (2 : Nat)) : Int) ∧ (0 : Int) ≤ (↑i : Int) ∧ (↑i : Int) < (↑(xs.length / (2 : Nat)) : Int)) && (true && (true && true && (true && true && true)) || true && true) then bif rm.w.sp xs (↑i : Int).toNat (gz zs (↑i0 : Int).toNat).toNat then some (AVal.int IntKind.i64 (↑i0 : Int), []) else L f n (mkS (19 : Nat) [((0 : Nat), AVal.ro (Cont.ints IntKind.i64 zs) m (1 : Nat)), ((1 : Nat), AVal.fn (31 : Nat) [AVal.rom [AVal.ro (Cont.ints IntKind.i64 xs) xs.length (1 : Nat)] (0 : Nat), AVal.rom [AVal.int IntKind.i64 (↑i : Int)] (0 : Nat)]), ((4 : Nat), AVal.int IntKind.i64 (0 : Int)), ((7 : Nat), AVal.int IntKind.i64 (↑m : Int)), ((8 : Nat), AVal.int IntKind.i64 (IntKind.i64.wrap ((↑i0 : Int) + (1 : Int))))] []) else none else none else none else some (AVal.int IntKind.i64 (-1 : Int), [])) := by kernel_rfl
theorem loop (m : Nat) (xs : List Int) (i : Nat) (f : Nat) (hmx : m = xs.length / 2) (h2x : xs.length % 2 = 0) (h3x : xs.length ≤ 32) (hix : i < xs.length / 2) (hm : m ≤ 100) : ∀ (d i0 n : Nat), i0 + d = m → d < n →
    L f n (mkS 19 [(0, .ro (.ints .i64 (cq.sv m)) m 1), (1, .fn 31 [.rom [.ro (.ints .i64 xs) xs.length 1] 0, .rom [.int .i64 i] 0]), (4, .int .i64 0), (7, .int .i64 m), (8, .int .i64 i0)] []) = some (.int .i64 (fidx.sq (rm.w.sp xs i) ((List.range m).drop i0) i0), []) := by
  intro d
  induction d with
  | zero =>
    intro i0 n hi hn
    obtain ⟨n, rfl⟩ : ∃ k, n = k + 1 := ⟨n - 1, by omega⟩
    obtain rfl : i0 = m := by omega
    rw [round]
    have e : (List.range i0).drop i0 = [] := List.drop_of_length_le (by simp)
    simp -implicitDefEqProofs only [e, fidx.sq, Int.lt_irrefl, decide_true, decide_false, Bool.and_self, Bool.or_self, Bool.and_true, Bool.true_and, Bool.and_false, Bool.false_and, Bool.or_true, Bool.true_or, Bool.or_false, Bool.false_or, Bool.not_true, Bool.not_false, cond_true, cond_false]
  | succ d ih =>
    intro i0 n hi hn
    obtain ⟨n, rfl⟩ : ∃ k, n = k + 1 := ⟨n - 1, by omega⟩
    have h1 : i0 < m := by omega
    have h4 : (0 : Int) ≤ (i0 : Int) := Int.natCast_nonneg _
    have h5 : (i0 : Int) < (m : Int) := by omega
    have h2 : i0 < (cq.sv m).length := by rw [cq.sv_length]; exact h1
    have hr0 := ih (i0 + 1) n (by omega) (by omega)
    have g1 : (0 : Int) ≤ (i : Int) := Int.natCast_nonneg _
    have g2 : (i : Int) < (xs.length / 2 : Nat) := by omega
    have g3 : (i0 : Int) < (xs.length / 2 : Nat) := by omega
    rw [round, rm.drop_range h1]
    simp -implicitDefEqProofs only [fidx.sq, h4, h5, h2, rm.sv_get h1, Int.toNat_natCast, wrap_nat i0 (by omega), and_self, eq_self, g1, g2, g3, h2x, h3x, Nat.le_refl, decide_true, decide_false, Bool.and_self, Bool.or_self, Bool.and_true, Bool.true_and, Bool.and_false, Bool.false_and, Bool.or_true, Bool.true_or, Bool.or_false, Bool.false_or, Bool.not_true, Bool.not_false, cond_true, cond_false]
    rw [hr0]
    cases (rm.w.sp xs i) i0 <;> rfl
theorem run : ∀ args v new, R args = some (true, v, new) → ∃ fuel, runFn Try.prog (orc [⟨31, rim2.R⟩]) hd Dr.std none fuel (bodyOf Try.f46) 19 [4] args [] = some (v, new) := by
  intro args v new h
  unfold R at h
  split at h
  · rename_i zs m ff xs mx i
    simp only [Option.some.injEq, Prod.mk.injEq, decide_eq_true_eq] at h
    obtain ⟨⟨hmm, rfl, q1, q2, q3, q4, rfl, rfl⟩, rfl, rfl⟩ := h
    obtain ⟨i, rfl⟩ : ∃ q : Nat, i = q := ⟨i.toNat, by omega⟩
    refine ⟨m + 1, ?_⟩
    rw [start]
    have hl := loop m xs i (m + 1) hmm q1 q2 (by omega) (by omega) m 0 (m + 1) (by omega) (by omega)
    rw [List.drop_zero] at hl
    exact hl
  · cases h
theorem ok : EntOk Try.prog ⟨46, R⟩ :=
  ent_okA mixed (A := (orc [⟨31, rim2.R⟩])) (orc_ok (by simp only [List.mem_cons, List.not_mem_nil, or_false, forall_eq_or_imp, forall_eq]; exact rim2.ok)) Try.func46 (by kernel_rfl) (by kernel_rfl) (n := 19) (ts := [4]) (hd := hd) (dr := Dr.std) (cut := none) (by kernel_rfl) (by kernel_rfl) (by kernel_rfl) run
end rimIdx2

namespace rimHas2
def R : List AVal → Option (Bool × AVal × List Blk)
  | [.ro (.ints .i64 zs) m 1, .fn ff [.rom [.ro (.ints .i64 xs) mx 1] 0, .rom [.int .i64 i] 0]] => some (decide (m = xs.length / 2 ∧ mx = xs.length ∧ xs.length % 2 = 0 ∧ xs.length ≤ 32 ∧ 0 ≤ i ∧ i < (xs.length / 2 : Nat) ∧ zs = cq.sv m ∧ ff = 31), .bool (rm.ex.sp m (rm.w.sp xs i.toNat)), [])
  | _ => none
theorem go (zs xs : List Int) (m : Nat) (i : Int) :
  runFn Try.prog (orc [⟨46, rimIdx2.R⟩]) hd0 Dr.std none 0 (bodyOf Try.f30) 9 [4] [.ro (.ints .i64 zs) m 1, .fn 31 [.rom [.ro (.ints .i64 xs) xs.length 1] 0, .rom [.int .i64 i] 0]] []
  = (bif decide (m = xs.length / (2 : Nat) ∧ xs.length = xs.length ∧ xs.length % (2 : Nat) = (0 : Nat) ∧ xs.length ≤ (32 : Nat) ∧ (0 : Int) ≤ i ∧ i < (↑(xs.length / (2 : Nat)) : Int) ∧ zs = cq.sv m ∧ (31 : FuncId) = (31 : FuncId)) && (true && (true && true && (true && true && true) && true) || true && true) then some (AVal.bool (decide ((0 : Int) ≤ rm.ix.sv m (rm.w.sp xs i.toNat))), []) else none) := by kernel_rfl
theorem run : ∀ args v new, R args = some (true, v, new) → ∃ fuel, runFn Try.prog (orc [⟨46, rimIdx2.R⟩]) hd0 Dr.std none fuel (bodyOf Try.f30) 9 [4] args [] = some (v, new) := by
  intro args v new h
  unfold R at h
  split at h
  · rename_i zs m ff xs mx i
    simp only [Option.some.injEq, Prod.mk.injEq, decide_eq_true_eq] at h
    obtain ⟨⟨g1, rfl, q1, q2, q3, q4, g2, rfl⟩, rfl, rfl⟩ := h
    refine ⟨0, ?_⟩
    rw [go]
    simp only [g1, g2, q1, q2, q3, q4, and_self, eq_self, true_and, and_true, rm.ix_ge, decide_true, decide_false, Bool.and_self, Bool.or_self, Bool.and_true, Bool.true_and, Bool.and_false, Bool.false_and, Bool.or_true, Bool.true_or, Bool.or_false, Bool.false_or, Bool.not_true, Bool.not_false, cond_true, cond_false]
  · cases h
theorem ok : EntOk Try.prog ⟨30, R⟩ :=
  ent_okA mixed (A := (orc [⟨46, rimIdx2.R⟩])) (orc_ok (by simp only [List.mem_cons, List.not_mem_nil, or_false, forall_eq_or_imp, forall_eq]; exact rimIdx2.ok)) Try.func30 (by kernel_rfl) (by kernel_rfl) (n := 9) (ts := [4]) (hd := hd0) (dr := Dr.std) (cut := none) (by kernel_rfl) (by kernel_rfl) (by kernel_rfl) run
end rimHas2

namespace rim1
def R : List AVal → Option (Bool × AVal × List Blk)
  | [.int .i64 i, .rom [.ro (.ints .i64 al) ma 1] 0, .rom [.ro (.ints .i64 xs) mx 1] 0] => some (decide (ma = xs.length / 2 ∧ al = cq.sv ma ∧ mx = xs.length ∧ xs.length % 2 = 0 ∧ xs.length ≤ 32 ∧ 0 ≤ i ∧ i < (xs.length / 2 : Nat)), .bool (rm.o.sp xs i.toNat), [])
  | _ => none
theorem go (al xs : List Int) (ma : Nat) (i : Int) :
  runFn Try.prog (orc [⟨30, rimHas2.R⟩]) hd0 Dr.std (some 0) 0 (bodyOf Try.f29) 8 [4] [.int .i64 i, .rom [.ro (.ints .i64 al) ma 1] 0, .rom [.ro (.ints .i64 xs) xs.length 1] 0] []
  = (bif decide (ma = xs.length / (2 : Nat) ∧ xs.length = xs.length ∧ xs.length % (2 : Nat) = (0 : Nat) ∧ xs.length ≤ (32 : Nat) ∧ (0 : Int) ≤ i ∧ i < (↑(xs.length / (2 : Nat)) : Int) ∧ al = cq.sv ma ∧ (31 : Nat) = (31 : FuncId)) && (true && (true && true && false && true) || true && true) then some (AVal.bool (rm.ex.sp ma (rm.w.sp xs i.toNat)), []) else none) := by kernel_rfl
theorem run : ∀ args v new, R args = some (true, v, new) → ∃ fuel, runFn Try.prog (orc [⟨30, rimHas2.R⟩]) hd0 Dr.std (some 0) fuel (bodyOf Try.f29) 8 [4] args [] = some (v, new) := by
  intro args v new h
  unfold R at h
  split at h
  · rename_i i al ma xs mx
    simp only [Option.some.injEq, Prod.mk.injEq, decide_eq_true_eq] at h
    obtain ⟨⟨g1, g2, rfl, q1, q2, q3, q4⟩, rfl, rfl⟩ := h
    refine ⟨0, ?_⟩
    rw [go]
    simp only [g1, g2, q1, q2, q3, q4, and_self, eq_self, true_and, and_true, rm.o.sp, decide_true, decide_false, Bool.and_self, Bool.or_self, Bool.and_true, Bool.true_and, Bool.and_false, Bool.false_and, Bool.or_true, Bool.true_or, Bool.or_false, Bool.false_or, Bool.not_true, Bool.not_false, cond_true, cond_false]
  · cases h
theorem ok : EntOk Try.prog ⟨29, R⟩ :=
  ent_okA mixed (A := (orc [⟨30, rimHas2.R⟩])) (orc_ok (by simp only [List.mem_cons, List.not_mem_nil, or_false, forall_eq_or_imp, forall_eq]; exact rimHas2.ok)) Try.func29 (by kernel_rfl) (by kernel_rfl) (n := 8) (ts := [4]) (hd := hd0) (dr := Dr.std) (cut := (some 0)) (by kernel_rfl) (by kernel_rfl) (by kernel_rfl) run
end rim1

namespace rimIdx1
def R : List AVal → Option (Bool × AVal × List Blk)
  | [.ro (.ints .i64 zs) m 1, .fn ff [.rom [.ro (.ints .i64 al) ma 1] 0, .rom [.ro (.ints .i64 xs) mx 1] 0]] => some (decide (m = xs.length / 2 ∧ ma = xs.length / 2 ∧ al = cq.sv ma ∧ mx = xs.length ∧ xs.length % 2 = 0 ∧ xs.length ≤ 32 ∧ zs = cq.sv m ∧ ff = 29), .int .i64 (rm.ix.sv m (rm.o.sp xs)), [])
  | _ => none
def hd : Nat → Head := fun _ => ⟨[0, 1, 4, 7, 8], none⟩
noncomputable def L (f n : Nat) (s : State) := loopAt Try.prog (orc [⟨29, rim1.R⟩]) hd Dr.std 0 f (bodyOf Try.f46) 0 [true, false, true] (retK Try.prog [4] 0 none) n s
theorem start (zs : List Int) (m : Nat) (al xs : List Int) (ma : Nat) (f : Nat) :
  runFn Try.prog (orc [⟨29, rim1.R⟩]) hd Dr.std none f (bodyOf Try.f46) 19 [4] [.ro (.ints .i64 zs) m 1, .fn 29 [.rom [.ro (.ints .i64 al) ma 1] 0, .rom [.ro (.ints .i64 xs) xs.length 1] 0]] []
  = (L f f (mkS (19 : Nat) [((0 : Nat), AVal.ro (Cont.ints IntKind.i64 zs) m (1 : Nat)), ((1 : Nat), AVal.fn (29 : Nat) [AVal.rom [AVal.ro (Cont.ints IntKind.i64 al) ma (1 : Nat)] (0 : Nat), AVal.rom [AVal.ro (Cont.ints IntKind.i64 xs) xs.length (1 : Nat)] (0 : Nat)]), ((4 : Nat), AVal.int IntKind.i64 (0 : Int)), ((7 : Nat), AVal.int IntKind.i64 (↑m : Int)), ((8 : Nat), AVal.int IntKind.i64 (0 : Int))] [])) := by kernel_rfl
theorem round (zs : List Int) (m i0 : Nat) (al xs : List Int) (ma : Nat) (f n : Nat) :
  L f (n + 1) (mkS 19 [(0, .ro (.ints .i64 zs) m 1), (1, .fn 29 [.rom [.ro (.ints .i64 al) ma 1] 0, .rom [.ro (.ints .i64 xs) xs.length 1] 0]), (4, .int .i64 0), (7, .int .i64 m), (8, .int .i64 i0)] [])
  = (bif decide ((↑i0 : Int) < (↑m : Int)) then bif true && (decide ((0 : Int) ≤ (↑i0 : Int)) && decide ((↑i0 : Int) < (↑m : Int))) then bif decide ((↑i0 : Int).toNat < zs.length) then bif decide (ma = xs.length / (2 : Nat) ∧ al = cq.sv ma ∧ xs.length = xs.length ∧ xs.length % (2 : Nat) = (0 : Nat) ∧ xs.length ≤ (32 : Nat) ∧ (0 : Int) ≤ gz zs (↑i0 : Int).toNat ∧ gz zs (↑i0 : Int).toNat < (↑(xs.length / (2 : Nat)) : Int)) && (true && (true && true && (true && true && true)) || true && true) then bif rm.o.sp xs (gz zs (↑i0 : Int).toNat).toNat then some (AVal.int IntKind.i64 (↑i0 : Int), []) else L f n (mkS (19 : Nat) [((0 : Nat), AVal.ro (Cont.ints IntKind.i64 zs) m (1 : Nat)), ((1 : Nat), AVal.fn (29 : Nat) [AVal.rom [AVal.ro (Cont.ints IntKind.i64 al) ma (1 : Nat)] (0 : Nat), AVal.rom [AVal.ro (Cont.ints IntKind.i64 xs) xs.length (1 : Nat)] (0 : Nat)]), ((4 : Nat), AVal.int IntKind.i64 (0 : Int)), ((7 : Nat), AVal.int IntKind.i64 (↑m : Int)), ((8 : Nat), AVal.int IntKind.i64 (IntKind.i64.wrap ((↑i0 : Int) + (1 : Int))))] []) else none else none else none else some (AVal.int IntKind.i64 (-1 : Int), [])) := by kernel_rfl
theorem loop (m : Nat) (al xs : List Int) (ma : Nat) (f : Nat) (hmx : m = xs.length / 2) (hma : ma = xs.length / 2) (has : al = cq.sv ma) (h2x : xs.length % 2 = 0) (h3x : xs.length ≤ 32) (hm : m ≤ 100) : ∀ (d i0 n : Nat), i0 + d = m → d < n →
    L f n (mkS 19 [(0, .ro (.ints .i64 (cq.sv m)) m 1), (1, .fn 29 [.rom [.ro (.ints .i64 al) ma 1] 0, .rom [.ro (.ints .i64 xs) xs.length 1] 0]), (4, .int .i64 0), (7, .int .i64 m), (8, .int .i64 i0)] []) = some (.int .i64 (fidx.sq (rm.o.sp xs) ((List.range m).drop i0) i0), []) := by
  intro d
  induction d with
  | zero =>
    intro i0 n hi hn
    obtain ⟨n, rfl⟩ : ∃ k, n = k + 1 := ⟨n - 1, by omega⟩
    obtain rfl : i0 = m := by omega
    rw [round]
    have e : (List.range i0).drop i0 = [] := List.drop_of_length_le (by simp)
    simp -implicitDefEqProofs only [e, fidx.sq, Int.lt_irrefl, decide_true, decide_false, Bool.and_self, Bool.or_self, Bool.and_true, Bool.true_and, Bool.and_false, Bool.false_and, Bool.or_true, Bool.true_or, Bool.or_false, Bool.false_or, Bool.not_true, Bool.not_false, cond_true, cond_false]
  | succ d ih =>
    intro i0 n hi hn
    obtain ⟨n, rfl⟩ : ∃ k, n = k + 1 := ⟨n - 1, by omega⟩
    have h1 : i0 < m := by omega
    have h4 : (0 : Int) ≤ (i0 : Int) := Int.natCast_nonneg _
    have h5 : (i0 : Int) < (m : Int) := by omega
    have h2 : i0 < (cq.sv m).length := by rw [cq.sv_length]; exact h1
    have hr0 := ih (i0 + 1) n (by omega) (by omega)
    have g3 : (i0 : Int) < (ma : Int) := by omega
    rw [round, rm.drop_range h1]
    simp -implicitDefEqProofs only [fidx.sq, h4, h5, h2, rm.sv_get h1, Int.toNat_natCast, wrap_nat i0 (by omega), and_self, eq_self, g3, ← hma, ← has, h2x, h3x, Nat.le_refl, decide_true, decide_false, Bool.and_self, Bool.or_self, Bool.and_true, Bool.true_and, Bool.and_false, Bool.false_and, Bool.or_true, Bool.true_or, Bool.or_false, Bool.false_or, Bool.not_true, Bool.not_false, cond_true, cond_false]
    rw [hr0]
    cases (rm.o.sp xs) i0 <;> rfl
theorem run : ∀ args v new, R args = some (true, v, new) → ∃ fuel, runFn Try.prog (orc [⟨29, rim1.R⟩]) hd Dr.std none fuel (bodyOf Try.f46) 19 [4] args [] = some (v, new) := by
  intro args v new h
  unfold R at h
  split at h
  · rename_i zs m ff al ma xs mx
    simp only [Option.some.injEq, Prod.mk.injEq, decide_eq_true_eq] at h
    obtain ⟨⟨q0, q1, q2, rfl, q3, q4, rfl, rfl⟩, rfl, rfl⟩ := h
    refine ⟨m + 1, ?_⟩
    rw [start]
    have hl := loop m al xs ma (m + 1) q0 q1 q2 q3 q4 (by omega) m 0 (m + 1) (by omega) (by omega)
    rw [List.drop_zero] at hl
    exact hl
  · cases h
theorem ok : EntOk Try.prog ⟨46, R⟩ :=
  ent_okA mixed (A := (orc [⟨29, rim1.R⟩])) (orc_ok (by simp only [List.mem_cons, List.not_mem_nil, or_false, forall_eq_or_imp, forall_eq]; exact rim1.ok)) Try.func46 (by kernel_rfl) (by kernel_rfl) (n := 19) (ts := [4]) (hd := hd) (dr := Dr.std) (cut := none) (by kernel_rfl) (by kernel_rfl) (by kernel_rfl) run
end rimIdx1

namespace rimDel
def R : List AVal → Heap → Option (Bool × AVal × Heap)
  | [.own 0 0 m 0 1, .fn ff [.ptr 1 0 0, .ptr 3 0 0]], [⟨.typ (.ints .i64 zs), 0⟩, ⟨.cells [.own 2 0 ma 0 1], 0⟩, ⟨.typ (.ints .i64 al), 0⟩, ⟨.cells [.ro (.ints .i64 xs) mx 1], 0⟩] => some (decide (m = xs.length / 2 ∧ ma = xs.length / 2 ∧ al = cq.sv ma ∧ mx = xs.length ∧ xs.length % 2 = 0 ∧ xs.length ≤ 32 ∧ zs = cq.sv m ∧ ff = 29), .own 0 0 (rm.sv xs).length 0 1, [⟨.typ (.ints .i64 (rm.sv xs ++ List.replicate (m - (rm.sv xs).length) 0)), 0⟩, ⟨.cells [.own 2 0 ma 0 1], 0⟩, ⟨.typ (.ints .i64 al), 0⟩, ⟨.cells [.ro (.ints .i64 xs) xs.length 1], 0⟩])
  | _, _ => none
def hd : Nat → Head := fun _ => ⟨[0, 1, 5, 6], some 0⟩
noncomputable def L (f n : Nat) (s : State) := loopAt Try.prog (orc [⟨46, rimIdx1.R⟩, ⟨29, rim1.R⟩]) hd Dr.std 4 f (bodyOf Try.f27) 0 [true, true, true, false, true] (retK Try.prog [4] 4 (some 0)) n s
theorem start (zs al xs : List Int) (m ma : Nat) (f : Nat) :
  runFn Try.prog (orc [⟨46, rimIdx1.R⟩, ⟨29, rim1.R⟩]) hd Dr.std (some 0) f (bodyOf Try.f27) 42 [4] [.own 0 0 m 0 1, .fn 29 [.ptr 1 0 0, .ptr 3 0 0]] [⟨.typ (.ints .i64 zs), 0⟩, ⟨.cells [.own 2 0 ma 0 1], 0⟩, ⟨.typ (.ints .i64 al), 0⟩, ⟨.cells [.ro (.ints .i64 xs) xs.length 1], 0⟩]
  = (bif true && (true && (true && (true && true))) then bif decide (m = xs.length / (2 : Nat) ∧ ma = xs.length / (2 : Nat) ∧ al = cq.sv ma ∧ xs.length = xs.length ∧ xs.length % (2 : Nat) = (0 : Nat) ∧ xs.length ≤ (32 : Nat) ∧ zs = cq.sv m ∧ (29 : FuncId) = (29 : FuncId)) && (false && false || true && true) then bif rm.ix.sv m (rm.o.sp xs) == (-1 : Int) then some (AVal.own (0 : Nat) (0 : Nat) m (0 : Nat) (1 : Nat), [{ c := BC.typ (Cont.ints IntKind.i64 zs), ver := (0 : Nat) }, { c := BC.cells [AVal.own (2 : Nat) (0 : Nat) ma (0 : Nat) (1 : Nat)], ver := (0 : Nat) }, { c := BC.typ (Cont.ints IntKind.i64 al), ver := (0 : Nat) }, { c := BC.cells [AVal.ro (Cont.ints IntKind.i64 xs) xs.length (1 : Nat)], ver := (0 : Nat) }]) else L f f (mkS (42 : Nat) [((0 : Nat), AVal.own (0 : Nat) (0 : Nat) m (0 : Nat) (1 : Nat)), ((1 : Nat), AVal.fn (29 : Nat) [AVal.ptr (1 : Nat) (0 : Nat) (0 : Nat), AVal.ptr (3 : Nat) (0 : Nat) (0 : Nat)]), ((5 : Nat), AVal.int IntKind.i64 (rm.ix.sv m (rm.o.sp xs))), ((6 : Nat), AVal.int IntKind.i64 (IntKind.i64.wrap (rm.ix.sv m (rm.o.sp xs) + (1 : Int))))] [{ c := BC.typ (Cont.ints IntKind.i64 zs), ver := (0 : Nat) }, { c := BC.cells [AVal.own (2 : Nat) (0 : Nat) ma (0 : Nat) (1 : Nat)], ver := (0 : Nat) }, { c := BC.typ (Cont.ints IntKind.i64 al), ver := (0 : Nat) }, { c := BC.cells [AVal.ro (Cont.ints IntKind.i64 xs) xs.length (1 : Nat)], ver := (0 : Nat) }]) else none else none) := by kernel_rfl
theorem round (zs al xs : List Int) (m ma : Nat) (i j f n : Nat) :
  L f (n + 1) (mkS 42 [(0, .own 0 0 m 0 1), (1, .fn 29 [.ptr 1 0 0, .ptr 3 0 0]), (5, .int .i64 i), (6, .int .i64 j)] [⟨.typ (.ints .i64 zs), 0⟩, ⟨.cells [.own 2 0 ma 0 1], 0⟩, ⟨.typ (.ints .i64 al), 0⟩, ⟨.cells [.ro (.ints .i64 xs) xs.length 1], 0⟩])
  = (bif decide ((↑j : Int) < (↑m : Int)) then bif true && (decide ((0 : Int) ≤ (↑j : Int)) && decide ((↑j : Int) < (↑m : Int))) then bif true && decide ((↑j : Int).toNat < zs.length) then bif decide (ma = xs.length / (2 : Nat) ∧ al = cq.sv ma ∧ xs.length = xs.length ∧ xs.length % (2 : Nat) = (0 : Nat) ∧ xs.length ≤ (32 : Nat) ∧ (0 : Int) ≤ gz zs (↑j : Int).toNat ∧ gz zs (↑j : Int).toNat < (↑(xs.length / (2 : Nat)) : Int)) && (true && false || true && true) then bif !rm.o.sp xs (gz zs (↑j : Int).toNat).toNat then bif true && (decide ((0 : Int) ≤ (↑i : Int)) && decide ((↑i : Int) < (↑m : Int))) then bif true && (true && (decide ((↑i : Int).toNat < zs.length) && true)) then L f n (mkS (42 : Nat) [((0 : Nat), AVal.own (0 : Nat) (0 : Nat) m (0 : Nat) (1 : Nat)), ((1 : Nat), AVal.fn (29 : Nat) [AVal.ptr (1 : Nat) (0 : Nat) (0 : Nat), AVal.ptr (3 : Nat) (0 : Nat) (0 : Nat)]), ((5 : Nat), AVal.int IntKind.i64 (IntKind.i64.wrap ((↑i : Int) + (1 : Int)))), ((6 : Nat), AVal.int IntKind.i64 (IntKind.i64.wrap ((↑j : Int) + (1 : Int))))] [{ c := BC.typ (Cont.ints IntKind.i64 (zs.set (↑i : Int).toNat (gz zs (↑j : Int).toNat))), ver := (0 : Nat) }, { c := BC.cells [AVal.own (2 : Nat) (0 : Nat) ma (0 : Nat) (1 : Nat)], ver := (0 : Nat) }, { c := BC.typ (Cont.ints IntKind.i64 al), ver := (0 : Nat) }, { c := BC.cells [AVal.ro (Cont.ints IntKind.i64 xs) xs.length (1 : Nat)], ver := (0 : Nat) }]) else none else none else L f n (mkS (42 : Nat) [((0 : Nat), AVal.own (0 : Nat) (0 : Nat) m (0 : Nat) (1 : Nat)), ((1 : Nat), AVal.fn (29 : Nat) [AVal.ptr (1 : Nat) (0 : Nat) (0 : Nat), AVal.ptr (3 : Nat) (0 : Nat) (0 : Nat)]), ((5 : Nat), AVal.int IntKind.i64 (↑i : Int)), ((6 : Nat), AVal.int IntKind.i64 (IntKind.i64.wrap ((↑j : Int) + (1 : Int))))] [{ c := BC.typ (Cont.ints IntKind.i64 zs), ver := (0 : Nat) }, { c := BC.cells [AVal.own (2 : Nat) (0 : Nat) ma (0 : Nat) (1 : Nat)], ver := (0 : Nat) }, { c := BC.typ (Cont.ints IntKind.i64 al), ver := (0 : Nat) }, { c := BC.cells [AVal.ro (Cont.ints IntKind.i64 xs) xs.length (1 : Nat)], ver := (0 : Nat) }]) else none else none else none else bif true && (true && (decide ((0 : Int) ≤ (↑i : Int)) && decide ((↑i : Int) ≤ (↑m : Int)) && (eqN (↑i : Int).toNat (0 : Nat) || decide ((↑i : Int).toNat < m)))) then bif true && true && decide ((↑i : Int).toNat + (m - (↑i : Int).toNat) ≤ zs.length) then bif true && (decide ((0 : Int) ≤ (↑i : Int)) && decide ((↑i : Int) ≤ (↑m : Int)) && (true && (true || decide ((0 : Nat) < (↑i : Int).toNat)))) then some (AVal.own (0 : Nat) (0 : Nat) ((↑i : Int).toNat - (0 : Nat)) (0 : Nat) (1 : Nat), [{ c := BC.typ (Cont.ints IntKind.i64 (List.take (↑i : Int).toNat zs ++ (List.replicate (m - (↑i : Int).toNat) (0 : Int) ++ List.drop ((↑i : Int).toNat + (m - (↑i : Int).toNat)) zs))), ver := (0 : Nat) }, { c := BC.cells [AVal.own (2 : Nat) (0 : Nat) ma (0 : Nat) (1 : Nat)], ver := (0 : Nat) }, { c := BC.typ (Cont.ints IntKind.i64 al), ver := (0 : Nat) }, { c := BC.cells [AVal.ro (Cont.ints IntKind.i64 xs) xs.length (1 : Nat)], ver := (0 : Nat) }]) else none else none else none) := by kernel_rfl
theorem loop (al xs : List Int) (m ma f : Nat) (hm : m = xs.length / 2) (hma : ma = xs.length / 2) (has : al = cq.sv ma) (h2x : xs.length % 2 = 0) (h3x : xs.length ≤ 32) : ∀ (d i j n : Nat) (zs : List Int), j + d = m → d < n → i < j → zs.length = m → zs.take i = rm.fl (rm.o.sp xs) j → i = (rm.fl (rm.o.sp xs) j).length → zs.drop j = (cq.sv m).drop j →
    L f n (mkS 42 [(0, .own 0 0 m 0 1), (1, .fn 29 [.ptr 1 0 0, .ptr 3 0 0]), (5, .int .i64 i), (6, .int .i64 j)] [⟨.typ (.ints .i64 zs), 0⟩, ⟨.cells [.own 2 0 ma 0 1], 0⟩, ⟨.typ (.ints .i64 al), 0⟩, ⟨.cells [.ro (.ints .i64 xs) xs.length 1], 0⟩]) = some (.own 0 0 (rm.sv xs).length 0 1, [⟨.typ (.ints .i64 (rm.sv xs ++ List.replicate (m - (rm.sv xs).length) 0)), 0⟩, ⟨.cells [.own 2 0 ma 0 1], 0⟩, ⟨.typ (.ints .i64 al), 0⟩, ⟨.cells [.ro (.ints .i64 xs) xs.length 1], 0⟩]) := by
  intro d
  induction d with
  | zero =>
    intro i j n zs hj hn hi hl k1 k2 k3
    obtain ⟨n, rfl⟩ : ∃ k, n = k + 1 := ⟨n - 1, by omega⟩
    obtain rfl : j = m := by omega
    have i0 : (0 : Int) ≤ (i : Int) := Int.natCast_nonneg _
    have i1 : (i : Int) ≤ (j : Int) := by omega
    have i3 : i * 1 + (j - i) ≤ zs.length := by omega
    have i4 : i + (j - i) ≤ zs.length := by omega
    have es : rm.sv xs = rm.fl (rm.o.sp xs) j := by unfold rm.sv; rw [← hm]
    have e2 : zs.drop (i + (j - i)) = [] := List.drop_of_length_le (by omega)
    rw [es, ← k2, ← k1]
    rw [round]
    simp -implicitDefEqProofs only [Int.lt_irrefl, i0, i1, hi, i3, i4, e2, Nat.mul_one, Nat.zero_add, Nat.sub_zero, Nat.zero_mul, List.append_nil, Int.toNat_natCast, beq_self_eq_true, Nat.reduceBEq, and_self, eq_self, decide_true, decide_false, Bool.and_self, Bool.or_self, Bool.and_true, Bool.true_and, Bool.and_false, Bool.false_and, Bool.or_true, Bool.true_or, Bool.or_false, Bool.false_or, Bool.not_true, Bool.not_false, cond_true, cond_false]
    try rfl
  | succ d ih =>
    intro i j n zs hj' hn hi hl k1 k2 k3
    obtain ⟨n, rfl⟩ : ∃ k, n = k + 1 := ⟨n - 1, by omega⟩
    have hj : j < m := by omega
    have j0 : (0 : Int) ≤ (j : Int) := Int.natCast_nonneg _
    have j1 : (j : Int) < (m : Int) := by omega
    have j2 : j < zs.length := by omega
    have j3 : (j : Int) < (ma : Int) := by omega
    have i0 : (0 : Int) ≤ (i : Int) := Int.natCast_nonneg _
    have i1 : (i : Int) < (m : Int) := by omega
    have i2 : i < zs.length := by omega
    have hat := rm.at_j hl hj k3
    have k3' : zs.drop (j + 1) = (cq.sv m).drop (j + 1) := by
      have := congrArg (List.drop 1) k3
      simpa [List.drop_drop, Nat.add_comm] using this
    rw [round]
    simp -implicitDefEqProofs only [j0, j1, j2, j3, hat, ← hma, ← has, h2x, h3x, Nat.le_refl, Int.toNat_natCast, wrap_nat j (by omega), and_self, eq_self, true_and, and_true, decide_true, decide_false, Bool.and_self, Bool.or_self, Bool.and_true, Bool.true_and, Bool.and_false, Bool.false_and, Bool.or_true, Bool.true_or, Bool.or_false, Bool.false_or, Bool.not_true, Bool.not_false, cond_true, cond_false]
    cases hp : rm.o.sp xs j
    · obtain ⟨q1, q2, q3⟩ := rm.keep hl hi hj k1 k2 k3 hp
      have hih := ih (i + 1) (j + 1) n (zs.set i (j : Int)) (by omega) (by omega) (by omega) (by simpa using hl) q1 q2 q3
      simp -implicitDefEqProofs only [i0, i1, i2, Int.toNat_natCast, wrap_nat i (by omega), decide_true, decide_false, Bool.and_self, Bool.or_self, Bool.and_true, Bool.true_and, Bool.and_false, Bool.false_and, Bool.or_true, Bool.true_or, Bool.or_false, Bool.false_or, Bool.not_true, Bool.not_false, cond_true, cond_false]
      exact hih
    · have e : rm.fl (rm.o.sp xs) (j + 1) = rm.fl (rm.o.sp xs) j := by rw [rm.fl_succ, hp]; rfl
      have hih := ih i (j + 1) n zs (by omega) (by omega) (by omega) hl (by rw [e]; exact k1) (by rw [e]; exact k2) k3'
      simp -implicitDefEqProofs only [decide_true, decide_false, Bool.and_self, Bool.or_self, Bool.and_true, Bool.true_and, Bool.and_false, Bool.false_and, Bool.or_true, Bool.true_or, Bool.or_false, Bool.false_or, Bool.not_true, Bool.not_false, cond_true, cond_false]
      exact hih
theorem run : ∀ args H v new, R args H = some (true, v, new) → ∃ fuel, runFn Try.prog (orc [⟨46, rimIdx1.R⟩, ⟨29, rim1.R⟩]) hd Dr.std (some 0) fuel (bodyOf Try.f27) 42 [4] args H = some (v, new) := by
  intro args H v new h
  unfold R at h
  split at h
  · rename_i m ff zs ma al xs mx
    simp only [Option.some.injEq, Prod.mk.injEq, decide_eq_true_eq] at h
    obtain ⟨⟨q0, q1, q2, rfl, q3, q4, q5, rfl⟩, rfl, rfl⟩ := h
    have hmm : m = ma := by omega
    subst hmm
    refine ⟨m + 1, ?_⟩
    have lz : zs.length = m := by rw [q5, cq.sv_length]
    have la : al.length = m := by rw [q2, cq.sv_length]
    have tz : zs.take m = zs := List.take_of_length_le (by omega)
    have ta : al.take m = al := List.take_of_length_le (by omega)
    have dza : decide (zs = al) = true := decide_eq_true (q5.trans q2.symm)
    rw [start]
    rcases rm.ix_first m (rm.o.sp xs) with ⟨e1, e2⟩ | ⟨i, e1, e2, e3, e4⟩
    · have es : rm.sv xs = zs := by unfold rm.sv; rw [← q0, q5]; exact rm.fl_all e2
      rw [es, lz, Nat.sub_self, List.replicate_zero, List.append_nil]
      simp -implicitDefEqProofs only [e1, dza, tz, ta, lz, la, ← q0, ← q2, ← q5, q3, q4, Nat.le_refl, beq_self_eq_true, and_self, eq_self, true_and, and_true, decide_true, decide_false, Bool.and_self, Bool.or_self, Bool.and_true, Bool.true_and, Bool.and_false, Bool.false_and, Bool.or_true, Bool.true_or, Bool.or_false, Bool.false_or, Bool.not_true, Bool.not_false, cond_true, cond_false]
    · have hne : ((i : Int) == -1) = false := by simp only [beq_eq_false_iff_ne, ne_eq]; omega
      have ef : rm.fl (rm.o.sp xs) (i + 1) = cq.sv i := by rw [rm.fl_succ, e3, cond_true]; exact rm.fl_all e4
      have et : zs.take i = cq.sv i := by
        rw [q5]
        apply List.ext_getElem?
        intro k
        rw [List.getElem?_take]
        simp only [cq.sv, List.getElem?_map]
        split
        · rename_i hk
          rw [List.getElem?_range (by omega), List.getElem?_range hk]
        · rename_i hk
          rw [List.getElem?_eq_none (by simp; omega)]; rfl
      have hl := loop al xs m m (m + 1) q0 q1 q2 q3 q4 (m - (i + 1)) i (i + 1) (m + 1) zs (by omega) (by omega) (by omega) lz (by rw [ef]; exact et) (by rw [ef, cq.sv_length]) (by rw [q5])
      simp -implicitDefEqProofs only [e1, hne, dza, tz, ta, lz, la, ← q0, ← q2, ← q5, q3, q4, Nat.le_refl, wrap_nat i (by omega), and_self, eq_self, true_and, and_true, decide_true, decide_false, Bool.and_self, Bool.or_self, Bool.and_true, Bool.true_and, Bool.and_false, Bool.false_and, Bool.or_true, Bool.true_or, Bool.or_false, Bool.false_or, Bool.not_true, Bool.not_false, cond_true, cond_false]
      exact hl
  · cases h
theorem ok : EntWOk Try.prog ⟨27, R⟩ :=
  entw_ok mixed (A := (orc [⟨46, rimIdx1.R⟩, ⟨29, rim1.R⟩])) (orc_ok (by simp only [List.mem_cons, List.not_mem_nil, or_false, forall_eq_or_imp, forall_eq]; exact ⟨rimIdx1.ok, rim1.ok⟩)) Try.func27 (by kernel_rfl) (by kernel_rfl) (n := 42) (ts := [4]) (hd := hd) (dr := Dr.std) (cut := (some 0)) (by kernel_rfl) (by kernel_rfl) (by kernel_rfl) run
end rimDel

end Go.Proofs.Ytadpndpbooofiaa.Ab
