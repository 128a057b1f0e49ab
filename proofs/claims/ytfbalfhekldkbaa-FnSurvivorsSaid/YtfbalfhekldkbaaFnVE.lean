/-
  Functions: rows left out, cells that are best for both, games shared out.
-/
import Derived.Test.YtfbalfhekldkbaaFnGO
import Derived.Test.YtfbalfhekldkbaaFnVB
import Derived.Test.YtfbalfhekldkbaaFnGH
namespace Go.Proofs.Ytfbalfhekldkbaa.Ab
open Go
set_option linter.unusedVariables false
set_option linter.unusedSimpArgs false
set_option maxRecDepth 100000

namespace df
theorem drop_range {r j : Nat} (h : j < r) : (List.range r).drop j = j :: (List.range r).drop (j + 1) := by
  rw [List.drop_eq_getElem_cons (by simpa using h)]; simp
def ex.sp (n : Nat) (p : Nat → Bool) : Bool := (List.range n).any p
def ix.sv (n : Nat) (p : Nat → Bool) : Int := fidx.sq p (List.range n) 0
theorem ix_ge (n : Nat) (p : Nat → Bool) : decide (0 ≤ df.ix.sv n p) = df.ex.sp n p := fidx_ge _ _ _
def eq.sp (one : Int) (k : Nat) : Bool := ((k : Int) == one)
/-- The first 'j', less those that are left out. -/
def fl (p : Nat → Bool) (j : Nat) : List Int := ((List.range j).filter fun i => !p i).map fun i : Nat => (i : Int)
theorem fl_succ (p : Nat → Bool) (j : Nat) : fl p (j + 1) = bif p j then fl p j else fl p j ++ [(j : Int)] := by
  simp only [fl, List.range_succ, List.filter_append, List.map_append]
  cases h : p j <;> simp [h]
theorem fl_length (p : Nat → Bool) (j : Nat) : (fl p j).length ≤ j := by
  have := List.length_filter_le (fun i => !p i) (List.range j)
  simpa [fl] using this
theorem fl_all {p : Nat → Bool} {j : Nat} (h : ∀ k, k < j → p k = false) : fl p j = cnt.sv j := by
  induction j with
  | zero => rfl
  | succ j ih =>
    rw [fl_succ, h j (by omega), cond_false, ih (fun k hk => h k (by omega)), cnt.sv_succ]
def sv (n : Nat) (one : Int) : List Int := fl (df.eq.sp one) n
theorem fidx_first (p : Nat → Bool) : ∀ (d i : Nat) (l : List Nat), (∀ k, k < d → l[k]? = some (i + k)) → l.length = d →
    (fidx.sq p l i = -1 ∧ ∀ k, i ≤ k → k < i + d → p k = false) ∨ ∃ j : Nat, fidx.sq p l i = (j : Int) ∧ i ≤ j ∧ j < i + d ∧ p j = true ∧ ∀ k, i ≤ k → k < j → p k = false := by
  intro d
  induction d with
  | zero =>
    intro i l h hl
    obtain rfl := List.length_eq_zero_iff.1 hl
    exact .inl ⟨rfl, fun k h1 h2 => by omega⟩
  | succ d ih =>
    intro i l h hl
    cases l with
    | nil => simp at hl
    | cons x r =>
      have hx := h 0 (by omega)
      simp only [List.getElem?_cons_zero, Option.some.injEq, Nat.add_zero] at hx
      subst hx
      cases hp : p x with
      | true => exact .inr ⟨x, by simp only [fidx.sq, hp, cond_true], Nat.le_refl _, by omega, hp, fun k h1 h2 => by omega⟩
      | false =>
        have := ih (x + 1) r (fun k hk => by
          have := h (k + 1) (by omega)
          rw [List.getElem?_cons_succ] at this
          rw [this]; congr 1; omega) (by simpa using hl)
        simp only [fidx.sq, hp, cond_false]
        rcases this with ⟨h1, h2⟩ | ⟨j, h1, h2, h3, h4, h5⟩
        · refine .inl ⟨h1, fun k k1 k2 => ?_⟩
          by_cases e : k = x
          · subst e; exact hp
          · exact h2 k (by omega) (by omega)
        · refine .inr ⟨j, h1, by omega, by omega, h4, fun k k1 k2 => ?_⟩
          by_cases e : k = x
          · subst e; exact hp
          · exact h5 k (by omega) k2
theorem ix_first (n : Nat) (p : Nat → Bool) : (df.ix.sv n p = -1 ∧ ∀ k, k < n → p k = false) ∨ ∃ j : Nat, df.ix.sv n p = (j : Int) ∧ j < n ∧ p j = true ∧ ∀ k, k < j → p k = false := by
  rcases fidx_first p n 0 (List.range n) (fun k hk => by rw [List.getElem?_range hk]; simp) (by simp) with ⟨h1, h2⟩ | ⟨j, h1, _, h3, h4, h5⟩
  · exact .inl ⟨h1, fun k hk => h2 k (Nat.zero_le _) (by omega)⟩
  · exact .inr ⟨j, h1, by omega, h4, fun k hk => h5 k (Nat.zero_le _) hk⟩
/-- One round: what is kept goes to the front. -/
theorem keep {p : Nat → Bool} {m i j : Nat} {zs : List Int} (hl : zs.length = m) (hi : i < j) (hj : j < m) (h1 : zs.take i = fl p j) (hil : i = (fl p j).length) (h2 : zs.drop j = (cnt.sv m).drop j) (hp : p j = false) :
    (zs.set i (j : Int)).take (i + 1) = fl p (j + 1) ∧ i + 1 = (fl p (j + 1)).length ∧ (zs.set i (j : Int)).drop (j + 1) = (cnt.sv m).drop (j + 1) := by
  have e : fl p (j + 1) = fl p j ++ [(j : Int)] := by rw [fl_succ, hp, cond_false]
  refine ⟨?_, by rw [e, List.length_append, ← hil]; rfl, ?_⟩
  · rw [e, List.take_add_one, List.take_set_of_le (Nat.le_refl _), h1]
    congr 1
    simp [show i < zs.length by omega]
  · rw [List.drop_set_of_lt (by omega)]
    have := congrArg (List.drop 1) h2
    simpa [List.drop_drop, Nat.add_comm] using this
theorem at_j {m j : Nat} {zs : List Int} (hl : zs.length = m) (hj : j < m) (h2 : zs.drop j = (cnt.sv m).drop j) : gz zs j = (j : Int) := by
  have := congrArg (fun l => l[0]?) h2
  simp only [List.getElem?_drop, Nat.add_zero] at this
  rw [gz_eq (by omega)]
  rw [List.getElem?_eq_getElem (by omega), List.getElem?_eq_getElem (by rw [cnt.sv_length]; exact hj)] at this
  simp only [Option.some.injEq] at this
  rw [this]; simp [cnt.sv, br.up]
end df

namespace pc
/-- Is one cell better than another for one, and not worse for the other? -/
def b.sp (xs ys : List Int) (x y : Nat) : Bool := (decide (gz xs x ≤ gz xs y) && decide (gz ys x ≤ gz ys y)) && (decide (gz xs x < gz xs y) || decide (gz ys x < gz ys y))
def F (xs ys : List Int) (n : Nat) : List Nat := (List.range n).filter fun x => !df.ex.sp xs.length (b.sp xs ys x)
def sv (xs ys : List Int) : List Int := br.up (F xs ys xs.length)
theorem F_succ (xs ys : List Int) (n : Nat) : F xs ys (n + 1) = F xs ys n ++ (bif df.ex.sp xs.length (b.sp xs ys n) then [] else [n]) := by
  simp only [F, List.range_succ, List.filter_append]
  cases h : df.ex.sp xs.length (b.sp xs ys n) <;> simp [h]
theorem F_length (xs ys : List Int) (n : Nat) : (F xs ys n).length ≤ n := by
  have := List.length_filter_le (fun x => !df.ex.sp xs.length (b.sp xs ys x)) (List.range n)
  simpa [F] using this
end pc

namespace without1
def R : List AVal → Option (Bool × AVal × List Blk)
  | [.int .i64 k, .rom [.int .i64 one] 0] => some (true, .bool (k == one), [])
  | _ => none
theorem go (k one : Int) :
  runFn Try.prog (orc []) hd0 Dr.std none 0 (bodyOf Try.f57) 7 [3] [.int .i64 k, .rom [.int .i64 one] 0] []
  = (some (AVal.bool (k == one), [])) := by kernel_rfl
theorem run : ∀ args v new, R args = some (true, v, new) → ∃ fuel, runFn Try.prog (orc []) hd0 Dr.std none fuel (bodyOf Try.f57) 7 [3] args [] = some (v, new) := by
  intro args v new h
  unfold R at h
  split at h
  · rename_i k one
    simp only [Option.some.injEq, Prod.mk.injEq] at h
    obtain ⟨_, rfl, rfl⟩ := h
    refine ⟨0, ?_⟩
    rw [go]
  · cases h
theorem ok : EntOk Try.prog ⟨57, R⟩ :=
  ent_okA mixed (A := (orc [])) (orc_ok (by simp)) Try.func57 (by kernel_rfl) (by kernel_rfl) (n := 7) (ts := [3]) (hd := hd0) (dr := Dr.std) (cut := none) (by kernel_rfl) (by kernel_rfl) (by kernel_rfl) run
end without1

namespace woIdx
def R : List AVal → Option (Bool × AVal × List Blk)
  | [.ro (.ints .i64 zs) m 1, .fn ff [.rom [.int .i64 one] 0]] => some (decide (m ≤ 100 ∧ zs = cnt.sv m ∧ ff = 57) && (true), .int .i64 (df.ix.sv m (df.eq.sp one)), [])
  | _ => none
def hd : Nat → Head := fun _ => ⟨[0, 1, 4, 7, 8], none⟩
noncomputable def L (f n : Nat) (s : State) := loopAt Try.prog (orc [⟨57, without1.R⟩]) hd Dr.std 0 f (bodyOf Try.f58) 0 [true, false, true] (retK Try.prog [4] 0 none) n s
theorem start (zs : List Int) (m : Nat) (one : Int) (f : Nat) :
  runFn Try.prog (orc [⟨57, without1.R⟩]) hd Dr.std none f (bodyOf Try.f58) 19 [4] [.ro (.ints .i64 zs) m 1, .fn 57 [.rom [.int .i64 one] 0]] []
  = (L f f (mkS (19 : Nat) [((0 : Nat), AVal.ro (Cont.ints IntKind.i64 zs) m (1 : Nat)), ((1 : Nat), AVal.fn (57 : Nat) [AVal.rom [AVal.int IntKind.i64 one] (0 : Nat)]), ((4 : Nat), AVal.int IntKind.i64 (0 : Int)), ((7 : Nat), AVal.int IntKind.i64 (↑m : Int)), ((8 : Nat), AVal.int IntKind.i64 (0 : Int))] [])) := by kernel_rfl
theorem round (zs : List Int) (m i0 : Nat) (one : Int) (f n : Nat) :
  L f (n + 1) (mkS 19 [(0, .ro (.ints .i64 zs) m 1), (1, .fn 57 [.rom [.int .i64 one] 0]), (4, .int .i64 0), (7, .int .i64 m), (8, .int .i64 (i0 : Int))] [])
  = (bif decide ((↑i0 : Int) < (↑m : Int)) then bif true && (decide ((0 : Int) ≤ (↑i0 : Int)) && decide ((↑i0 : Int) < (↑m : Int))) then bif decide ((↑i0 : Int).toNat < zs.length) then bif true && (true && (true && true && true) || true && true) then bif gz zs (↑i0 : Int).toNat == one then some (AVal.int IntKind.i64 (↑i0 : Int), []) else L f n (mkS (19 : Nat) [((0 : Nat), AVal.ro (Cont.ints IntKind.i64 zs) m (1 : Nat)), ((1 : Nat), AVal.fn (57 : Nat) [AVal.rom [AVal.int IntKind.i64 one] (0 : Nat)]), ((4 : Nat), AVal.int IntKind.i64 (0 : Int)), ((7 : Nat), AVal.int IntKind.i64 (↑m : Int)), ((8 : Nat), AVal.int IntKind.i64 (IntKind.i64.wrap ((↑i0 : Int) + (1 : Int))))] []) else none else none else none else some (AVal.int IntKind.i64 (-1 : Int), [])) := by kernel_rfl
theorem loop (zs : List Int) (m : Nat) (one : Int) (f : Nat)  (hm : m ≤ 100) (hz : zs = cnt.sv m) : ∀ (d i0 n : Nat), i0 + d = m → d < n →
    L f n (mkS 19 [(0, .ro (.ints .i64 zs) m 1), (1, .fn 57 [.rom [.int .i64 one] 0]), (4, .int .i64 0), (7, .int .i64 m), (8, .int .i64 (i0 : Int))] []) = some (.int .i64 (fidx.sq (df.eq.sp one) ((List.range m).drop i0) i0), []) := by
  have lz : zs.length = m := by rw [hz, cnt.sv_length]
  intro d
  induction d with
  | zero =>
    intro i0 n hi hn
    obtain ⟨n, rfl⟩ : ∃ k, n = k + 1 := ⟨n - 1, by omega⟩
    obtain rfl : i0 = m := by omega
    rw [round]
    have e : (List.range i0).drop i0 = [] := List.drop_of_length_le (by simp)
    rw [e]
    simp -implicitDefEqProofs (disch := omega) only [take_one, set_one, decide_eq_true, decide_eq_false, IntWalk.i64_in, beqT, beqF, bneT, bneF, nat_succ, ← Int.natCast_mul, ← Int.natCast_add, Int.toNat_natCast, Int.zero_mul, Int.zero_add, Int.add_zero, Nat.zero_add, Nat.add_zero, Nat.zero_mul, List.length_singleton, List.length_append, List.length_nil, List.length_cons, List.take_length, List.drop_zero, List.replicate_zero, List.take_nil, List.nil_append, Nat.reduceBEq, Nat.reduceMul, Nat.reduceLeDiff, eq_self, and_self, true_and, and_true, decide_true, decide_false, Bool.and_self, Bool.or_self, Bool.and_true, Bool.true_and, Bool.and_false, Bool.false_and, Bool.or_true, Bool.true_or, Bool.or_false, Bool.false_or, Bool.not_true, Bool.not_false, cond_true, cond_false]
    rfl
  | succ d ih =>
    intro i0 n hi hn
    obtain ⟨n, rfl⟩ : ∃ k, n = k + 1 := ⟨n - 1, by omega⟩
    have h1 : i0 < m := by omega
    have hg : gz zs i0 = (i0 : Int) := by rw [hz]; exact cnt.sv_get h1
    have hr0 := ih (i0 + 1) n (by omega) (by omega)
    have hq : ((i0 : Int) == one) = df.eq.sp one i0 := rfl
    rw [round, df.drop_range h1]
    simp only [fidx.sq]
    simp -implicitDefEqProofs (disch := omega) only [hg, hq, take_one, set_one, decide_eq_true, decide_eq_false, IntWalk.i64_in, beqT, beqF, bneT, bneF, nat_succ, ← Int.natCast_mul, ← Int.natCast_add, Int.toNat_natCast, Int.zero_mul, Int.zero_add, Int.add_zero, Nat.zero_add, Nat.add_zero, Nat.zero_mul, List.length_singleton, List.length_append, List.length_nil, List.length_cons, List.take_length, List.drop_zero, List.replicate_zero, List.take_nil, List.nil_append, Nat.reduceBEq, Nat.reduceMul, Nat.reduceLeDiff, eq_self, and_self, true_and, and_true, decide_true, decide_false, Bool.and_self, Bool.or_self, Bool.and_true, Bool.true_and, Bool.and_false, Bool.false_and, Bool.or_true, Bool.true_or, Bool.or_false, Bool.false_or, Bool.not_true, Bool.not_false, cond_true, cond_false]
    rw [hr0]
    cases (df.eq.sp one) i0 <;> rfl
theorem run : ∀ args v new, R args = some (true, v, new) → ∃ fuel, runFn Try.prog (orc [⟨57, without1.R⟩]) hd Dr.std none fuel (bodyOf Try.f58) 19 [4] args [] = some (v, new) := by
  intro args v new h
  unfold R at h
  split at h
  · rename_i zs m ff one
    simp only [Option.some.injEq, Prod.mk.injEq, Bool.and_true, decide_eq_true_eq] at h
    obtain ⟨⟨h1, hz, rfl⟩, rfl, rfl⟩ := h
    refine ⟨m + 1, ?_⟩
    rw [start]
    have hl := loop zs m one (m + 1)  (by omega) hz m 0 (m + 1) (by omega) (by omega)
    rw [List.drop_zero] at hl
    exact hl
  · cases h
theorem ok : EntOk Try.prog ⟨58, R⟩ :=
  ent_okA mixed (A := (orc [⟨57, without1.R⟩])) (orc_ok (by simp only [List.mem_cons, List.not_mem_nil, or_false, forall_eq_or_imp, forall_eq]; exact without1.ok)) Try.func58 (by kernel_rfl) (by kernel_rfl) (n := 19) (ts := [4]) (hd := hd) (dr := Dr.std) (cut := none) (by kernel_rfl) (by kernel_rfl) (by kernel_rfl) run
end woIdx

namespace woDel
def R : List AVal → Heap → Option (Bool × AVal × Heap)
  | [.own 0 0 m 0 1, .fn ff [.ptr 1 0 0]], [⟨.typ (.ints .i64 zs), 0⟩, ⟨.cells [.int .i64 one], 0⟩] => some (decide (m ≤ 100 ∧ zs = cnt.sv m ∧ ff = 57), .own 0 0 (df.sv m one).length 0 1, [⟨.typ (.ints .i64 (df.sv m one ++ List.replicate (m - (df.sv m one).length) 0)), 0⟩, ⟨.cells [.int .i64 one], 0⟩])
  | _, _ => none
def hd : Nat → Head := fun _ => ⟨[0, 1, 5, 6], some 0⟩
noncomputable def L (f n : Nat) (s : State) := loopAt Try.prog (orc [⟨58, woIdx.R⟩, ⟨57, without1.R⟩]) hd Dr.std 2 f (bodyOf Try.f56) 0 [true, true, true, false, true] (retK Try.prog [4] 2 (some 0)) n s
theorem start (zs : List Int) (one : Int) (m : Nat) (f : Nat) :
  runFn Try.prog (orc [⟨58, woIdx.R⟩, ⟨57, without1.R⟩]) hd Dr.std (some 0) f (bodyOf Try.f56) 42 [4] [.own 0 0 m 0 1, .fn 57 [.ptr 1 0 0]] [⟨.typ (.ints .i64 zs), 0⟩, ⟨.cells [.int .i64 one], 0⟩]
  = (bif true && (true && true) then bif decide (m ≤ (100 : Nat) ∧ zs = cnt.sv m ∧ (57 : FuncId) = (57 : FuncId)) && true && (false && false || true && true) then bif df.ix.sv m (df.eq.sp one) == (-1 : Int) then some (AVal.own (0 : Nat) (0 : Nat) m (0 : Nat) (1 : Nat), [{ c := BC.typ (Cont.ints IntKind.i64 zs), ver := (0 : Nat) }, { c := BC.cells [AVal.int IntKind.i64 one], ver := (0 : Nat) }]) else L f f (mkS (42 : Nat) [((0 : Nat), AVal.own (0 : Nat) (0 : Nat) m (0 : Nat) (1 : Nat)), ((1 : Nat), AVal.fn (57 : Nat) [AVal.ptr (1 : Nat) (0 : Nat) (0 : Nat)]), ((5 : Nat), AVal.int IntKind.i64 (df.ix.sv m (df.eq.sp one))), ((6 : Nat), AVal.int IntKind.i64 (IntKind.i64.wrap (df.ix.sv m (df.eq.sp one) + (1 : Int))))] [{ c := BC.typ (Cont.ints IntKind.i64 zs), ver := (0 : Nat) }, { c := BC.cells [AVal.int IntKind.i64 one], ver := (0 : Nat) }]) else none else none) := by kernel_rfl
theorem round (zs : List Int) (one : Int) (m : Nat) (i j f n : Nat) :
  L f (n + 1) (mkS 42 [(0, .own 0 0 m 0 1), (1, .fn 57 [.ptr 1 0 0]), (5, .int .i64 (i : Int)), (6, .int .i64 (j : Int))] [⟨.typ (.ints .i64 zs), 0⟩, ⟨.cells [.int .i64 one], 0⟩])
  = (bif decide ((↑j : Int) < (↑m : Int)) then bif true && (decide ((0 : Int) ≤ (↑j : Int)) && decide ((↑j : Int) < (↑m : Int))) then bif true && decide ((↑j : Int).toNat < zs.length) then bif true && (true && false || true && true) then bif !gz zs (↑j : Int).toNat == one then bif true && (decide ((0 : Int) ≤ (↑i : Int)) && decide ((↑i : Int) < (↑m : Int))) then bif true && (true && (decide ((↑i : Int).toNat < zs.length) && true)) then L f n (mkS (42 : Nat) [((0 : Nat), AVal.own (0 : Nat) (0 : Nat) m (0 : Nat) (1 : Nat)), ((1 : Nat), AVal.fn (57 : Nat) [AVal.ptr (1 : Nat) (0 : Nat) (0 : Nat)]), ((5 : Nat), AVal.int IntKind.i64 (IntKind.i64.wrap ((↑i : Int) + (1 : Int)))), ((6 : Nat), AVal.int IntKind.i64 (IntKind.i64.wrap ((↑j : Int) + (1 : Int))))] [{ c := BC.typ (Cont.ints IntKind.i64 (zs.set (↑i : Int).toNat (gz zs (↑j : Int).toNat))), ver := (0 : Nat) }, { c := BC.cells [AVal.int IntKind.i64 one], ver := (0 : Nat) }]) else none else none else L f n (mkS (42 : Nat) [((0 : Nat), AVal.own (0 : Nat) (0 : Nat) m (0 : Nat) (1 : Nat)), ((1 : Nat), AVal.fn (57 : Nat) [AVal.ptr (1 : Nat) (0 : Nat) (0 : Nat)]), ((5 : Nat), AVal.int IntKind.i64 (↑i : Int)), ((6 : Nat), AVal.int IntKind.i64 (IntKind.i64.wrap ((↑j : Int) + (1 : Int))))] [{ c := BC.typ (Cont.ints IntKind.i64 zs), ver := (0 : Nat) }, { c := BC.cells [AVal.int IntKind.i64 one], ver := (0 : Nat) }]) else none else none else none else bif true && (true && (decide ((0 : Int) ≤ (↑i : Int)) && decide ((↑i : Int) ≤ (↑m : Int)) && (eqN (↑i : Int).toNat (0 : Nat) || decide ((↑i : Int).toNat < m)))) then bif true && true && decide ((↑i : Int).toNat + (m - (↑i : Int).toNat) ≤ zs.length) then bif true && (decide ((0 : Int) ≤ (↑i : Int)) && decide ((↑i : Int) ≤ (↑m : Int)) && (true && (true || decide ((0 : Nat) < (↑i : Int).toNat)))) then some (AVal.own (0 : Nat) (0 : Nat) ((↑i : Int).toNat - (0 : Nat)) (0 : Nat) (1 : Nat), [{ c := BC.typ (Cont.ints IntKind.i64 (List.take (↑i : Int).toNat zs ++ (List.replicate (m - (↑i : Int).toNat) (0 : Int) ++ List.drop ((↑i : Int).toNat + (m - (↑i : Int).toNat)) zs))), ver := (0 : Nat) }, { c := BC.cells [AVal.int IntKind.i64 one], ver := (0 : Nat) }]) else none else none else none) := by kernel_rfl
theorem loop (one : Int) (m f : Nat) (hm : m ≤ 100) : ∀ (d i j n : Nat) (zs : List Int), j + d = m → d < n → i < j → zs.length = m → zs.take i = df.fl (df.eq.sp one) j → i = (df.fl (df.eq.sp one) j).length → zs.drop j = (cnt.sv m).drop j →
    L f n (mkS 42 [(0, .own 0 0 m 0 1), (1, .fn 57 [.ptr 1 0 0]), (5, .int .i64 (i : Int)), (6, .int .i64 (j : Int))] [⟨.typ (.ints .i64 zs), 0⟩, ⟨.cells [.int .i64 one], 0⟩]) = some (.own 0 0 (df.sv m one).length 0 1, [⟨.typ (.ints .i64 (df.sv m one ++ List.replicate (m - (df.sv m one).length) 0)), 0⟩, ⟨.cells [.int .i64 one], 0⟩]) := by
  intro d
  induction d with
  | zero =>
    intro i j n zs hj hn hi hl k1 k2 k3
    obtain ⟨n, rfl⟩ : ∃ k, n = k + 1 := ⟨n - 1, by omega⟩
    obtain rfl : j = m := by omega
    have es : df.sv j one = df.fl (df.eq.sp one) j := rfl
    have e2 : zs.drop (i + (j - i)) = [] := List.drop_of_length_le (by omega)
    rw [es, ← k2, ← k1]
    rw [round]
    simp -implicitDefEqProofs (disch := omega) only [e2, Nat.mul_one, Nat.sub_zero, List.append_nil, beq_self_eq_true, take_one, set_one, decide_eq_true, decide_eq_false, IntWalk.i64_in, beqT, beqF, bneT, bneF, nat_succ, ← Int.natCast_mul, ← Int.natCast_add, Int.toNat_natCast, Int.zero_mul, Int.zero_add, Int.add_zero, Nat.zero_add, Nat.add_zero, Nat.zero_mul, List.length_singleton, List.length_append, List.length_nil, List.length_cons, List.take_length, List.drop_zero, List.replicate_zero, List.take_nil, List.nil_append, Nat.reduceBEq, Nat.reduceMul, Nat.reduceLeDiff, eq_self, and_self, true_and, and_true, decide_true, decide_false, Bool.and_self, Bool.or_self, Bool.and_true, Bool.true_and, Bool.and_false, Bool.false_and, Bool.or_true, Bool.true_or, Bool.or_false, Bool.false_or, Bool.not_true, Bool.not_false, cond_true, cond_false]
    try rfl
  | succ d ih =>
    intro i j n zs hj' hn hi hl k1 k2 k3
    obtain ⟨n, rfl⟩ : ∃ k, n = k + 1 := ⟨n - 1, by omega⟩
    have hj : j < m := by omega
    have hat := df.at_j hl hj k3
    have k3' : zs.drop (j + 1) = (cnt.sv m).drop (j + 1) := by
      have := congrArg (List.drop 1) k3
      simpa [List.drop_drop, Nat.add_comm] using this
    have hq : ((j : Int) == one) = df.eq.sp one j := rfl
    rw [round]
    cases hp : df.eq.sp one j
    · obtain ⟨q1, q2, q3⟩ := df.keep hl hi hj k1 k2 k3 hp
      have hih := ih (i + 1) (j + 1) n (zs.set i (j : Int)) (by omega) (by omega) (by omega) (by simpa using hl) q1 q2 q3
      simp -implicitDefEqProofs (disch := omega) only [hat, hq, hp, take_one, set_one, decide_eq_true, decide_eq_false, IntWalk.i64_in, bneT, bneF, nat_succ, ← Int.natCast_mul, ← Int.natCast_add, Int.toNat_natCast, Int.zero_mul, Int.zero_add, Int.add_zero, Nat.zero_add, Nat.add_zero, Nat.zero_mul, List.length_singleton, List.length_append, List.length_nil, List.length_cons, List.take_length, List.drop_zero, List.replicate_zero, List.take_nil, List.nil_append, Nat.reduceBEq, Nat.reduceMul, Nat.reduceLeDiff, eq_self, and_self, true_and, and_true, decide_true, decide_false, Bool.and_self, Bool.or_self, Bool.and_true, Bool.true_and, Bool.and_false, Bool.false_and, Bool.or_true, Bool.true_or, Bool.or_false, Bool.false_or, Bool.not_true, Bool.not_false, cond_true, cond_false]
      exact hih
    · have e : df.fl (df.eq.sp one) (j + 1) = df.fl (df.eq.sp one) j := by rw [df.fl_succ, hp]; rfl
      have hih := ih i (j + 1) n zs (by omega) (by omega) (by omega) hl (by rw [e]; exact k1) (by rw [e]; exact k2) k3'
      simp -implicitDefEqProofs (disch := omega) only [hat, hq, hp, take_one, set_one, decide_eq_true, decide_eq_false, IntWalk.i64_in, bneT, bneF, nat_succ, ← Int.natCast_mul, ← Int.natCast_add, Int.toNat_natCast, Int.zero_mul, Int.zero_add, Int.add_zero, Nat.zero_add, Nat.add_zero, Nat.zero_mul, List.length_singleton, List.length_append, List.length_nil, List.length_cons, List.take_length, List.drop_zero, List.replicate_zero, List.take_nil, List.nil_append, Nat.reduceBEq, Nat.reduceMul, Nat.reduceLeDiff, eq_self, and_self, true_and, and_true, decide_true, decide_false, Bool.and_self, Bool.or_self, Bool.and_true, Bool.true_and, Bool.and_false, Bool.false_and, Bool.or_true, Bool.true_or, Bool.or_false, Bool.false_or, Bool.not_true, Bool.not_false, cond_true, cond_false]
      exact hih
theorem run : ∀ args H v new, R args H = some (true, v, new) → ∃ fuel, runFn Try.prog (orc [⟨58, woIdx.R⟩, ⟨57, without1.R⟩]) hd Dr.std (some 0) fuel (bodyOf Try.f56) 42 [4] args H = some (v, new) := by
  intro args H v new h
  unfold R at h
  split at h
  · rename_i m ff zs one
    simp only [Option.some.injEq, Prod.mk.injEq, decide_eq_true_eq] at h
    obtain ⟨⟨q0, q5, rfl⟩, rfl, rfl⟩ := h
    refine ⟨m + 1, ?_⟩
    have lz : zs.length = m := by rw [q5, cnt.sv_length]
    have tz : zs.take m = zs := List.take_of_length_le (by omega)
    have dz : decide (m ≤ 100 ∧ zs = cnt.sv m) = true := decide_eq_true ⟨q0, q5⟩
    rw [start]
    rcases df.ix_first m (df.eq.sp one) with ⟨e1, e2⟩ | ⟨i, e1, e2, e3, e4⟩
    · have es : df.sv m one = zs := by rw [q5]; exact df.fl_all e2
      rw [es, lz, Nat.sub_self, List.replicate_zero, List.append_nil]
      simp -implicitDefEqProofs (disch := omega) only [e1, tz, dz, beq_self_eq_true, take_one, set_one, decide_eq_true, decide_eq_false, IntWalk.i64_in, beqT, beqF, bneT, bneF, nat_succ, ← Int.natCast_mul, ← Int.natCast_add, Int.toNat_natCast, Int.zero_mul, Int.zero_add, Int.add_zero, Nat.zero_add, Nat.add_zero, Nat.zero_mul, List.length_singleton, List.length_append, List.length_nil, List.length_cons, List.take_length, List.drop_zero, List.replicate_zero, List.take_nil, List.nil_append, Nat.reduceBEq, Nat.reduceMul, Nat.reduceLeDiff, eq_self, and_self, true_and, and_true, decide_true, decide_false, Bool.and_self, Bool.or_self, Bool.and_true, Bool.true_and, Bool.and_false, Bool.false_and, Bool.or_true, Bool.true_or, Bool.or_false, Bool.false_or, Bool.not_true, Bool.not_false, cond_true, cond_false]
    · have hne : ((i : Int) == -1) = false := by simp only [beq_eq_false_iff_ne, ne_eq]; omega
      have ef : df.fl (df.eq.sp one) (i + 1) = cnt.sv i := by rw [df.fl_succ, e3, cond_true]; exact df.fl_all e4
      have et : zs.take i = cnt.sv i := by
        rw [q5]
        apply List.ext_getElem?
        intro k
        rw [List.getElem?_take]
        simp only [cnt.sv, br.up, List.getElem?_map]
        split
        · rename_i hk
          rw [List.getElem?_range (by omega), List.getElem?_range hk]
        · rename_i hk
          rw [List.getElem?_eq_none (by simp; omega)]; rfl
      have hl := loop one m (m + 1) q0 (m - (i + 1)) i (i + 1) (m + 1) zs (by omega) (by omega) (by omega) lz (by rw [ef]; exact et) (by rw [ef, cnt.sv_length]) (by rw [q5])
      simp -implicitDefEqProofs (disch := omega) only [e1, hne, tz, dz, take_one, set_one, decide_eq_true, decide_eq_false, IntWalk.i64_in, beqT, beqF, bneT, bneF, nat_succ, ← Int.natCast_mul, ← Int.natCast_add, Int.toNat_natCast, Int.zero_mul, Int.zero_add, Int.add_zero, Nat.zero_add, Nat.add_zero, Nat.zero_mul, List.length_singleton, List.length_append, List.length_nil, List.length_cons, List.take_length, List.drop_zero, List.replicate_zero, List.take_nil, List.nil_append, Nat.reduceBEq, Nat.reduceMul, Nat.reduceLeDiff, eq_self, and_self, true_and, and_true, decide_true, decide_false, Bool.and_self, Bool.or_self, Bool.and_true, Bool.true_and, Bool.and_false, Bool.false_and, Bool.or_true, Bool.true_or, Bool.or_false, Bool.false_or, Bool.not_true, Bool.not_false, cond_true, cond_false]
      exact hl
  · cases h
theorem ok : EntWOk Try.prog ⟨56, R⟩ :=
  entw_ok mixed (A := (orc [⟨58, woIdx.R⟩, ⟨57, without1.R⟩])) (orc_ok (by simp only [List.mem_cons, List.not_mem_nil, or_false, forall_eq_or_imp, forall_eq]; exact ⟨woIdx.ok, without1.ok⟩)) Try.func56 (by kernel_rfl) (by kernel_rfl) (n := 42) (ts := [4]) (hd := hd) (dr := Dr.std) (cut := (some 0)) (by kernel_rfl) (by kernel_rfl) (by kernel_rfl) run
end woDel

namespace without0
def R : List AVal → Option (Bool × AVal × List Blk)
  | [.int .i64 m, .int .i64 one] => some (decide (0 ≤ m ∧ m ≤ 100), .own 0 0 (df.sv m.toNat one).length 0 1, [⟨.typ (.ints .i64 (df.sv m.toNat one ++ List.replicate (m.toNat - (df.sv m.toNat one).length) 0)), 0⟩])
  | _ => none
theorem go (m one : Int) :
  regc [1] (runFn Try.prog (orcW [⟨56, woDel.R⟩] [⟨32, counting.R⟩]) hd0 Dr.std none 0 (bodyOf Try.f41) 9 [4] [.int .i64 m, .int .i64 one] [])
  = (match bif decide ((0 : Int) ≤ m ∧ m ≤ (1000 : Int)) && (true && true || true && (true && true)) then bif decide ((cnt.sv m.toNat).length ≤ (100 : Nat) ∧ cnt.sv m.toNat = cnt.sv (cnt.sv m.toNat).length ∧ (57 : Nat) = (57 : FuncId)) && (true && (true && (true && true))) then some (AVal.own (1 : Nat) (0 : Nat) (df.sv (cnt.sv m.toNat).length one).length (0 : Nat) (1 : Nat), [{ c := BC.cells [AVal.int IntKind.i64 one], ver := (0 : Nat) }, { c := BC.typ (Cont.ints IntKind.i64 (df.sv (cnt.sv m.toNat).length one ++ List.replicate ((cnt.sv m.toNat).length - (df.sv (cnt.sv m.toNat).length one).length) (0 : Int))), ver := (0 : Nat) }]) else none else none with
| some (v, h) =>
  bif true && (ltN (1 : Nat) (hlen h) && true) then
    some
      (AVal.re [(1 : Nat)] h v,
        match nth h (1 : Nat) with
        | some b => { c := BC.re [(1 : Nat)] h b.c, ver := b.ver } :: reB [(1 : Nat)] h []
        | none => { c := BC.cells [], ver := (0 : Nat) } :: reB [(1 : Nat)] h [])
  else none
| none => none) := by kernel_rfl
theorem run : ∀ args v new, R args = some (true, v, new) → ∃ fuel, regc [1] (runFn Try.prog (orcW [⟨56, woDel.R⟩] [⟨32, counting.R⟩]) hd0 Dr.std none fuel (bodyOf Try.f41) 9 [4] args []) = some (v, new) := by
  intro args v new h
  unfold R at h
  split at h
  · rename_i m one
    simp only [Option.some.injEq, Prod.mk.injEq, decide_eq_true_eq] at h
    obtain ⟨⟨h1, h2⟩, rfl, rfl⟩ := h
    obtain ⟨m, rfl⟩ : ∃ q : Nat, m = q := ⟨m.toNat, by omega⟩
    have lz : (cnt.sv m).length = m := cnt.sv_length m
    refine ⟨0, ?_⟩
    rw [go]
    simp -implicitDefEqProofs (disch := omega) only [lz, take_one, set_one, decide_eq_true, decide_eq_false, IntWalk.i64_in, beqT, beqF, bneT, bneF, nat_succ, ← Int.natCast_mul, ← Int.natCast_add, Int.toNat_natCast, Int.zero_mul, Int.zero_add, Int.add_zero, Nat.zero_add, Nat.add_zero, Nat.zero_mul, List.length_singleton, List.length_append, List.length_nil, List.length_cons, List.take_length, List.drop_zero, List.replicate_zero, List.take_nil, List.nil_append, Nat.reduceBEq, Nat.reduceMul, Nat.reduceLeDiff, eq_self, and_self, true_and, and_true, decide_true, decide_false, Bool.and_self, Bool.or_self, Bool.and_true, Bool.true_and, Bool.and_false, Bool.false_and, Bool.or_true, Bool.true_or, Bool.or_false, Bool.false_or, Bool.not_true, Bool.not_false, cond_true, cond_false]
    rfl
  · cases h
theorem ok : EntOk Try.prog ⟨41, R⟩ :=
  ent_okAG (ks := [1]) mixed (A := (orcW [⟨56, woDel.R⟩] [⟨32, counting.R⟩])) (orcW_ok (by simp only [List.mem_cons, List.not_mem_nil, or_false, forall_eq_or_imp, forall_eq]; exact woDel.ok) (by simp only [List.mem_cons, List.not_mem_nil, or_false, forall_eq_or_imp, forall_eq]; exact counting.ok)) Try.func41 (by kernel_rfl) (by kernel_rfl) (n := 9) (ts := [4]) (hd := hd0) (dr := Dr.std) (cut := none) (by kernel_rfl) (by kernel_rfl) (by kernel_rfl) run
end without0

namespace without
def R : List AVal → Option (Bool × AVal × List Blk)
  | [.int .i64 m, .int .i64 one] => some (decide (0 ≤ m ∧ m ≤ 100), .own 0 0 (df.sv m.toNat one).length 0 1, [⟨.typ (.ints .i64 (df.sv m.toNat one)), 0⟩])
  | _ => none
theorem ok : EntOk Try.prog ⟨41, R⟩ := by
  refine EntOk.trim without0.ok fun args v new h => ?_
  unfold R at h
  split at h
  · rename_i m one
    simp only [Option.some.injEq, Prod.mk.injEq] at h
    obtain ⟨h, rfl, rfl⟩ := h
    refine ⟨.i64, df.sv m.toNat one ++ List.replicate (m.toNat - (df.sv m.toNat one).length) 0, (df.sv m.toNat one).length, ?_, ?_, ?_, ?_⟩
    · unfold without0.R
      simp only [h]
    · rw [List.take_left]
    · simp only [AVal.fits]
      simp
    · simp
  · cases h
end without

namespace df
theorem sv_one {n i : Nat} (hi : i < n) : (df.sv n (i : Int)).length + 1 = n := by
  have : ∀ n, (i < n → (fl (eq.sp (i : Int)) n).length + 1 = n) ∧ (n ≤ i → (fl (eq.sp (i : Int)) n).length = n) := by
    intro n
    induction n with
    | zero => exact ⟨fun h => by omega, fun _ => rfl⟩
    | succ n ih =>
      rw [fl_succ]
      by_cases e : n = i
      · have : eq.sp (i : Int) n = true := by simp [eq.sp, e]
        rw [this, cond_true]
        exact ⟨fun _ => by rw [ih.2 (by omega)], fun h => by omega⟩
      · have : eq.sp (i : Int) n = false := by
          simp only [eq.sp, beq_eq_false_iff_ne, ne_eq]; omega
        rw [this, cond_false, List.length_append, List.length_singleton]
        exact ⟨fun h => by have := ih.1 (by omega); omega, fun h => by have := ih.2 (by omega); omega⟩
  exact (this n).1 hi
theorem sv_mem {n : Nat} {one x : Int} : x ∈ df.sv n one ↔ 0 ≤ x ∧ x < n ∧ x ≠ one := by
  simp only [df.sv, fl, List.mem_map, List.mem_filter, List.mem_range, eq.sp, Bool.not_eq_true', beq_eq_false_iff_ne, ne_eq]
  constructor
  · rintro ⟨k, ⟨h1, h2⟩, rfl⟩; omega
  · intro ⟨h1, h2, h3⟩
    exact ⟨x.toNat, ⟨by omega, by omega⟩, by omega⟩
theorem sv_all (n : Nat) (one : Int) : (df.sv n one).all (pt.in.sp (n : Int)) = true := by
  rw [List.all_eq_true]
  intro x hx
  have := sv_mem.1 hx
  simp only [pt.in.sp, Bool.and_eq_true, decide_eq_true_eq]
  omega
theorem cnt_all (n : Nat) : (cnt.sv n).all (pt.in.sp (n : Int)) = true := by
  rw [List.all_eq_true]
  intro x hx
  simp only [cnt.sv, br.up, List.mem_map, List.mem_range] at hx
  obtain ⟨k, hk, rfl⟩ := hx
  simp only [pt.in.sp, Bool.and_eq_true, decide_eq_true_eq]
  omega
end df

namespace iLessRow
def dr : Nat → Dr := fun i => bif eqN i 3 then ⟨some [0, 1, 2, 3, 5, 6, 4, 7, 8, 9, 10], false⟩ else ⟨none, false⟩
def R : List AVal → Option (Bool × AVal × List Blk)
  | [.agg [.int .i64 r, .int .i64 c, .ro (.ints .i64 xs) ma 1, .ro (.ints .i64 ys) mb 1], .int .i64 i] => some (decide (ma = xs.length ∧ mb = ys.length ∧ ma ≤ 4611686018427387904 ∧ mb ≤ 4611686018427387904 ∧ 0 ≤ i ∧ i < r ∧ 2 ≤ r) && gm.sp r c xs ys, .tup [.agg [.int .i64 (df.sv r.toNat i).length, .int .i64 (cnt.sv c.toNat).length, .own 0 0 ((df.sv r.toNat i).length * (cnt.sv c.toNat).length) 0 1, .own 1 0 ((df.sv r.toNat i).length * (cnt.sv c.toNat).length) 0 1], .bool true], [⟨.typ (.ints .i64 (pt.sv c.toNat xs (df.sv r.toNat i) (cnt.sv c.toNat))), 0⟩, ⟨.typ (.ints .i64 (pt.sv c.toNat ys (df.sv r.toNat i) (cnt.sv c.toNat))), 0⟩])
  | _ => none
theorem go (r c : Int) (xs ys : List Int) (i : Int) :
  regc [4, 5] (runFn Try.prog (orc [⟨13, iValidGame.R⟩, ⟨40, gHasRow.R⟩, ⟨41, without.R⟩, ⟨32, counting.R⟩, ⟨33, gOf.R⟩]) hd0 dr none 0 (bodyOf Try.f19) 30 [.cell 4 26, 5] [.agg [.int .i64 r, .int .i64 c, .ro (.ints .i64 xs) xs.length 1, .ro (.ints .i64 ys) ys.length 1], .int .i64 i] [])
  = (match bif true && true && (true && true && (true && true && (true && true && true))) then bif decide (xs.length = xs.length ∧ ys.length = ys.length ∧ xs.length ≤ (4611686018427387904 : Nat) ∧ ys.length ≤ (4611686018427387904 : Nat)) && (true && (true && (true && (true && true))) && true || true && true) then bif !gm.sp r c xs ys then some (AVal.tup [AVal.agg [AVal.int IntKind.i64 (0 : Int), AVal.int IntKind.i64 (0 : Int), AVal.nils, AVal.nils], AVal.bool false], [{ c := BC.cells [AVal.int IntKind.i64 r, AVal.int IntKind.i64 c, AVal.ro (Cont.ints IntKind.i64 xs) xs.length (1 : Nat), AVal.ro (Cont.ints IntKind.i64 ys) ys.length (1 : Nat)], ver := (0 : Nat) }, { c := BC.cells [AVal.int IntKind.i64 (0 : Int), AVal.int IntKind.i64 (0 : Int), AVal.nils, AVal.nils], ver := (0 : Nat) }]) else bif true && true && (true && true && (true && true && (true && true && true))) then bif decide ((1 : Int) ≤ r ∧ r ≤ (6 : Int)) && (true && (true && (true && (true && true))) && (true && true) || true && true) then bif !(decide ((0 : Int) ≤ i) && decide (i ≤ r - (1 : Int))) then some (AVal.tup [AVal.agg [AVal.int IntKind.i64 (0 : Int), AVal.int IntKind.i64 (0 : Int), AVal.nils, AVal.nils], AVal.bool false], [{ c := BC.cells [AVal.int IntKind.i64 r, AVal.int IntKind.i64 c, AVal.ro (Cont.ints IntKind.i64 xs) xs.length (1 : Nat), AVal.ro (Cont.ints IntKind.i64 ys) ys.length (1 : Nat)], ver := (0 : Nat) }, { c := BC.cells [AVal.int IntKind.i64 (0 : Int), AVal.int IntKind.i64 (0 : Int), AVal.nils, AVal.nils], ver := (0 : Nat) }]) else bif true && true then bif r == (1 : Int) then some (AVal.tup [AVal.agg [AVal.int IntKind.i64 (0 : Int), AVal.int IntKind.i64 (0 : Int), AVal.nils, AVal.nils], AVal.bool false], [{ c := BC.cells [AVal.int IntKind.i64 r, AVal.int IntKind.i64 c, AVal.ro (Cont.ints IntKind.i64 xs) xs.length (1 : Nat), AVal.ro (Cont.ints IntKind.i64 ys) ys.length (1 : Nat)], ver := (0 : Nat) }, { c := BC.cells [AVal.int IntKind.i64 (0 : Int), AVal.int IntKind.i64 (0 : Int), AVal.nils, AVal.nils], ver := (0 : Nat) }]) else bif true && true && (true && true && (true && true && (true && true && true))) then bif true && true then bif true && true then bif decide ((0 : Int) ≤ r ∧ r ≤ (100 : Int)) && (true && (true && true) || true && (true && true)) then bif decide ((0 : Int) ≤ c ∧ c ≤ (1000 : Int)) && (true && true || true && (true && true)) then bif decide (xs.length = xs.length ∧ ys.length = ys.length ∧ (df.sv r.toNat i).length = (df.sv r.toNat i).length ∧ (cnt.sv c.toNat).length = (cnt.sv c.toNat).length ∧ (1 : Nat) ≤ (df.sv r.toNat i).length ∧ (df.sv r.toNat i).length ≤ (6 : Nat) ∧ (1 : Nat) ≤ (cnt.sv c.toNat).length ∧ (cnt.sv c.toNat).length ≤ (6 : Nat)) && (gm.sp r c xs ys && ((df.sv r.toNat i).all (pt.in.sp r) && (cnt.sv c.toNat).all (pt.in.sp c))) && (true && (true && (true && (true && true))) && (false && (false && true)) || true && (true && (true && (true && true))) && (true && (true && true))) then bif true && (true && (true && decide ((0 : Nat) < (4 : Nat)) && (true && decide ((1 : Nat) < (4 : Nat)) && (true && decide ((2 : Nat) < (3 : Nat) + (1 : Nat)) && (true && decide ((3 : Nat) < (2 : Nat) + (1 : Nat) + (1 : Nat)) && true))))) then bif true && true && (true && true && (true && true && (true && true && true))) && true then some (AVal.tup [AVal.agg [AVal.int IntKind.i64 (↑(df.sv r.toNat i).length : Int), AVal.int IntKind.i64 (↑(cnt.sv c.toNat).length : Int), AVal.own ((1 : Nat) + (1 : Nat) + (1 : Nat) + (1 : Nat) + (0 : Nat)) (0 : Nat) ((df.sv r.toNat i).length * (cnt.sv c.toNat).length) (0 : Nat) (1 : Nat), AVal.own ((1 : Nat) + (1 : Nat) + (1 : Nat) + (1 : Nat) + (1 : Nat)) (0 : Nat) ((df.sv r.toNat i).length * (cnt.sv c.toNat).length) (0 : Nat) (1 : Nat)], AVal.bool true], [{ c := BC.cells [AVal.int IntKind.i64 r, AVal.int IntKind.i64 c, AVal.ro (Cont.ints IntKind.i64 xs) xs.length (1 : Nat), AVal.ro (Cont.ints IntKind.i64 ys) ys.length (1 : Nat)], ver := (0 : Nat) }, { c := BC.cells [AVal.int IntKind.i64 (↑(df.sv r.toNat i).length : Int), AVal.int IntKind.i64 (↑(cnt.sv c.toNat).length : Int), AVal.own ((1 : Nat) + (1 : Nat) + (1 : Nat) + (1 : Nat) + (0 : Nat)) (0 : Nat) ((df.sv r.toNat i).length * (cnt.sv c.toNat).length) (0 : Nat) (1 : Nat), AVal.own ((1 : Nat) + (1 : Nat) + (1 : Nat) + (1 : Nat) + (1 : Nat)) (0 : Nat) ((df.sv r.toNat i).length * (cnt.sv c.toNat).length) (0 : Nat) (1 : Nat)], ver := (0 : Nat) }, { c := BC.typ (Cont.ints IntKind.i64 (df.sv r.toNat i)), ver := (0 : Nat) }, { c := BC.typ (Cont.ints IntKind.i64 (cnt.sv c.toNat)), ver := (0 : Nat) }, { c := BC.typ (Cont.ints IntKind.i64 (pt.sv c.toNat xs (df.sv r.toNat i) (cnt.sv c.toNat))), ver := (0 : Nat) }, { c := BC.typ (Cont.ints IntKind.i64 (pt.sv c.toNat ys (df.sv r.toNat i) (cnt.sv c.toNat))), ver := (0 : Nat) }]) else none else none else none else none else none else none else none else none else none else none else none else none else none with
| some (v, h) =>
  bif true && (ltN (4 : Nat) (hlen h) && (ltN (5 : Nat) (hlen h) && true)) then
    some
      (AVal.re [(4 : Nat), (5 : Nat)] h v,
        match nth h (4 : Nat) with
        | some b => { c := BC.re [(4 : Nat), (5 : Nat)] h b.c, ver := b.ver } :: reB [(4 : Nat), (5 : Nat)] h [(5 : Nat)]
        | none => { c := BC.cells [], ver := (0 : Nat) } :: reB [(4 : Nat), (5 : Nat)] h [(5 : Nat)])
  else none
| none => none) := by kernel_rfl
theorem run : ∀ args v new, R args = some (true, v, new) → ∃ fuel, regc [4, 5] (runFn Try.prog (orc [⟨13, iValidGame.R⟩, ⟨40, gHasRow.R⟩, ⟨41, without.R⟩, ⟨32, counting.R⟩, ⟨33, gOf.R⟩]) hd0 dr none fuel (bodyOf Try.f19) 30 [.cell 4 26, 5] args []) = some (v, new) := by
  intro args v new h
  unfold R at h
  split at h
  · rename_i r c xs ma ys mb i
    simp only [Option.some.injEq, Prod.mk.injEq, Bool.and_eq_true, decide_eq_true_eq] at h
    obtain ⟨⟨⟨rfl, rfl, h3, h4, h5, h6, h7⟩, hv⟩, rfl, rfl⟩ := h
    have hv2 := hv
    obtain ⟨r, c, rfl, rfl, hr, hc, hx, hy, vx, vy⟩ := gm.valid hv2
    obtain ⟨i, rfl⟩ : ∃ q : Nat, i = q := ⟨i.toNat, by omega⟩
    have l1 := df.sv_one (n := r) (i := i) (by omega)
    have l2 : (cnt.sv c).length = c := cnt.sv_length c
    have a1 := df.sv_all r (i : Int)
    have a2 := df.cnt_all c
    have gh : (decide (0 ≤ (i : Int)) && decide ((i : Int) ≤ (r : Int) - 1)) = true := by simp only [Bool.and_eq_true, decide_eq_true_eq]; omega
    refine ⟨0, ?_⟩
    rw [go]
    simp -implicitDefEqProofs (disch := omega) only [hv, a1, a2, take_one, set_one, decide_eq_true, decide_eq_false, IntWalk.i64_in, beqT, beqF, bneT, bneF, nat_succ, ← Int.natCast_mul, ← Int.natCast_add, Int.toNat_natCast, Int.zero_mul, Int.zero_add, Int.add_zero, Nat.zero_add, Nat.add_zero, Nat.zero_mul, List.length_singleton, List.length_append, List.length_nil, List.length_cons, List.take_length, List.drop_zero, List.replicate_zero, List.take_nil, List.nil_append, Nat.reduceBEq, Nat.reduceMul, Nat.reduceLeDiff, eq_self, and_self, true_and, and_true, decide_true, decide_false, Bool.and_self, Bool.or_self, Bool.and_true, Bool.true_and, Bool.and_false, Bool.false_and, Bool.or_true, Bool.true_or, Bool.or_false, Bool.false_or, Bool.not_true, Bool.not_false, cond_true, cond_false]
    rfl
  · cases h
theorem ok : EntOk Try.prog ⟨19, R⟩ :=
  ent_okAG (ks := [4, 5]) mixed (A := (orc [⟨13, iValidGame.R⟩, ⟨40, gHasRow.R⟩, ⟨41, without.R⟩, ⟨32, counting.R⟩, ⟨33, gOf.R⟩])) (orc_ok (by simp only [List.mem_cons, List.not_mem_nil, or_false, forall_eq_or_imp, forall_eq]; exact ⟨iValidGame.ok, gHasRow.ok, without.ok, counting.ok, gOf.ok⟩)) Try.func19 (by kernel_rfl) (by kernel_rfl) (n := 30) (ts := [.cell 4 26, 5]) (hd := hd0) (dr := dr) (cut := none) (by kernel_rfl) (by kernel_rfl) (by kernel_rfl) run
end iLessRow

namespace iWorseRows
def R : List AVal → Option (Bool × AVal × List Blk)
  | [.agg [.int .i64 r, .int .i64 c, .ro (.ints .i64 xs) ma 1, .ro (.ints .i64 ys) mb 1]] => some (decide (ma = xs.length ∧ mb = ys.length ∧ ma ≤ 4611686018427387904 ∧ mb ≤ 4611686018427387904) && gm.sp r c xs ys, .tup [.own 0 0 (wr.sv r.toNat c.toNat xs).length 0 1, .bool true], [⟨.typ (.ints .i64 (wr.sv r.toNat c.toNat xs)), 0⟩])
  | _ => none
theorem go (r c : Int) (xs ys : List Int) :
  regc [1] (runFn Try.prog (orc [⟨13, iValidGame.R⟩, ⟨31, gWorse.R⟩]) hd0 Dr.std none 0 (bodyOf Try.f10) 9 [2, 3] [.agg [.int .i64 r, .int .i64 c, .ro (.ints .i64 xs) xs.length 1, .ro (.ints .i64 ys) ys.length 1]] [])
  = (match bif true && true && (true && true && (true && true && (true && true && true))) then bif decide (xs.length = xs.length ∧ ys.length = ys.length ∧ xs.length ≤ (4611686018427387904 : Nat) ∧ ys.length ≤ (4611686018427387904 : Nat)) && (true && (true && (true && (true && true))) && true || true && true) then bif !gm.sp r c xs ys then some (AVal.tup [AVal.nils, AVal.bool false], [{ c := BC.cells [AVal.int IntKind.i64 r, AVal.int IntKind.i64 c, AVal.ro (Cont.ints IntKind.i64 xs) xs.length (1 : Nat), AVal.ro (Cont.ints IntKind.i64 ys) ys.length (1 : Nat)], ver := (0 : Nat) }]) else bif true && true && (true && true && (true && true && (true && true && true))) then bif decide (xs.length = xs.length ∧ ys.length = ys.length) && gm.sp r c xs ys && (true && (true && (true && (true && true))) && true || true && (true && true)) then some (AVal.tup [AVal.own (1 : Nat) (0 : Nat) (wr.sv r.toNat c.toNat xs).length (0 : Nat) (1 : Nat), AVal.bool true], [{ c := BC.cells [AVal.int IntKind.i64 r, AVal.int IntKind.i64 c, AVal.ro (Cont.ints IntKind.i64 xs) xs.length (1 : Nat), AVal.ro (Cont.ints IntKind.i64 ys) ys.length (1 : Nat)], ver := (0 : Nat) }, { c := BC.typ (Cont.ints IntKind.i64 (wr.sv r.toNat c.toNat xs)), ver := (0 : Nat) }]) else none else none else none else none with
| some (v, h) =>
  bif true && (ltN (1 : Nat) (hlen h) && true) then
    some
      (AVal.re [(1 : Nat)] h v,
        match nth h (1 : Nat) with
        | some b => { c := BC.re [(1 : Nat)] h b.c, ver := b.ver } :: reB [(1 : Nat)] h []
        | none => { c := BC.cells [], ver := (0 : Nat) } :: reB [(1 : Nat)] h [])
  else none
| none => none) := by kernel_rfl
theorem run : ∀ args v new, R args = some (true, v, new) → ∃ fuel, regc [1] (runFn Try.prog (orc [⟨13, iValidGame.R⟩, ⟨31, gWorse.R⟩]) hd0 Dr.std none fuel (bodyOf Try.f10) 9 [2, 3] args []) = some (v, new) := by
  intro args v new h
  unfold R at h
  split at h
  · rename_i r c xs ma ys mb
    simp only [Option.some.injEq, Prod.mk.injEq, Bool.and_eq_true, decide_eq_true_eq, Bool.not_eq_true'] at h
    obtain ⟨⟨⟨rfl, rfl, h3, h4⟩, hv⟩, rfl, rfl⟩ := h
    refine ⟨0, ?_⟩
    rw [go]
    simp -implicitDefEqProofs (disch := omega) only [hv, take_one, set_one, decide_eq_true, decide_eq_false, IntWalk.i64_in, beqT, beqF, bneT, bneF, nat_succ, ← Int.natCast_mul, ← Int.natCast_add, Int.toNat_natCast, Int.zero_mul, Int.zero_add, Int.add_zero, Nat.zero_add, Nat.add_zero, Nat.zero_mul, List.length_singleton, List.length_append, List.length_nil, List.length_cons, List.take_length, List.drop_zero, List.replicate_zero, List.take_nil, List.nil_append, Nat.reduceBEq, Nat.reduceMul, Nat.reduceLeDiff, eq_self, and_self, true_and, and_true, decide_true, decide_false, Bool.and_self, Bool.or_self, Bool.and_true, Bool.true_and, Bool.and_false, Bool.false_and, Bool.or_true, Bool.true_or, Bool.or_false, Bool.false_or, Bool.not_true, Bool.not_false, cond_true, cond_false]
    rfl
  · cases h
theorem ok : EntOk Try.prog ⟨10, R⟩ :=
  ent_okAG (ks := [1]) mixed (A := (orc [⟨13, iValidGame.R⟩, ⟨31, gWorse.R⟩])) (orc_ok (by simp only [List.mem_cons, List.not_mem_nil, or_false, forall_eq_or_imp, forall_eq]; exact ⟨iValidGame.ok, gWorse.ok⟩)) Try.func10 (by kernel_rfl) (by kernel_rfl) (n := 9) (ts := [2, 3]) (hd := hd0) (dr := Dr.std) (cut := none) (by kernel_rfl) (by kernel_rfl) (by kernel_rfl) run
end iWorseRows

namespace iSameGame
def R : List AVal → Option (Bool × AVal × List Blk)
  | [.agg [.int .i64 r, .int .i64 c, .ro (.ints .i64 xs) ma 1, .ro (.ints .i64 ys) mb 1], .agg [.int .i64 r2, .int .i64 c2, .ro (.ints .i64 us) mc 1, .ro (.ints .i64 vs) md 1]] => some (decide (ma = xs.length ∧ mb = ys.length ∧ mc = us.length ∧ md = vs.length ∧ ma ≤ 1000 ∧ mb ≤ 1000 ∧ mc ≤ 1000 ∧ md ≤ 1000 ∧ r = r2 ∧ c = c2 ∧ xs = us ∧ ys = vs), .bool true, [])
  | _ => none
theorem go (r c : Int) (xs ys : List Int) (ma mb : Nat) (r2 c2 : Int) (us vs : List Int) (mc md : Nat) :
  runFn Try.prog (orc [⟨37, slEqual.R⟩]) hd0 Dr.std (some 0) 0 (bodyOf Try.f14) 31 [4] [.agg [.int .i64 r, .int .i64 c, .ro (.ints .i64 xs) ma 1, .ro (.ints .i64 ys) mb 1], .agg [.int .i64 r2, .int .i64 c2, .ro (.ints .i64 us) mc 1, .ro (.ints .i64 vs) md 1]] []
  = (bif true && true then bif true && true then bif r == r2 then bif true && true then bif true && true then bif c == c2 then bif true && true then bif true && true then bif decide (ma ≤ xs.length ∧ mc ≤ us.length ∧ ma ≤ (4611686018427387904 : Nat)) && (true && (true && true) || true && true) then bif decide (List.take ma xs = List.take mc us) then bif true && true then bif true && true then bif decide (mb ≤ ys.length ∧ md ≤ vs.length ∧ mb ≤ (4611686018427387904 : Nat)) && (true && (true && true) || true && true) then some (AVal.bool (decide (List.take mb ys = List.take md vs)), []) else none else none else none else some (AVal.bool false, []) else none else none else none else some (AVal.bool false, []) else none else none else some (AVal.bool false, []) else none else none) := by kernel_rfl
theorem run : ∀ args v new, R args = some (true, v, new) → ∃ fuel, runFn Try.prog (orc [⟨37, slEqual.R⟩]) hd0 Dr.std (some 0) fuel (bodyOf Try.f14) 31 [4] args [] = some (v, new) := by
  intro args v new h
  unfold R at h
  split at h
  · rename_i r c xs ma ys mb r2 c2 us mc vs md
    simp only [Option.some.injEq, Prod.mk.injEq, decide_eq_true_eq] at h
    obtain ⟨⟨rfl, rfl, h1, h2, h3, h4, h5, h6, rfl, rfl, rfl, rfl⟩, rfl, rfl⟩ := h
    refine ⟨0, ?_⟩
    rw [go]
    subst h1 h2
    simp -implicitDefEqProofs (disch := omega) only [beq_self_eq_true, take_one, set_one, decide_eq_true, decide_eq_false, IntWalk.i64_in, beqT, beqF, bneT, bneF, nat_succ, ← Int.natCast_mul, ← Int.natCast_add, Int.toNat_natCast, Int.zero_mul, Int.zero_add, Int.add_zero, Nat.zero_add, Nat.add_zero, Nat.zero_mul, List.length_singleton, List.length_append, List.length_nil, List.length_cons, List.take_length, List.drop_zero, List.replicate_zero, List.take_nil, List.nil_append, Nat.reduceBEq, Nat.reduceMul, Nat.reduceLeDiff, eq_self, and_self, true_and, and_true, decide_true, decide_false, Bool.and_self, Bool.or_self, Bool.and_true, Bool.true_and, Bool.and_false, Bool.false_and, Bool.or_true, Bool.true_or, Bool.or_false, Bool.false_or, Bool.not_true, Bool.not_false, cond_true, cond_false]
  · cases h
theorem ok : EntOk Try.prog ⟨14, R⟩ :=
  ent_okA mixed (A := (orc [⟨37, slEqual.R⟩])) (orc_ok (by simp only [List.mem_cons, List.not_mem_nil, or_false, forall_eq_or_imp, forall_eq]; exact slEqual.ok)) Try.func14 (by kernel_rfl) (by kernel_rfl) (n := 31) (ts := [4]) (hd := hd0) (dr := Dr.std) (cut := (some 0)) (by kernel_rfl) (by kernel_rfl) (by kernel_rfl) run
end iSameGame

namespace r8Same
def R : List AVal → Option (Bool × AVal × List Blk)
  | [.ro (.ints .i64 xs) m 1, .ro (.ints .i64 ys) k 1] => some (decide (m = k ∧ xs = ys ∧ m ≤ xs.length ∧ m ≤ 1000000), .bool true, [])
  | _ => none
def hd : Nat → Head := fun _ => ⟨[0, 1, 4, 5], none⟩
noncomputable def L (f n : Nat) (s : State) := loopAt Try.prog (orc []) hd Dr.std 0 f (bodyOf Try.f15) 0 [true, true, false, true] (retK Try.prog [4] 0 none) n s
theorem start (xs : List Int) (m f : Nat) :
  runFn Try.prog (orc []) hd Dr.std none f (bodyOf Try.f15) 26 [4] [.ro (.ints .i64 xs) m 1, .ro (.ints .i64 xs) m 1] []
  = (bif (↑m : Int) != (↑m : Int) then some (AVal.bool false, []) else L f f (mkS (26 : Nat) [((0 : Nat), AVal.ro (Cont.ints IntKind.i64 xs) m (1 : Nat)), ((1 : Nat), AVal.ro (Cont.ints IntKind.i64 xs) m (1 : Nat)), ((4 : Nat), AVal.bool false), ((5 : Nat), AVal.int IntKind.i64 (0 : Int))] [])) := by kernel_rfl
theorem round (xs : List Int) (m i f n : Nat) :
  L f (n + 1) (mkS 26 [(0, .ro (.ints .i64 xs) m 1), (1, .ro (.ints .i64 xs) m 1), (4, .bool false), (5, .int .i64 (i : Int))] [])
  = (bif decide ((↑i : Int) < (↑m : Int)) then bif true && (decide ((0 : Int) ≤ (↑i : Int)) && decide ((↑i : Int) < (↑m : Int))) then bif decide ((↑i : Int).toNat < xs.length) then bif true && (decide ((0 : Int) ≤ (↑i : Int)) && decide ((↑i : Int) < (↑m : Int))) then bif decide ((↑i : Int).toNat < xs.length) then bif gz xs (↑i : Int).toNat != gz xs (↑i : Int).toNat then some (AVal.bool false, []) else L f n (mkS (26 : Nat) [((0 : Nat), AVal.ro (Cont.ints IntKind.i64 xs) m (1 : Nat)), ((1 : Nat), AVal.ro (Cont.ints IntKind.i64 xs) m (1 : Nat)), ((4 : Nat), AVal.bool false), ((5 : Nat), AVal.int IntKind.i64 (IntKind.i64.wrap ((↑i : Int) + (1 : Int))))] []) else none else none else none else none else some (AVal.bool true, [])) := by kernel_rfl
theorem loop (xs : List Int) (m : Nat) (f : Nat) (hx : m ≤ xs.length) (hb : m ≤ 1000000) : ∀ (d i n : Nat) , i + d = m → d < n →
    L f n (mkS 26 [(0, .ro (.ints .i64 xs) m 1), (1, .ro (.ints .i64 xs) m 1), (4, .bool false), (5, .int .i64 (i : Int))] []) = some (.bool true, []) := by
  intro d
  induction d with
  | zero =>
    intro i n  hi hn 
    obtain ⟨n, rfl⟩ : ∃ k, n = k + 1 := ⟨n - 1, by omega⟩
    obtain rfl : i = m := by omega
    rw [round]
    simp -implicitDefEqProofs (disch := omega) only [take_one, set_one, decide_eq_true, decide_eq_false, IntWalk.i64_in, beqT, beqF, bneT, bneF, nat_succ, ← Int.natCast_mul, ← Int.natCast_add, Int.toNat_natCast, Int.zero_mul, Int.zero_add, Int.add_zero, Nat.zero_add, Nat.add_zero, Nat.zero_mul, List.length_singleton, List.length_append, List.length_nil, List.length_cons, List.take_length, List.drop_zero, List.replicate_zero, List.take_nil, List.nil_append, Nat.reduceBEq, Nat.reduceMul, Nat.reduceLeDiff, eq_self, and_self, true_and, and_true, decide_true, decide_false, Bool.and_self, Bool.or_self, Bool.and_true, Bool.true_and, Bool.and_false, Bool.false_and, Bool.or_true, Bool.true_or, Bool.or_false, Bool.false_or, Bool.not_true, Bool.not_false, cond_true, cond_false]
  | succ d ih =>
    intro i n  hi hn 
    obtain ⟨n, rfl⟩ : ∃ k, n = k + 1 := ⟨n - 1, by omega⟩
    have h1 : i < m := by omega
    have h4 : (0 : Int) ≤ (i : Int) := Int.natCast_nonneg _
    have h5 : (i : Int) < (m : Int) := by omega
    rw [round]
    have hr := ih (i + 1) n (by omega) (by omega)
    simp -implicitDefEqProofs (disch := omega) only [bne_self_eq_false, take_one, set_one, decide_eq_true, decide_eq_false, IntWalk.i64_in, beqT, beqF, bneT, bneF, nat_succ, ← Int.natCast_mul, ← Int.natCast_add, Int.toNat_natCast, Int.zero_mul, Int.zero_add, Int.add_zero, Nat.zero_add, Nat.add_zero, Nat.zero_mul, List.length_singleton, List.length_append, List.length_nil, List.length_cons, List.take_length, List.drop_zero, List.replicate_zero, List.take_nil, List.nil_append, Nat.reduceBEq, Nat.reduceMul, Nat.reduceLeDiff, eq_self, and_self, true_and, and_true, decide_true, decide_false, Bool.and_self, Bool.or_self, Bool.and_true, Bool.true_and, Bool.and_false, Bool.false_and, Bool.or_true, Bool.true_or, Bool.or_false, Bool.false_or, Bool.not_true, Bool.not_false, cond_true, cond_false]
    exact hr
theorem run : ∀ args v new, R args = some (true, v, new) → ∃ fuel, runFn Try.prog (orc []) hd Dr.std none fuel (bodyOf Try.f15) 26 [4] args [] = some (v, new) := by
  intro args v new h
  unfold R at h
  split at h
  · rename_i xs m ys k
    simp only [Option.some.injEq, Prod.mk.injEq, decide_eq_true_eq] at h
    obtain ⟨⟨rfl, rfl, h1, h2⟩, rfl, rfl⟩ := h
    refine ⟨m + 1, ?_⟩
    rw [start]
    simp -implicitDefEqProofs (disch := omega) only [bne_self_eq_false, take_one, set_one, decide_eq_true, decide_eq_false, IntWalk.i64_in, beqT, beqF, bneT, bneF, nat_succ, ← Int.natCast_mul, ← Int.natCast_add, Int.toNat_natCast, Int.zero_mul, Int.zero_add, Int.add_zero, Nat.zero_add, Nat.add_zero, Nat.zero_mul, List.length_singleton, List.length_append, List.length_nil, List.length_cons, List.take_length, List.drop_zero, List.replicate_zero, List.take_nil, List.nil_append, Nat.reduceBEq, Nat.reduceMul, Nat.reduceLeDiff, eq_self, and_self, true_and, and_true, decide_true, decide_false, Bool.and_self, Bool.or_self, Bool.and_true, Bool.true_and, Bool.and_false, Bool.false_and, Bool.or_true, Bool.true_or, Bool.or_false, Bool.false_or, Bool.not_true, Bool.not_false, cond_true, cond_false]
    exact loop xs m (m + 1) h1 h2 m 0 (m + 1) (by omega) (by omega)
  · cases h
theorem ok : EntOk Try.prog ⟨15, R⟩ :=
  ent_okA mixed (A := (orc [])) (orc_ok (by simp)) Try.func15 (by kernel_rfl) (by kernel_rfl) (n := 26) (ts := [4]) (hd := hd) (dr := Dr.std) (cut := none) (by kernel_rfl) (by kernel_rfl) (by kernel_rfl) run
end r8Same

namespace pareto1
def R : List AVal → Option (Bool × AVal × List Blk)
  | [.int .i64 y, .rom [.int .i64 r, .int .i64 c, .ro (.ints .i64 xs) ma 1, .ro (.ints .i64 ys) mb 1] 0, .rom [.int .i64 x] 0] => some (decide (ma = xs.length ∧ mb = ys.length ∧ ma = mb ∧ 0 ≤ x ∧ x < ma ∧ 0 ≤ y ∧ y < ma), .bool (pc.b.sp xs ys x.toNat y.toNat), [])
  | _ => none
theorem go (r c : Int) (xs ys : List Int) (x y : Int) :
  runFn Try.prog (orc []) hd0 Dr.std none 0 (bodyOf Try.f43) 55 [4] [.int .i64 y, .rom [.int .i64 r, .int .i64 c, .ro (.ints .i64 xs) xs.length 1, .ro (.ints .i64 ys) ys.length 1] 0, .rom [.int .i64 x] 0] []
  = (bif true && (decide ((0 : Int) ≤ y) && decide (y < (↑xs.length : Int))) then bif decide (y.toNat < xs.length) then bif true && (decide ((0 : Int) ≤ x) && decide (x < (↑xs.length : Int))) then bif decide (x.toNat < xs.length) then bif decide (gz xs x.toNat ≤ gz xs y.toNat) then bif true && (decide ((0 : Int) ≤ y) && decide (y < (↑ys.length : Int))) then bif decide (y.toNat < ys.length) then bif true && (decide ((0 : Int) ≤ x) && decide (x < (↑ys.length : Int))) then bif decide (x.toNat < ys.length) then bif decide (gz ys x.toNat ≤ gz ys y.toNat) then bif true && (decide ((0 : Int) ≤ y) && decide (y < (↑xs.length : Int))) then bif decide (y.toNat < xs.length) then bif true && (decide ((0 : Int) ≤ x) && decide (x < (↑xs.length : Int))) then bif decide (x.toNat < xs.length) then bif decide (gz xs x.toNat < gz xs y.toNat) then some (AVal.bool true, []) else bif true && (decide ((0 : Int) ≤ y) && decide (y < (↑ys.length : Int))) then bif decide (y.toNat < ys.length) then bif true && (decide ((0 : Int) ≤ x) && decide (x < (↑ys.length : Int))) then bif decide (x.toNat < ys.length) then some (AVal.bool (decide (gz ys x.toNat < gz ys y.toNat)), []) else none else none else none else none else none else none else none else none else some (AVal.bool false, []) else none else none else none else none else some (AVal.bool false, []) else none else none else none else none) := by kernel_rfl
theorem run : ∀ args v new, R args = some (true, v, new) → ∃ fuel, runFn Try.prog (orc []) hd0 Dr.std none fuel (bodyOf Try.f43) 55 [4] args [] = some (v, new) := by
  intro args v new h
  unfold R at h
  split at h
  · rename_i y r c xs ma ys mb x
    simp only [Option.some.injEq, Prod.mk.injEq, decide_eq_true_eq] at h
    obtain ⟨⟨rfl, rfl, h1, h2, h3, h4, h5⟩, rfl, rfl⟩ := h
    obtain ⟨x, rfl⟩ : ∃ q : Nat, x = q := ⟨x.toNat, by omega⟩
    obtain ⟨y, rfl⟩ : ∃ q : Nat, y = q := ⟨y.toNat, by omega⟩
    refine ⟨0, ?_⟩
    rw [go]
    unfold pc.b.sp
    simp -implicitDefEqProofs (disch := omega) only [take_one, set_one, decide_eq_true, decide_eq_false, IntWalk.i64_in, beqT, beqF, bneT, bneF, nat_succ, ← Int.natCast_mul, ← Int.natCast_add, Int.toNat_natCast, Int.zero_mul, Int.zero_add, Int.add_zero, Nat.zero_add, Nat.add_zero, Nat.zero_mul, List.length_singleton, List.length_append, List.length_nil, List.length_cons, List.take_length, List.drop_zero, List.replicate_zero, List.take_nil, List.nil_append, Nat.reduceBEq, Nat.reduceMul, Nat.reduceLeDiff, eq_self, and_self, true_and, and_true, decide_true, decide_false, Bool.and_self, Bool.or_self, Bool.and_true, Bool.true_and, Bool.and_false, Bool.false_and, Bool.or_true, Bool.true_or, Bool.or_false, Bool.false_or, Bool.not_true, Bool.not_false, cond_true, cond_false]
    cases decide (gz xs x ≤ gz xs y) <;> cases decide (gz ys x ≤ gz ys y) <;> cases decide (gz xs x < gz xs y) <;> cases decide (gz ys x < gz ys y) <;> rfl
  · cases h
theorem ok : EntOk Try.prog ⟨43, R⟩ :=
  ent_okA mixed (A := (orc [])) (orc_ok (by simp)) Try.func43 (by kernel_rfl) (by kernel_rfl) (n := 55) (ts := [4]) (hd := hd0) (dr := Dr.std) (cut := none) (by kernel_rfl) (by kernel_rfl) (by kernel_rfl) run
end pareto1

namespace paIdx
def R : List AVal → Option (Bool × AVal × List Blk)
  | [.ro (.ints .i64 zs) m 1, .fn ff [.rom [.int .i64 r, .int .i64 c, .ro (.ints .i64 xs) ma 1, .ro (.ints .i64 ys) mb 1] 0, .rom [.int .i64 x] 0]] => some (decide (m ≤ 100 ∧ zs = cnt.sv m ∧ ff = 43) && (decide (ma = xs.length ∧ mb = ys.length ∧ ma = mb ∧ m = ma ∧ 0 ≤ x ∧ x < ma)), .int .i64 (df.ix.sv m (pc.b.sp xs ys x.toNat)), [])
  | _ => none
def hd : Nat → Head := fun _ => ⟨[0, 1, 4, 7, 8], none⟩
noncomputable def L (f n : Nat) (s : State) := loopAt Try.prog (orc [⟨43, pareto1.R⟩]) hd Dr.std 0 f (bodyOf Try.f58) 0 [true, false, true] (retK Try.prog [4] 0 none) n s
theorem start (zs : List Int) (m : Nat) (r c : Int) (xs ys : List Int) (x : Nat) (f : Nat) :
  runFn Try.prog (orc [⟨43, pareto1.R⟩]) hd Dr.std none f (bodyOf Try.f58) 19 [4] [.ro (.ints .i64 zs) m 1, .fn 43 [.rom [.int .i64 r, .int .i64 c, .ro (.ints .i64 xs) xs.length 1, .ro (.ints .i64 ys) ys.length 1] 0, .rom [.int .i64 (x : Int)] 0]] []
  = (L f f (mkS (19 : Nat) [((0 : Nat), AVal.ro (Cont.ints IntKind.i64 zs) m (1 : Nat)), ((1 : Nat), AVal.fn (43 : Nat) [AVal.rom [AVal.int IntKind.i64 r, AVal.int IntKind.i64 c, AVal.ro (Cont.ints IntKind.i64 xs) xs.length (1 : Nat), AVal.ro (Cont.ints IntKind.i64 ys) ys.length (1 : Nat)] (0 : Nat), AVal.rom [AVal.int IntKind.i64 (↑x : Int)] (0 : Nat)]), ((4 : Nat), AVal.int IntKind.i64 (0 : Int)), ((7 : Nat), AVal.int IntKind.i64 (↑m : Int)), ((8 : Nat), AVal.int IntKind.i64 (0 : Int))] [])) := by kernel_rfl
theorem round (zs : List Int) (m i0 : Nat) (r c : Int) (xs ys : List Int) (x : Nat) (f n : Nat) :
  L f (n + 1) (mkS 19 [(0, .ro (.ints .i64 zs) m 1), (1, .fn 43 [.rom [.int .i64 r, .int .i64 c, .ro (.ints .i64 xs) xs.length 1, .ro (.ints .i64 ys) ys.length 1] 0, .rom [.int .i64 (x : Int)] 0]), (4, .int .i64 0), (7, .int .i64 m), (8, .int .i64 (i0 : Int))] [])
  = (bif decide ((↑i0 : Int) < (↑m : Int)) then bif true && (decide ((0 : Int) ≤ (↑i0 : Int)) && decide ((↑i0 : Int) < (↑m : Int))) then bif decide ((↑i0 : Int).toNat < zs.length) then bif decide (xs.length = xs.length ∧ ys.length = ys.length ∧ xs.length = ys.length ∧ (0 : Int) ≤ (↑x : Int) ∧ (↑x : Int) < (↑xs.length : Int) ∧ (0 : Int) ≤ gz zs (↑i0 : Int).toNat ∧ gz zs (↑i0 : Int).toNat < (↑xs.length : Int)) && (true && (true && (true && (true && (true && true))) && (true && true && true)) || true && true) then bif pc.b.sp xs ys (↑x : Int).toNat (gz zs (↑i0 : Int).toNat).toNat then some (AVal.int IntKind.i64 (↑i0 : Int), []) else L f n (mkS (19 : Nat) [((0 : Nat), AVal.ro (Cont.ints IntKind.i64 zs) m (1 : Nat)), ((1 : Nat), AVal.fn (43 : Nat) [AVal.rom [AVal.int IntKind.i64 r, AVal.int IntKind.i64 c, AVal.ro (Cont.ints IntKind.i64 xs) xs.length (1 : Nat), AVal.ro (Cont.ints IntKind.i64 ys) ys.length (1 : Nat)] (0 : Nat), AVal.rom [AVal.int IntKind.i64 (↑x : Int)] (0 : Nat)]), ((4 : Nat), AVal.int IntKind.i64 (0 : Int)), ((7 : Nat), AVal.int IntKind.i64 (↑m : Int)), ((8 : Nat), AVal.int IntKind.i64 (IntKind.i64.wrap ((↑i0 : Int) + (1 : Int))))] []) else none else none else none else some (AVal.int IntKind.i64 (-1 : Int), [])) := by kernel_rfl
theorem loop (zs : List Int) (m : Nat) (r c : Int) (xs ys : List Int) (x : Nat) (f : Nat) (h1 : xs.length = ys.length) (h2 : m = xs.length) (h3 : x < xs.length) (hm : m ≤ 100) (hz : zs = cnt.sv m) : ∀ (d i0 n : Nat), i0 + d = m → d < n →
    L f n (mkS 19 [(0, .ro (.ints .i64 zs) m 1), (1, .fn 43 [.rom [.int .i64 r, .int .i64 c, .ro (.ints .i64 xs) xs.length 1, .ro (.ints .i64 ys) ys.length 1] 0, .rom [.int .i64 (x : Int)] 0]), (4, .int .i64 0), (7, .int .i64 m), (8, .int .i64 (i0 : Int))] []) = some (.int .i64 (fidx.sq (pc.b.sp xs ys x) ((List.range m).drop i0) i0), []) := by
  have lz : zs.length = m := by rw [hz, cnt.sv_length]
  intro d
  induction d with
  | zero =>
    intro i0 n hi hn
    obtain ⟨n, rfl⟩ : ∃ k, n = k + 1 := ⟨n - 1, by omega⟩
    obtain rfl : i0 = m := by omega
    rw [round]
    have e : (List.range i0).drop i0 = [] := List.drop_of_length_le (by simp)
    rw [e]
    simp -implicitDefEqProofs (disch := omega) only [take_one, set_one, decide_eq_true, decide_eq_false, IntWalk.i64_in, beqT, beqF, bneT, bneF, nat_succ, ← Int.natCast_mul, ← Int.natCast_add, Int.toNat_natCast, Int.zero_mul, Int.zero_add, Int.add_zero, Nat.zero_add, Nat.add_zero, Nat.zero_mul, List.length_singleton, List.length_append, List.length_nil, List.length_cons, List.take_length, List.drop_zero, List.replicate_zero, List.take_nil, List.nil_append, Nat.reduceBEq, Nat.reduceMul, Nat.reduceLeDiff, eq_self, and_self, true_and, and_true, decide_true, decide_false, Bool.and_self, Bool.or_self, Bool.and_true, Bool.true_and, Bool.and_false, Bool.false_and, Bool.or_true, Bool.true_or, Bool.or_false, Bool.false_or, Bool.not_true, Bool.not_false, cond_true, cond_false]
    rfl
  | succ d ih =>
    intro i0 n hi hn
    obtain ⟨n, rfl⟩ : ∃ k, n = k + 1 := ⟨n - 1, by omega⟩
    have h1 : i0 < m := by omega
    have hg : gz zs i0 = (i0 : Int) := by rw [hz]; exact cnt.sv_get h1
    have hr0 := ih (i0 + 1) n (by omega) (by omega)
    rw [round, df.drop_range h1]
    simp only [fidx.sq]
    simp -implicitDefEqProofs (disch := omega) only [hg, take_one, set_one, decide_eq_true, decide_eq_false, IntWalk.i64_in, beqT, beqF, bneT, bneF, nat_succ, ← Int.natCast_mul, ← Int.natCast_add, Int.toNat_natCast, Int.zero_mul, Int.zero_add, Int.add_zero, Nat.zero_add, Nat.add_zero, Nat.zero_mul, List.length_singleton, List.length_append, List.length_nil, List.length_cons, List.take_length, List.drop_zero, List.replicate_zero, List.take_nil, List.nil_append, Nat.reduceBEq, Nat.reduceMul, Nat.reduceLeDiff, eq_self, and_self, true_and, and_true, decide_true, decide_false, Bool.and_self, Bool.or_self, Bool.and_true, Bool.true_and, Bool.and_false, Bool.false_and, Bool.or_true, Bool.true_or, Bool.or_false, Bool.false_or, Bool.not_true, Bool.not_false, cond_true, cond_false]
    rw [hr0]
    cases (pc.b.sp xs ys x) i0 <;> rfl
theorem run : ∀ args v new, R args = some (true, v, new) → ∃ fuel, runFn Try.prog (orc [⟨43, pareto1.R⟩]) hd Dr.std none fuel (bodyOf Try.f58) 19 [4] args [] = some (v, new) := by
  intro args v new h
  unfold R at h
  split at h
  · rename_i zs m ff r c xs ma ys mb x
    simp only [Option.some.injEq, Prod.mk.injEq, Bool.and_eq_true, decide_eq_true_eq] at h
    obtain ⟨⟨⟨h1, hz, rfl⟩, rfl, rfl, k1, k2, k3, k4⟩, rfl, rfl⟩ := h
    obtain ⟨x, rfl⟩ : ∃ q : Nat, x = q := ⟨x.toNat, by omega⟩
    refine ⟨m + 1, ?_⟩
    rw [start]
    have hl := loop zs m r c xs ys x (m + 1) k1 k2 (by omega) (by omega) hz m 0 (m + 1) (by omega) (by omega)
    rw [List.drop_zero] at hl
    exact hl
  · cases h
theorem ok : EntOk Try.prog ⟨58, R⟩ :=
  ent_okA mixed (A := (orc [⟨43, pareto1.R⟩])) (orc_ok (by simp only [List.mem_cons, List.not_mem_nil, or_false, forall_eq_or_imp, forall_eq]; exact pareto1.ok)) Try.func58 (by kernel_rfl) (by kernel_rfl) (n := 19) (ts := [4]) (hd := hd) (dr := Dr.std) (cut := none) (by kernel_rfl) (by kernel_rfl) (by kernel_rfl) run
end paIdx

namespace paHas
def R : List AVal → Option (Bool × AVal × List Blk)
  | [.ro (.ints .i64 zs) m 1, .fn ff [.rom [.int .i64 r, .int .i64 c, .ro (.ints .i64 xs) ma 1, .ro (.ints .i64 ys) mb 1] 0, .rom [.int .i64 x] 0]] => some (decide (m ≤ 100 ∧ zs = cnt.sv m ∧ ff = 43) && (decide (ma = xs.length ∧ mb = ys.length ∧ ma = mb ∧ m = ma ∧ 0 ≤ x ∧ x < ma)), .bool (df.ex.sp m (pc.b.sp xs ys x.toNat)), [])
  | _ => none
theorem go (zs : List Int) (m : Nat) (r c : Int) (xs ys : List Int) (ma mb : Nat) (x : Int) :
  runFn Try.prog (orc [⟨58, paIdx.R⟩]) hd0 Dr.std none 0 (bodyOf Try.f42) 9 [4] [.ro (.ints .i64 zs) m 1, .fn 43 [.rom [.int .i64 r, .int .i64 c, .ro (.ints .i64 xs) ma 1, .ro (.ints .i64 ys) mb 1] 0, .rom [.int .i64 x] 0]] []
  = (bif decide (m ≤ (100 : Nat) ∧ zs = cnt.sv m ∧ (43 : FuncId) = (43 : FuncId)) && decide (ma = xs.length ∧ mb = ys.length ∧ ma = mb ∧ m = ma ∧ (0 : Int) ≤ x ∧ x < (↑ma : Int)) && (true && (true && (true && (true && (true && true))) && (true && true && true) && true) || true && true) then some (AVal.bool (decide ((0 : Int) ≤ df.ix.sv m (pc.b.sp xs ys x.toNat))), []) else none) := by kernel_rfl
theorem run : ∀ args v new, R args = some (true, v, new) → ∃ fuel, runFn Try.prog (orc [⟨58, paIdx.R⟩]) hd0 Dr.std none fuel (bodyOf Try.f42) 9 [4] args [] = some (v, new) := by
  intro args v new h
  unfold R at h
  split at h
  · rename_i zs m ff r c xs ma ys mb x
    simp only [Option.some.injEq, Prod.mk.injEq, Bool.and_eq_true, decide_eq_true_eq] at h
    obtain ⟨⟨⟨h1, hz, rfl⟩, k⟩, rfl, rfl⟩ := h
    have hc : decide (m ≤ 100 ∧ zs = cnt.sv m) = true := decide_eq_true ⟨h1, hz⟩
    have hk := decide_eq_true k
    refine ⟨0, ?_⟩
    rw [go]
    simp only [hc, hk, df.ix_ge, and_self, true_and, and_true, decide_true, decide_false, Bool.and_self, Bool.or_self, Bool.and_true, Bool.true_and, Bool.and_false, Bool.false_and, Bool.or_true, Bool.true_or, Bool.or_false, Bool.false_or, Bool.not_true, Bool.not_false, cond_true, cond_false]
  · cases h
theorem ok : EntOk Try.prog ⟨42, R⟩ :=
  ent_okA mixed (A := (orc [⟨58, paIdx.R⟩])) (orc_ok (by simp only [List.mem_cons, List.not_mem_nil, or_false, forall_eq_or_imp, forall_eq]; exact paIdx.ok)) Try.func42 (by kernel_rfl) (by kernel_rfl) (n := 9) (ts := [4]) (hd := hd0) (dr := Dr.std) (cut := none) (by kernel_rfl) (by kernel_rfl) (by kernel_rfl) run
end paHas

namespace iParetoCells
def R : List AVal → Option (Bool × AVal × List Blk)
  | [.agg [.int .i64 r, .int .i64 c, .ro (.ints .i64 xs) ma 1, .ro (.ints .i64 ys) mb 1]] => some (decide (ma = xs.length ∧ mb = ys.length ∧ ma ≤ 4611686018427387904 ∧ mb ≤ 4611686018427387904) && gm.sp r c xs ys, .tup [.own 0 0 (pc.sv xs ys).length 0 1, .bool true], [⟨.typ (.ints .i64 (pc.sv xs ys)), 0⟩])
  | _ => none
def hd : Nat → Head := fun _ => ⟨[1, 4, 12, 13], some 2⟩
noncomputable def L (f n : Nat) (s : State) := loopAt Try.prog (orc [⟨13, iValidGame.R⟩, ⟨32, counting.R⟩, ⟨42, paHas.R⟩]) hd Dr.std 0 f (bodyOf Try.f20) 0 [true, true, true, false, true] (retK Try.prog [2, 3] 0 none) n s
theorem start (r c : Int) (xs ys : List Int) (f : Nat) :
  runFn Try.prog (orc [⟨13, iValidGame.R⟩, ⟨32, counting.R⟩, ⟨42, paHas.R⟩]) hd Dr.std none f (bodyOf Try.f20) 29 [2, 3] [.agg [.int .i64 r, .int .i64 c, .ro (.ints .i64 xs) xs.length 1, .ro (.ints .i64 ys) ys.length 1]] []
  = (bif true && true && (true && true && (true && true && (true && true && true))) then bif decide (xs.length = xs.length ∧ ys.length = ys.length ∧ xs.length ≤ (4611686018427387904 : Nat) ∧ ys.length ≤ (4611686018427387904 : Nat)) && (true && (true && (true && (true && true))) && true || true && true) then bif !gm.sp r c xs ys then some (AVal.tup [AVal.nils, AVal.bool false], [{ c := BC.cells [AVal.int IntKind.i64 r, AVal.int IntKind.i64 c, AVal.ro (Cont.ints IntKind.i64 xs) xs.length (1 : Nat), AVal.ro (Cont.ints IntKind.i64 ys) ys.length (1 : Nat)], ver := (0 : Nat) }]) else bif true && true then L f f (mkS (29 : Nat) [((1 : Nat), AVal.ptr (0 : Nat) (0 : Nat) (0 : Nat)), ((4 : Nat), AVal.own (1 : Nat) (0 : Nat) (0 : Nat) (0 : Nat) (1 : Nat)), ((12 : Nat), AVal.int IntKind.i64 (↑xs.length : Int)), ((13 : Nat), AVal.int IntKind.i64 (0 : Int))] [{ c := BC.cells [AVal.int IntKind.i64 r, AVal.int IntKind.i64 c, AVal.ro (Cont.ints IntKind.i64 xs) xs.length (1 : Nat), AVal.ro (Cont.ints IntKind.i64 ys) ys.length (1 : Nat)], ver := (0 : Nat) }, { c := BC.typ (Cont.ints IntKind.i64 (List.replicate (0 : Nat) (0 : Int))), ver := (0 : Nat) }]) else none else none else none) := by kernel_rfl
theorem round (r c : Int) (xs ys zs : List Int) (q i f n : Nat) :
  L f (n + 1) (mkS 29 [(1, .ptr 0 0 0), (4, .own 1 0 q 0 1), (12, .int .i64 xs.length), (13, .int .i64 (i : Int))] [⟨.cells [.int .i64 r, .int .i64 c, .ro (.ints .i64 xs) xs.length 1, .ro (.ints .i64 ys) ys.length 1], 0⟩, ⟨.typ (.ints .i64 zs), 0⟩])
  = (bif decide ((↑i : Int) < (↑xs.length : Int)) then bif true && true then bif decide ((0 : Int) ≤ (↑xs.length : Int) ∧ (↑xs.length : Int) ≤ (1000 : Int)) && (true && true || true && (true && true)) then bif decide ((cnt.sv (↑xs.length : Int).toNat).length ≤ (100 : Nat) ∧ cnt.sv (↑xs.length : Int).toNat = cnt.sv (cnt.sv (↑xs.length : Int).toNat).length ∧ (43 : Nat) = (43 : FuncId)) && decide (xs.length = xs.length ∧ ys.length = ys.length ∧ xs.length = ys.length ∧ (cnt.sv (↑xs.length : Int).toNat).length = xs.length ∧ (0 : Int) ≤ (↑i : Int) ∧ (↑i : Int) < (↑xs.length : Int)) && (false && (false && (false && true) && true) || true && true) then bif !df.ex.sp (cnt.sv (↑xs.length : Int).toNat).length (pc.b.sp xs ys (↑i : Int).toNat) then bif true && true then bif (1 : Nat) == (1 : Nat) && (1 : Nat) == (1 : Nat) && (true && (true && true) && (true && true && (decide (q + (List.take (1 : Nat) (List.drop (0 : Nat) ((List.replicate (1 : Nat) (0 : Int)).set (0 : Nat) (↑i : Int)))).length ≤ (4611686018427387904 : Nat)) && decide ((q + (List.take (1 : Nat) (List.drop (0 : Nat) ((List.replicate (1 : Nat) (0 : Int)).set (0 : Nat) (↑i : Int)))).length) * (8 : Nat) ≤ (140737488355328 : Nat))))) then L f n (mkS (29 : Nat) [((1 : Nat), AVal.ptr (0 : Nat) (0 : Nat) (0 : Nat)), ((4 : Nat), AVal.own (1 : Nat) (0 : Nat) (q + (List.take (1 : Nat) (List.drop (0 : Nat) ((List.replicate (1 : Nat) (0 : Int)).set (0 : Nat) (↑i : Int)))).length) (0 : Nat) (1 : Nat)), ((12 : Nat), AVal.int IntKind.i64 (↑xs.length : Int)), ((13 : Nat), AVal.int IntKind.i64 (IntKind.i64.wrap ((↑i : Int) + (1 : Int))))] [{ c := BC.cells [AVal.int IntKind.i64 r, AVal.int IntKind.i64 c, AVal.ro (Cont.ints IntKind.i64 xs) xs.length (1 : Nat), AVal.ro (Cont.ints IntKind.i64 ys) ys.length (1 : Nat)], ver := (0 : Nat) }, { c := BC.typ (Cont.ints IntKind.i64 (List.take q zs ++ List.take (1 : Nat) (List.drop (0 : Nat) ((List.replicate (1 : Nat) (0 : Int)).set (0 : Nat) (↑i : Int))))), ver := (0 : Nat) }]) else none else none else L f n (mkS (29 : Nat) [((1 : Nat), AVal.ptr (0 : Nat) (0 : Nat) (0 : Nat)), ((4 : Nat), AVal.own (1 : Nat) (0 : Nat) q (0 : Nat) (1 : Nat)), ((12 : Nat), AVal.int IntKind.i64 (↑xs.length : Int)), ((13 : Nat), AVal.int IntKind.i64 (IntKind.i64.wrap ((↑i : Int) + (1 : Int))))] [{ c := BC.cells [AVal.int IntKind.i64 r, AVal.int IntKind.i64 c, AVal.ro (Cont.ints IntKind.i64 xs) xs.length (1 : Nat), AVal.ro (Cont.ints IntKind.i64 ys) ys.length (1 : Nat)], ver := (0 : Nat) }, { c := BC.typ (Cont.ints IntKind.i64 zs), ver := (0 : Nat) }]) else none else none else none else some (AVal.tup [AVal.own (1 : Nat) (0 : Nat) q (0 : Nat) (1 : Nat), AVal.bool true], [{ c := BC.cells [AVal.int IntKind.i64 r, AVal.int IntKind.i64 c, AVal.ro (Cont.ints IntKind.i64 xs) xs.length (1 : Nat), AVal.ro (Cont.ints IntKind.i64 ys) ys.length (1 : Nat)], ver := (0 : Nat) }, { c := BC.typ (Cont.ints IntKind.i64 zs), ver := (0 : Nat) }])) := by kernel_rfl
theorem loop (r c : Int) (xs ys : List Int) (f : Nat) (hl : xs.length ≤ 36) (h2 : xs.length = ys.length) : ∀ (d i n : Nat), i + d = xs.length → d < n →
    L f n (mkS 29 [(1, .ptr 0 0 0), (4, .own 1 0 (br.up (pc.F xs ys i)).length 0 1), (12, .int .i64 xs.length), (13, .int .i64 (i : Int))] [⟨.cells [.int .i64 r, .int .i64 c, .ro (.ints .i64 xs) xs.length 1, .ro (.ints .i64 ys) ys.length 1], 0⟩, ⟨.typ (.ints .i64 (br.up (pc.F xs ys i))), 0⟩]) = some (.tup [.own 1 0 (br.up (pc.F xs ys xs.length)).length 0 1, .bool true], [⟨.cells [.int .i64 r, .int .i64 c, .ro (.ints .i64 xs) xs.length 1, .ro (.ints .i64 ys) ys.length 1], 0⟩, ⟨.typ (.ints .i64 (br.up (pc.F xs ys xs.length))), 0⟩]) := by
  intro d
  induction d with
  | zero =>
    intro i n hi hn
    obtain ⟨n, rfl⟩ : ∃ k, n = k + 1 := ⟨n - 1, by omega⟩
    obtain rfl : i = xs.length := by omega
    rw [round]
    simp -implicitDefEqProofs (disch := omega) only [take_one, set_one, decide_eq_true, decide_eq_false, IntWalk.i64_in, beqT, beqF, bneT, bneF, nat_succ, ← Int.natCast_mul, ← Int.natCast_add, Int.toNat_natCast, Int.zero_mul, Int.zero_add, Int.add_zero, Nat.zero_add, Nat.add_zero, Nat.zero_mul, List.length_singleton, List.length_append, List.length_nil, List.length_cons, List.take_length, List.drop_zero, List.replicate_zero, List.take_nil, List.nil_append, Nat.reduceBEq, Nat.reduceMul, Nat.reduceLeDiff, eq_self, and_self, true_and, and_true, decide_true, decide_false, Bool.and_self, Bool.or_self, Bool.and_true, Bool.true_and, Bool.and_false, Bool.false_and, Bool.or_true, Bool.true_or, Bool.or_false, Bool.false_or, Bool.not_true, Bool.not_false, cond_true, cond_false]
  | succ d ih =>
    intro i n hi hn
    obtain ⟨n, rfl⟩ : ∃ k, n = k + 1 := ⟨n - 1, by omega⟩
    have l1 := pc.F_length xs ys i
    have l2 : (br.up (pc.F xs ys i)).length = (pc.F xs ys i).length := br.up_length _
    have l3 := cnt.sv_length xs.length
    have tz : (cnt.sv xs.length).take xs.length = cnt.sv xs.length := List.take_of_length_le (by omega)
    have dz : decide (xs.length ≤ 100) = true := decide_eq_true (by omega)
    have g := ih (i + 1) n (by omega) (by omega)
    rw [pc.F_succ] at g
    rw [round]
    cases hp : df.ex.sp xs.length (pc.b.sp xs ys i)
    · rw [hp, cond_false] at g
      have e : br.up (pc.F xs ys i ++ [i]) = br.up (pc.F xs ys i) ++ [(i : Int)] := by simp [br.up]
      rw [e, List.length_append, List.length_singleton] at g
      simp -implicitDefEqProofs (disch := omega) only [tz, l3, hp, take_one, set_one, decide_eq_true, decide_eq_false, IntWalk.i64_in, beqT, beqF, bneT, bneF, nat_succ, ← Int.natCast_mul, ← Int.natCast_add, Int.toNat_natCast, Int.zero_mul, Int.zero_add, Int.add_zero, Nat.zero_add, Nat.add_zero, Nat.zero_mul, List.length_singleton, List.length_append, List.length_nil, List.length_cons, List.take_length, List.drop_zero, List.replicate_zero, List.take_nil, List.nil_append, Nat.reduceBEq, Nat.reduceMul, Nat.reduceLeDiff, eq_self, and_self, true_and, and_true, decide_true, decide_false, Bool.and_self, Bool.or_self, Bool.and_true, Bool.true_and, Bool.and_false, Bool.false_and, Bool.or_true, Bool.true_or, Bool.or_false, Bool.false_or, Bool.not_true, Bool.not_false, cond_true, cond_false]
      exact g
    · rw [hp, cond_true, List.append_nil] at g
      simp -implicitDefEqProofs (disch := omega) only [tz, l3, hp, take_one, set_one, decide_eq_true, decide_eq_false, IntWalk.i64_in, beqT, beqF, bneT, bneF, nat_succ, ← Int.natCast_mul, ← Int.natCast_add, Int.toNat_natCast, Int.zero_mul, Int.zero_add, Int.add_zero, Nat.zero_add, Nat.add_zero, Nat.zero_mul, List.length_singleton, List.length_append, List.length_nil, List.length_cons, List.take_length, List.drop_zero, List.replicate_zero, List.take_nil, List.nil_append, Nat.reduceBEq, Nat.reduceMul, Nat.reduceLeDiff, eq_self, and_self, true_and, and_true, decide_true, decide_false, Bool.and_self, Bool.or_self, Bool.and_true, Bool.true_and, Bool.and_false, Bool.false_and, Bool.or_true, Bool.true_or, Bool.or_false, Bool.false_or, Bool.not_true, Bool.not_false, cond_true, cond_false]
      exact g
theorem run : ∀ args v new, R args = some (true, v, new) → ∃ fuel, regc [1] (runFn Try.prog (orc [⟨13, iValidGame.R⟩, ⟨32, counting.R⟩, ⟨42, paHas.R⟩]) hd Dr.std none fuel (bodyOf Try.f20) 29 [2, 3] args []) = some (v, new) := by
  intro args v new h
  unfold R at h
  split at h
  · rename_i r c xs ma ys mb
    simp only [Option.some.injEq, Prod.mk.injEq, Bool.and_eq_true, decide_eq_true_eq, Bool.not_eq_true'] at h
    obtain ⟨⟨⟨rfl, rfl, h3, h4⟩, hv⟩, rfl, rfl⟩ := h
    have hv2 := hv
    obtain ⟨r, c, rfl, rfl, hr, hc, hx, hy, vx, vy⟩ := gm.valid hv2
    have h36 := gm.le_36 hr.2 hc.2
    obtain ⟨F, hF⟩ : ∃ F : Nat, F = 100 := ⟨100, rfl⟩
    refine ⟨F, ?_⟩
    have g := loop (r : Int) (c : Int) xs ys F (by omega) (by omega) xs.length 0 F (by omega) (by omega)
    rw [start]
    simp -implicitDefEqProofs (disch := omega) only [hv, take_one, set_one, decide_eq_true, decide_eq_false, IntWalk.i64_in, beqT, beqF, bneT, bneF, nat_succ, ← Int.natCast_mul, ← Int.natCast_add, Int.toNat_natCast, Int.zero_mul, Int.zero_add, Int.add_zero, Nat.zero_add, Nat.add_zero, Nat.zero_mul, List.length_singleton, List.length_append, List.length_nil, List.length_cons, List.take_length, List.drop_zero, List.replicate_zero, List.take_nil, List.nil_append, Nat.reduceBEq, Nat.reduceMul, Nat.reduceLeDiff, eq_self, and_self, true_and, and_true, decide_true, decide_false, Bool.and_self, Bool.or_self, Bool.and_true, Bool.true_and, Bool.and_false, Bool.false_and, Bool.or_true, Bool.true_or, Bool.or_false, Bool.false_or, Bool.not_true, Bool.not_false, cond_true, cond_false]
    exact (congrArg (regc [1]) g).trans rfl
  · cases h
theorem ok : EntOk Try.prog ⟨20, R⟩ :=
  ent_okAG (ks := [1]) mixed (A := (orc [⟨13, iValidGame.R⟩, ⟨32, counting.R⟩, ⟨42, paHas.R⟩])) (orc_ok (by simp only [List.mem_cons, List.not_mem_nil, or_false, forall_eq_or_imp, forall_eq]; exact ⟨iValidGame.ok, counting.ok, paHas.ok⟩)) Try.func20 (by kernel_rfl) (by kernel_rfl) (n := 29) (ts := [2, 3]) (hd := hd) (dr := Dr.std) (cut := none) (by kernel_rfl) (by kernel_rfl) (by kernel_rfl) run
end iParetoCells

end Go.Proofs.Ytfbalfhekldkbaa.Ab
