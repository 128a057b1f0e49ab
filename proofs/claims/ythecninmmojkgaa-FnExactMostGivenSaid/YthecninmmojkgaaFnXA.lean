/-
  Functions: lists that are sorted, places in lists.
-/
import Derived.Test.YthecninmmojkgaaFnF
import Derived.Test.YthecninmmojkgaaFnL
namespace Go.Proofs.Ythecninmmojkgaa.Ab
open Go
set_option linter.unusedVariables false
set_option linter.unusedSimpArgs false
set_option maxRecDepth 100000

/-! Lines: who begins when. -/
theorem i64_ww (a b : Int) : IntKind.i64.wrap (IntKind.i64.wrap a + b) = IntKind.i64.wrap (a + b) := by simp only [IntKind.wrap_i64]; omega
theorem i64_idem (a : Int) : IntKind.i64.wrap (IntKind.i64.wrap a) = IntKind.i64.wrap a := by simp only [IntKind.wrap_i64]; omega
theorem i64_wd (a b : Int) : IntKind.i64.wrap (IntKind.i64.wrap a - IntKind.i64.wrap b) = IntKind.i64.wrap (a - b) := by simp only [IntKind.wrap_i64]; omega
namespace srt
def dn (xs : List Int) : Nat → Bool
  | 0 => true
  | i + 1 => !decide (gz xs (i + 1) < gz xs i) && dn xs i
def fw (xs : List Int) : Nat → Nat → Bool
  | 0, _ => true
  | d + 1, i => !decide (gz xs i < gz xs (i - 1)) && fw xs d (i + 1)
def sp (xs : List Int) : Bool := dn xs (xs.length - 1)
theorem dn_fw (xs : List Int) : ∀ (d k : Nat), dn xs (k + d) = (dn xs k && fw xs d (k + 1)) := by
  intro d
  induction d with
  | zero => intro k; simp [fw]
  | succ d ih =>
    intro k
    have e : k + (d + 1) = (k + 1) + d := by omega
    rw [e, ih (k + 1)]
    simp only [dn, fw, Nat.add_sub_cancel]
    cases dn xs k <;> cases decide (gz xs (k + 1) < gz xs k) <;> simp
theorem sp_fw (xs : List Int) : sp xs = fw xs (xs.length - 1) 1 := by
  have h := dn_fw xs (xs.length - 1) 0
  rw [Nat.zero_add] at h
  rw [sp, h]; simp [dn]
theorem dn_take {xs : List Int} {m : Nat} (hm : m ≤ xs.length) : ∀ {i : Nat}, i < m → dn xs i = dn (xs.take m) i := by
  intro i
  induction i with
  | zero => intro _; rfl
  | succ i ih =>
    intro h
    have t1 : gz (xs.take m) (i + 1) = gz xs (i + 1) := by rw [gz_eq (by simp; omega), gz_eq (by omega)]; simp
    have t2 : gz (xs.take m) i = gz xs i := by rw [gz_eq (by simp; omega), gz_eq (by omega)]; simp
    simp only [dn, t1, t2]
    rw [ih (by omega)]
end srt




namespace slIndex
def R : List AVal → Option (Bool × AVal × List Blk)
  | [.ro (.ints .i64 xs) m 1, .int .i64 v] => some (decide (m ≤ xs.length ∧ m ≤ 4611686018427387904), .int .i64 (fidx.sq (fun y => v == y) (xs.take m) 0), [])
  | _ => none
def hd : Nat → Head := fun _ => ⟨[0, 1, 4, 7, 8], none⟩
noncomputable def L (f n : Nat) (s : State) := loopAt Try.prog (orc []) hd Dr.std 0 f (bodyOf Try.f75) 0 [true, false, true] (retK Try.prog [4] 0 none) n s
theorem start (xs : List Int) (m : Nat) (v : Int) (f : Nat) :
  runFn Try.prog (orc []) hd Dr.std none f (bodyOf Try.f75) 19 [4] [.ro (.ints .i64 xs) m 1, .int .i64 v] []
  = (L f f (mkS (19 : Nat) [((0 : Nat), AVal.ro (Cont.ints IntKind.i64 xs) m (1 : Nat)), ((1 : Nat), AVal.int IntKind.i64 v), ((4 : Nat), AVal.int IntKind.i64 (0 : Int)), ((7 : Nat), AVal.int IntKind.i64 (↑m : Int)), ((8 : Nat), AVal.int IntKind.i64 (0 : Int))] [])) := by kernel_rfl
theorem round (xs : List Int) (m : Nat) (v : Int) (i : Nat) (f n : Nat) :
  L f (n + 1) (mkS 19 [(0, .ro (.ints .i64 xs) m 1), (1, .int .i64 v), (4, .int .i64 0), (7, .int .i64 m), (8, .int .i64 i)] [])
  = (bif decide ((↑i : Int) < (↑m : Int)) then bif true && (decide ((0 : Int) ≤ (↑i : Int)) && decide ((↑i : Int) < (↑m : Int))) then bif decide ((↑i : Int).toNat < xs.length) then bif v == gz xs (↑i : Int).toNat then some (AVal.int IntKind.i64 (↑i : Int), []) else L f n (mkS (19 : Nat) [((0 : Nat), AVal.ro (Cont.ints IntKind.i64 xs) m (1 : Nat)), ((1 : Nat), AVal.int IntKind.i64 v), ((4 : Nat), AVal.int IntKind.i64 (0 : Int)), ((7 : Nat), AVal.int IntKind.i64 (↑m : Int)), ((8 : Nat), AVal.int IntKind.i64 (IntKind.i64.wrap ((↑i : Int) + (1 : Int))))] []) else none else none else some (AVal.int IntKind.i64 (-1 : Int), [])) := by kernel_rfl
theorem loop (xs : List Int) (m : Nat) (v : Int) (f : Nat) (hx : m ≤ xs.length) (hb : m ≤ 4611686018427387904) : ∀ (d i n : Nat) , i + d = m → d < n →
    L f n (mkS 19 [(0, .ro (.ints .i64 xs) m 1), (1, .int .i64 v), (4, .int .i64 0), (7, .int .i64 m), (8, .int .i64 i)] []) = some (.int .i64 (fidx.sq (fun y => v == y) ((xs.take m).drop i) i), []) := by
  intro d
  induction d with
  | zero =>
    intro i n  hi hn 
    obtain ⟨n, rfl⟩ : ∃ k, n = k + 1 := ⟨n - 1, by omega⟩
    obtain rfl : i = m := by omega
    rw [round]
    have e : (xs.take i).drop i = [] := by simp
    rw [e]
    simp [fidx.sq]
  | succ d ih =>
    intro i n  hi hn 
    obtain ⟨n, rfl⟩ : ∃ k, n = k + 1 := ⟨n - 1, by omega⟩
    have h1 : i < m := by omega
    have h4 : (0 : Int) ≤ (i : Int) := Int.natCast_nonneg _
    have h5 : (i : Int) < (m : Int) := by omega
    have h2 : i < xs.length := by omega
    rw [round]
    rw [drop_take_cons hx h1]
    simp only [fidx.sq]
    have hr := ih (i + 1) n (by omega) (by omega)
    simp only [h4, h5, h2, gz_eq h2, decide_true, Bool.and_self, Bool.or_self, Bool.and_true, Bool.true_and, cond_true, Int.toNat_natCast, wrap_nat i (by omega)]
    rw [hr]
    cases (v == xs[i]) <;> rfl
theorem run : ∀ args v new, R args = some (true, v, new) → ∃ fuel, runFn Try.prog (orc []) hd Dr.std none fuel (bodyOf Try.f75) 19 [4] args [] = some (v, new) := by
  intro args v new h
  unfold R at h
  split at h
  · rename_i xs m v
    simp only [Option.some.injEq, Prod.mk.injEq, decide_eq_true_eq] at h
    obtain ⟨⟨h1, h2⟩, rfl, rfl⟩ := h
    refine ⟨m + 1, ?_⟩
    rw [start]
    have hl := loop xs m v (m + 1) h1 h2 m 0 (m + 1) (by omega) (by omega)
    simpa using hl
  · cases h
theorem ok : EntOk Try.prog ⟨75, R⟩ :=
  ent_okA mixed (A := (orc [])) (orc_ok (by simp)) Try.func75 (by kernel_rfl) (by kernel_rfl) (n := 19) (ts := [4]) (hd := hd) (dr := Dr.std) (cut := none) (by kernel_rfl) (by kernel_rfl) (by kernel_rfl) run
end slIndex




end Go.Proofs.Ythecninmmojkgaa.Ab
