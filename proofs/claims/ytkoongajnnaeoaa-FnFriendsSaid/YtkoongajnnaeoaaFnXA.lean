/-
  Functions: lists that are sorted, places in lists.
-/
import Derived.Test.YtkoongajnnaeoaaFnF
import Derived.Test.YtkoongajnnaeoaaFnL
namespace Go.Proofs.Ytkoongajnnaeoaa.Ab
open Go
set_option linter.unusedVariables false
set_option linter.unusedSimpArgs false
set_option maxRecDepth 100000

/-! Lines: who begins when. -/
theorem i64_ww (a b : Int) : IntKind.i64.wrap (IntKind.i64.wrap a + b) = IntKind.i64.wrap (a + b) := by simp only [IntKind.wrap_i64]; omega
theorem i64_idem (a : Int) : IntKind.i64.wrap (IntKind.i64.wrap a) = IntKind.i64.wrap a := by simp only [IntKind.wrap_i64]; omega
theorem i64_wd (a b : Int) : IntKind.i64.wrap (IntKind.i64.wrap a - IntKind.i64.wrap b) = IntKind.i64.wrap (a - b) := by simp only [IntKind.wrap_i64]; omega
namespace srt
def dn (xs : List Int) : Nat → Bool
  | 0 => true
  | i + 1 => !decide (gz xs (i + 1) < gz xs i) && dn xs i
def fw (xs : List Int) : Nat → Nat → Bool
  | 0, _ => true
  | d + 1, i => !decide (gz xs i < gz xs (i - 1)) && fw xs d (i + 1)
def sp (xs : List Int) : Bool := dn xs (xs.length - 1)
theorem dn_fw (xs : List Int) : ∀ (d k : Nat), dn xs (k + d) = (dn xs k && fw xs d (k + 1)) := by
  intro d
  induction d with
  | zero => intro k; simp [fw]
  | succ d ih =>
    intro k
    have e : k + (d + 1) = (k + 1) + d := by omega
    rw [e, ih (k + 1)]
    simp only [dn, fw, Nat.add_sub_cancel]
    cases dn xs k <;> cases decide (gz xs (k + 1) < gz xs k) <;> simp
theorem sp_fw (xs : List Int) : sp xs = fw xs (xs.length - 1) 1 := by
  have h := dn_fw xs (xs.length - 1) 0
  rw [Nat.zero_add] at h
  rw [sp, h]; simp [dn]
theorem dn_take {xs : List Int} {m : Nat} (hm : m ≤ xs.length) : ∀ {i : Nat}, i < m → dn xs i = dn (xs.take m) i := by
  intro i
  induction i with
  | zero => intro _; rfl
  | succ i ih =>
    intro h
    have t1 : gz (xs.take m) (i + 1) = gz xs (i + 1) := by rw [gz_eq (by simp; omega), gz_eq (by omega)]; simp
    have t2 : gz (xs.take m) i = gz xs i := by rw [gz_eq (by simp; omega), gz_eq (by omega)]; simp
    simp only [dn, t1, t2]
    rw [ih (by omega)]
end srt
namespace ln
def imin (a b : Int) : Int := if b < a then b else a
def at.go : List Int → Nat → Nat → Int → Nat
  | [], _, b, _ => b
  | x :: r, i, b, v => bif decide (x < v) then at.go r (i + 1) i x else at.go r (i + 1) b v
def low.sv : List Int → Int
  | [] => 0
  | x :: r => r.foldl imin x
def ix.sv : List Int → Nat
  | [] => 0
  | x :: r => at.go r 1 0 x
theorem low_le : ∀ (r : List Int) (v : Int), r.foldl imin v ≤ v := by
  intro r
  induction r with
  | nil => intro v; exact Int.le_refl _
  | cons x t ih =>
    intro v
    have := ih (imin v x)
    simp only [List.foldl_cons]
    unfold imin at this ⊢
    split at this <;> rename_i hc <;> simp only [hc, if_true, if_false] <;> omega
theorem go_eq : ∀ (r : List Int) (i b : Nat) (v : Int), ((at.go r i b v : Nat) : Int) = bif decide (r.foldl imin v = v) then (b : Int) else fidx.sq (fun y => r.foldl imin v == y) r i := by
  intro r
  induction r with
  | nil => intro i b v; simp [at.go]
  | cons x t ih =>
    intro i b v
    simp only [at.go, List.foldl_cons, fidx.sq]
    by_cases c : x < v
    · have e : imin v x = x := by simp [imin, c]
      have hle := low_le t x
      have hne : ¬ (t.foldl imin x = v) := by omega
      simp only [e, c, decide_true, cond_true, hne, decide_false, cond_false]
      rw [ih (i + 1) i x]
      rfl
    · have e : imin v x = v := by simp [imin, c]
      have hle := low_le t v
      simp only [e, c, decide_false, cond_false]
      rw [ih (i + 1) b v]
      by_cases c2 : t.foldl imin v = v
      · simp [c2]
      · have c3 : (t.foldl imin v == x) = false := by simp only [beq_eq_false_iff_ne, ne_eq]; omega
        simp only [c2, c3, decide_false, cond_false]
theorem ix_eq {l : List Int} (h : 0 < l.length) : fidx.sq (fun y => low.sv l == y) l 0 = (ix.sv l : Int) := by
  match l, h with
  | x :: r, _ =>
    simp only [ix.sv, low.sv, go_eq, fidx.sq]
    rfl
theorem go_lt : ∀ (r : List Int) (i b : Nat) (v : Int), at.go r i b v = b ∨ at.go r i b v < i + r.length := by
  intro r
  induction r with
  | nil => intro i b v; exact .inl rfl
  | cons x t ih =>
    intro i b v
    simp only [at.go, List.length_cons]
    cases decide (x < v)
    · rcases ih (i + 1) b v with h | h
      · exact .inl h
      · right; simp only [cond_false]; omega
    · right
      rcases ih (i + 1) i x with h | h
      · simp only [cond_true, h]; omega
      · simp only [cond_true]; omega
theorem ix_lt {l : List Int} (h : 0 < l.length) : ix.sv l < l.length := by
  match l, h with
  | x :: r, _ =>
    simp only [ix.sv, List.length_cons]
    rcases go_lt r 1 0 x with h | h <;> omega
def beg.sv (fs : List Int) (c : Int) : Int := if c < gz fs (ix.sv fs) then gz fs (ix.sv fs) else c
def nx.sw (fs : List Int) (c t : Int) : List Int := fs.set (ix.sv fs) (IntKind.i64.wrap (beg.sv fs c + t))
theorem nx_length (fs : List Int) (c t : Int) : (nx.sw fs c t).length = fs.length := by simp [nx.sw]
def go : List Int → List Int → List Int → List Int
  | fs, c :: cs, t :: ts => beg.sv fs c :: go (nx.sw fs c t) cs ts
  | _, _, _ => []
theorem go_length : ∀ (cs ts fs : List Int), cs.length = ts.length → (go fs cs ts).length = cs.length := by
  intro cs
  induction cs with
  | nil => intro ts fs _; simp [go]
  | cons c cs ih =>
    intro ts fs h
    match ts, h with
    | t :: ts, h => simp only [go, List.length_cons]; rw [ih ts _ (by simpa using h)]
def tm.sp (x : Int) : Bool := decide (0 ≤ x) && decide (x ≤ 1000000)
def sp (cs ts : List Int) (d : Int) : Bool := ((((decide (cs.length ≤ 64) && cs.all tm.sp) && srt.sp cs) && (decide (ts.length = cs.length) && ts.all tm.sp)) && (decide (1 ≤ d) && decide (d ≤ 8)))
def sv (cs ts : List Int) (d : Int) : List Int := go (List.replicate d.toNat 0) cs ts
theorem valid {cs ts : List Int} {d : Int} (h : sp cs ts d = true) : cs.length ≤ 64 ∧ ts.length = cs.length ∧ 1 ≤ d ∧ d ≤ 8 := by
  simp only [sp, Bool.and_eq_true, decide_eq_true_eq] at h
  exact ⟨h.1.1.1.1, h.1.2.1, h.2.1, h.2.2⟩
def wait.sv (cs ts : List Int) (d : Int) : Int := bif ln.sp cs ts d then IntKind.i64.wrap ((ln.sv cs ts d).sum - cs.sum) else 0
theorem fold_sum : ∀ (l : List Int) (a : Int), IntKind.i64.wrap (l.foldl (fun s x => IntKind.i64.wrap (s + x)) a) = IntKind.i64.wrap (a + l.sum) := by
  intro l
  induction l with
  | nil => intro a; simp
  | cons x t ih =>
    intro a
    rw [List.foldl_cons, ih, i64_ww, List.sum_cons, Int.add_assoc]
theorem sumOf_diff (a b : List Int) : IntKind.i64.wrap (sumOf.sp a - sumOf.sp b) = IntKind.i64.wrap (a.sum - b.sum) := by
  rw [← i64_wd, sumOf.sp, sumOf.sp, fold_sum, fold_sum, Int.zero_add, Int.zero_add, i64_wd]
/-- The sum of what each one waits, from one on. -/
def dif : List Int → List Int → Int → Int
  | x :: xs, c :: cs, a => dif xs cs (IntKind.i64.wrap (a + IntKind.i64.wrap (x - c)))
  | _, _, a => a
theorem dif_eq : ∀ (xs cs : List Int) (a : Int), xs.length = cs.length → IntKind.i64.wrap a = a → dif xs cs a = IntKind.i64.wrap (a + xs.sum - cs.sum) := by
  intro xs
  induction xs with
  | nil =>
    intro cs a h ha
    match cs, h with
    | [], _ => simp [dif, ha]
  | cons x xs ih =>
    intro cs a h ha
    match cs, h with
    | c :: cs, h =>
      simp only [dif]
      rw [ih cs _ (by simpa using h) (i64_idem _), List.sum_cons, List.sum_cons]
      simp only [IntKind.wrap_i64]
      omega
end ln




namespace slIndex
def R : List AVal → Option (Bool × AVal × List Blk)
  | [.ro (.ints .i64 xs) m 1, .int .i64 v] => some (decide (m ≤ xs.length ∧ m ≤ 4611686018427387904), .int .i64 (fidx.sq (fun y => v == y) (xs.take m) 0), [])
  | _ => none
def hd : Nat → Head := fun _ => ⟨[0, 1, 4, 7, 8], none⟩
noncomputable def L (f n : Nat) (s : State) := loopAt Try.prog (orc []) hd Dr.std 0 f (bodyOf Try.f109) 0 [true, false, true] (retK Try.prog [4] 0 none) n s
theorem start (xs : List Int) (m : Nat) (v : Int) (f : Nat) :
  runFn Try.prog (orc []) hd Dr.std none f (bodyOf Try.f109) 19 [4] [.ro (.ints .i64 xs) m 1, .int .i64 v] []
  = (L f f (mkS (19 : Nat) [((0 : Nat), AVal.ro (Cont.ints IntKind.i64 xs) m (1 : Nat)), ((1 : Nat), AVal.int IntKind.i64 v), ((4 : Nat), AVal.int IntKind.i64 (0 : Int)), ((7 : Nat), AVal.int IntKind.i64 (↑m : Int)), ((8 : Nat), AVal.int IntKind.i64 (0 : Int))] [])) := by kernel_rfl
theorem round (xs : List Int) (m : Nat) (v : Int) (i : Nat) (f n : Nat) :
  L f (n + 1) (mkS 19 [(0, .ro (.ints .i64 xs) m 1), (1, .int .i64 v), (4, .int .i64 0), (7, .int .i64 m), (8, .int .i64 i)] [])
  = (bif decide ((↑i : Int) < (↑m : Int)) then bif true && (decide ((0 : Int) ≤ (↑i : Int)) && decide ((↑i : Int) < (↑m : Int))) then bif decide ((↑i : Int).toNat < xs.length) then bif v == gz xs (↑i : Int).toNat then some (AVal.int IntKind.i64 (↑i : Int), []) else L f n (mkS (19 : Nat) [((0 : Nat), AVal.ro (Cont.ints IntKind.i64 xs) m (1 : Nat)), ((1 : Nat), AVal.int IntKind.i64 v), ((4 : Nat), AVal.int IntKind.i64 (0 : Int)), ((7 : Nat), AVal.int IntKind.i64 (↑m : Int)), ((8 : Nat), AVal.int IntKind.i64 (IntKind.i64.wrap ((↑i : Int) + (1 : Int))))] []) else none else none else some (AVal.int IntKind.i64 (-1 : Int), [])) := by kernel_rfl
theorem loop (xs : List Int) (m : Nat) (v : Int) (f : Nat) (hx : m ≤ xs.length) (hb : m ≤ 4611686018427387904) : ∀ (d i n : Nat) , i + d = m → d < n →
    L f n (mkS 19 [(0, .ro (.ints .i64 xs) m 1), (1, .int .i64 v), (4, .int .i64 0), (7, .int .i64 m), (8, .int .i64 i)] []) = some (.int .i64 (fidx.sq (fun y => v == y) ((xs.take m).drop i) i), []) := by
  intro d
  induction d with
  | zero =>
    intro i n  hi hn 
    obtain ⟨n, rfl⟩ : ∃ k, n = k + 1 := ⟨n - 1, by omega⟩
    obtain rfl : i = m := by omega
    rw [round]
    have e : (xs.take i).drop i = [] := by simp
    rw [e]
    simp [fidx.sq]
  | succ d ih =>
    intro i n  hi hn 
    obtain ⟨n, rfl⟩ : ∃ k, n = k + 1 := ⟨n - 1, by omega⟩
    have h1 : i < m := by omega
    have h4 : (0 : Int) ≤ (i : Int) := Int.natCast_nonneg _
    have h5 : (i : Int) < (m : Int) := by omega
    have h2 : i < xs.length := by omega
    rw [round]
    rw [drop_take_cons hx h1]
    simp only [fidx.sq]
    have hr := ih (i + 1) n (by omega) (by omega)
    simp only [h4, h5, h2, gz_eq h2, decide_true, Bool.and_self, Bool.or_self, Bool.and_true, Bool.true_and, cond_true, Int.toNat_natCast, wrap_nat i (by omega)]
    rw [hr]
    cases (v == xs[i]) <;> rfl
theorem run : ∀ args v new, R args = some (true, v, new) → ∃ fuel, runFn Try.prog (orc []) hd Dr.std none fuel (bodyOf Try.f109) 19 [4] args [] = some (v, new) := by
  intro args v new h
  unfold R at h
  split at h
  · rename_i xs m v
    simp only [Option.some.injEq, Prod.mk.injEq, decide_eq_true_eq] at h
    obtain ⟨⟨h1, h2⟩, rfl, rfl⟩ := h
    refine ⟨m + 1, ?_⟩
    rw [start]
    have hl := loop xs m v (m + 1) h1 h2 m 0 (m + 1) (by omega) (by omega)
    simpa using hl
  · cases h
theorem ok : EntOk Try.prog ⟨109, R⟩ :=
  ent_okA mixed (A := (orc [])) (orc_ok (by simp)) Try.func109 (by kernel_rfl) (by kernel_rfl) (n := 19) (ts := [4]) (hd := hd) (dr := Dr.std) (cut := none) (by kernel_rfl) (by kernel_rfl) (by kernel_rfl) run
end slIndex

namespace slMin
def R : List AVal → Option (Bool × AVal × List Blk)
  | [.ro (.ints .i64 xs) m 1] => some (decide (0 < m ∧ m ≤ xs.length ∧ m ≤ 4611686018427387904), .int .i64 (ln.low.sv (xs.take m)), [])
  | _ => none
def hd : Nat → Head := fun _ => ⟨[0, 3, 4], none⟩
noncomputable def L (f n : Nat) (s : State) := loopAt Try.prog (orc []) hd Dr.std 0 f (bodyOf Try.f71) 0 [true, true, true, false, true] (retK Try.prog [2] 0 none) n s
theorem start (xs : List Int) (m : Nat) (f : Nat) :
  runFn Try.prog (orc []) hd Dr.std none f (bodyOf Try.f71) 25 [2] [.ro (.ints .i64 xs) m 1] []
  = (bif decide ((↑m : Int) < (1 : Int)) then none else bif decide ((0 : Int) < (↑m : Int)) then bif decide ((0 : Nat) < xs.length) then L f f (mkS (25 : Nat) [((0 : Nat), AVal.ro (Cont.ints IntKind.i64 xs) m (1 : Nat)), ((3 : Nat), AVal.int IntKind.i64 (gz xs (0 : Nat))), ((4 : Nat), AVal.int IntKind.i64 (1 : Int))] []) else none else none) := by kernel_rfl
theorem round (xs : List Int) (m : Nat) (a : Int) (i : Nat) (f n : Nat) :
  L f (n + 1) (mkS 25 [(0, .ro (.ints .i64 xs) m 1), (3, .int .i64 a), (4, .int .i64 i)] [])
  = (bif decide ((↑i : Int) < (↑m : Int)) then bif true && (decide ((0 : Int) ≤ (↑i : Int)) && decide ((↑i : Int) < (↑m : Int))) then bif decide ((↑i : Int).toNat < xs.length) then L f n (mkS (25 : Nat) [((0 : Nat), AVal.ro (Cont.ints IntKind.i64 xs) m (1 : Nat)), ((3 : Nat), AVal.int IntKind.i64 (if gz xs (↑i : Int).toNat < a then gz xs (↑i : Int).toNat else a)), ((4 : Nat), AVal.int IntKind.i64 (IntKind.i64.wrap ((↑i : Int) + (1 : Int))))] []) else none else none else some (AVal.int IntKind.i64 a, [])) := by kernel_rfl
theorem loop (xs : List Int) (m : Nat) (f : Nat) (hx : m ≤ xs.length) (hb : m ≤ 4611686018427387904) : ∀ (d i n : Nat) (a : Int), i + d = m → d < n →
    L f n (mkS 25 [(0, .ro (.ints .i64 xs) m 1), (3, .int .i64 a), (4, .int .i64 i)] []) = some (.int .i64 (((xs.take m).drop i).foldl ln.imin a), []) := by
  intro d
  induction d with
  | zero =>
    intro i n a hi hn 
    obtain ⟨n, rfl⟩ : ∃ k, n = k + 1 := ⟨n - 1, by omega⟩
    obtain rfl : i = m := by omega
    rw [round]
    have e : (xs.take i).drop i = [] := by simp
    rw [e]
    simp
  | succ d ih =>
    intro i n a hi hn 
    obtain ⟨n, rfl⟩ : ∃ k, n = k + 1 := ⟨n - 1, by omega⟩
    have h1 : i < m := by omega
    have h4 : (0 : Int) ≤ (i : Int) := Int.natCast_nonneg _
    have h5 : (i : Int) < (m : Int) := by omega
    have h2 : i < xs.length := by omega
    rw [round]
    rw [drop_take_cons hx h1, List.foldl_cons]
    simp only [h4, h5, h2, gz_eq h2, decide_true, Bool.and_self, Bool.or_self, Bool.and_true, Bool.true_and, cond_true, Int.toNat_natCast, wrap_nat i (by omega)]
    exact ih (i + 1) n (ln.imin a xs[i]) (by omega) (by omega)
theorem run : ∀ args v new, R args = some (true, v, new) → ∃ fuel, runFn Try.prog (orc []) hd Dr.std none fuel (bodyOf Try.f71) 25 [2] args [] = some (v, new) := by
  intro args v new h
  unfold R at h
  split at h
  · rename_i xs m
    simp only [Option.some.injEq, Prod.mk.injEq, decide_eq_true_eq] at h
    obtain ⟨⟨h0, h1, h2⟩, rfl, rfl⟩ := h
    refine ⟨m + 1, ?_⟩
    rw [start]
    have c1 : ¬ ((m : Int) < 1) := by omega
    have c2 : (0 : Int) < (m : Int) := by omega
    have l0 : 0 < xs.length := by omega
    have hl := loop xs m (m + 1) h1 h2 (m - 1) 1 (m + 1) xs[0] (by omega) (by omega)
    have e : xs.take m = xs[0] :: (xs.take m).drop 1 := by
      have := drop_take_cons h1 h0
      rwa [List.drop_zero] at this
    simp only [c1, c2, l0, gz_eq l0, Int.lt_irrefl, decide_true, decide_false, Bool.and_self, Bool.or_self, Bool.and_true, Bool.true_and, Bool.and_false, Bool.false_and, Bool.or_true, Bool.true_or, Bool.or_false, Bool.false_or, Bool.not_true, Bool.not_false, cond_true, cond_false]
    rw [e]
    exact hl
  · cases h
theorem ok : EntOk Try.prog ⟨71, R⟩ :=
  ent_okA mixed (A := (orc [])) (orc_ok (by simp)) Try.func71 (by kernel_rfl) (by kernel_rfl) (n := 25) (ts := [2]) (hd := hd) (dr := Dr.std) (cut := none) (by kernel_rfl) (by kernel_rfl) (by kernel_rfl) run
end slMin



end Go.Proofs.Ytkoongajnnaeoaa.Ab
