/-
  Functions: numbers in order, worse rows.
-/
import Derived.Test.YtfbalfhekldkbaaFnGF
namespace Go.Proofs.Ytfbalfhekldkbaa.Ab
open Go
set_option linter.unusedVariables false
set_option linter.unusedSimpArgs false
set_option maxRecDepth 100000

namespace cnt
def sv (n : Nat) : List Int := br.up (List.range n)
theorem sv_length (n : Nat) : (sv n).length = n := by simp [sv, br.up]
theorem sv_succ (n : Nat) : sv (n + 1) = sv n ++ [(n : Int)] := by simp [sv, br.up, List.range_succ]
theorem sv_get {n i : Nat} (h : i < n) : gz (sv n) i = (i : Int) := by rw [gz_eq (by rw [sv_length]; exact h)]; simp [sv, br.up]
end cnt
namespace wr
/-- Is a row less than another one everywhere? -/
def le.sp (c : Nat) (xs : List Int) (i j k : Nat) : Bool := decide (br.col c xs k j ≤ br.col c xs k i)
def ex.sp (n : Nat) (p : Nat → Bool) : Bool := (List.range n).any p
def ix.sv (n : Nat) (p : Nat → Bool) : Int := fidx.sq p (List.range n) 0
theorem ix_ge (n : Nat) (p : Nat → Bool) : decide (0 ≤ wr.ix.sv n p) = wr.ex.sp n p := fidx_ge _ _ _
def w.sp (c : Nat) (xs : List Int) (i j : Nat) : Bool := !wr.ex.sp c (wr.le.sp c xs i j)
def b.sp (r c : Nat) (xs : List Int) (i : Nat) : Bool := wr.ex.sp r (wr.w.sp c xs i)
def F (r c : Nat) (xs : List Int) (n : Nat) : List Nat := (List.range n).filter (wr.b.sp r c xs)
theorem F_succ (r c : Nat) (xs : List Int) (n : Nat) : F r c xs (n + 1) = F r c xs n ++ (bif wr.b.sp r c xs n then [n] else []) := by
  simp only [F, List.range_succ, List.filter_append]
  cases h : wr.b.sp r c xs n <;> simp [h]
theorem F_length (r c : Nat) (xs : List Int) (n : Nat) : (F r c xs n).length ≤ n := by
  have := List.length_filter_le (wr.b.sp r c xs) (List.range n)
  simpa [F] using this
def sv (r c : Nat) (xs : List Int) : List Int := br.up (F r c xs r)
theorem sv_length (r c : Nat) (xs : List Int) : (sv r c xs).length ≤ r := by rw [sv, br.up_length]; exact F_length _ _ _ _
theorem up_snoc (l : List Nat) (n : Nat) : br.up (l ++ [n]) = br.up l ++ [(n : Int)] := by simp [br.up]
end wr

namespace counting
def R : List AVal → Option (Bool × AVal × List Blk)
  | [.int .i64 m] => some (decide (0 ≤ m ∧ m ≤ 1000), .own 0 0 (cnt.sv m.toNat).length 0 1, [⟨.typ (.ints .i64 (cnt.sv m.toNat)), 0⟩])
  | _ => none
def hd : Nat → Head := fun _ => ⟨[3, 6, 7], some 1⟩
noncomputable def L (f n : Nat) (s : State) := loopAt Try.prog (orc []) hd Dr.std 0 f (bodyOf Try.f32) 0 [true, true, false, true] (retK Try.prog [2] 0 none) n s
theorem start (m f : Nat) :
  runFn Try.prog (orc []) hd Dr.std none f (bodyOf Try.f32) 16 [2] [.int .i64 m] []
  = (L f f (mkS (16 : Nat) [((3 : Nat), AVal.own (0 : Nat) (0 : Nat) (0 : Nat) (0 : Nat) (1 : Nat)), ((6 : Nat), AVal.int IntKind.i64 (↑m : Int)), ((7 : Nat), AVal.int IntKind.i64 (0 : Int))] [{ c := BC.typ (Cont.ints IntKind.i64 (List.replicate (0 : Nat) (0 : Int))), ver := (0 : Nat) }])) := by kernel_rfl
theorem round (zs : List Int) (m i f n : Nat) :
  L f (n + 1) (mkS 16 [(3, .own 0 0 i 0 1), (6, .int .i64 m), (7, .int .i64 i)] [⟨.typ (.ints .i64 zs), 0⟩])
  = (bif decide ((↑i : Int) < (↑m : Int)) then bif (1 : Nat) == (1 : Nat) && (1 : Nat) == (1 : Nat) && (true && (true && true) && (true && true && (decide (i + (List.take (1 : Nat) (List.drop (0 : Nat) ((List.replicate (1 : Nat) (0 : Int)).set (0 : Nat) (↑i : Int)))).length ≤ (4611686018427387904 : Nat)) && decide ((i + (List.take (1 : Nat) (List.drop (0 : Nat) ((List.replicate (1 : Nat) (0 : Int)).set (0 : Nat) (↑i : Int)))).length) * (8 : Nat) ≤ (140737488355328 : Nat))))) then L f n (mkS (16 : Nat) [((3 : Nat), AVal.own (0 : Nat) (0 : Nat) (i + (List.take (1 : Nat) (List.drop (0 : Nat) ((List.replicate (1 : Nat) (0 : Int)).set (0 : Nat) (↑i : Int)))).length) (0 : Nat) (1 : Nat)), ((6 : Nat), AVal.int IntKind.i64 (↑m : Int)), ((7 : Nat), AVal.int IntKind.i64 (IntKind.i64.wrap ((↑i : Int) + (1 : Int))))] [{ c := BC.typ (Cont.ints IntKind.i64 (List.take i zs ++ List.take (1 : Nat) (List.drop (0 : Nat) ((List.replicate (1 : Nat) (0 : Int)).set (0 : Nat) (↑i : Int))))), ver := (0 : Nat) }]) else none else some (AVal.own (0 : Nat) (0 : Nat) i (0 : Nat) (1 : Nat), [{ c := BC.typ (Cont.ints IntKind.i64 zs), ver := (0 : Nat) }])) := by kernel_rfl
theorem loop (m : Nat) (f : Nat) (hb : m ≤ 1000) : ∀ (d i n : Nat) , i + d = m → d < n →
    L f n (mkS 16 [(3, .own 0 0 i 0 1), (6, .int .i64 m), (7, .int .i64 i)] [⟨.typ (.ints .i64 (cnt.sv i)), 0⟩]) = some (.own 0 0 m 0 1, [⟨.typ (.ints .i64 (cnt.sv m)), 0⟩]) := by
  intro d
  induction d with
  | zero =>
    intro i n  hi hn 
    obtain ⟨n, rfl⟩ : ∃ k, n = k + 1 := ⟨n - 1, by omega⟩
    obtain rfl : i = m := by omega
    rw [round]
    simp only [Int.lt_irrefl, decide_false, cond_false]
  | succ d ih =>
    intro i n  hi hn 
    obtain ⟨n, rfl⟩ : ∃ k, n = k + 1 := ⟨n - 1, by omega⟩
    have h1 : i < m := by omega
    have h4 : (0 : Int) ≤ (i : Int) := Int.natCast_nonneg _
    have h5 : (i : Int) < (m : Int) := by omega
    rw [round]
    have hih := ih (i + 1) n (by omega) (by omega)
    rw [cnt.sv_succ] at hih
    have k0 : i + 1 ≤ 4611686018427387904 := by omega
    have k1 : (i + 1) * 8 ≤ 140737488355328 := by omega
    have ht : (cnt.sv i).take i = cnt.sv i := List.take_of_length_le (by rw [cnt.sv_length]; omega)
    simp only [h5, ht, k0, k1, one_set, List.length_singleton, Nat.reduceBEq, wrap_nat i (by omega), decide_true, decide_false, Bool.and_self, Bool.or_self, Bool.and_true, Bool.true_and, Bool.and_false, Bool.false_and, Bool.or_true, Bool.true_or, Bool.or_false, Bool.false_or, Bool.not_true, Bool.not_false, cond_true, cond_false]
    exact hih
theorem run : ∀ args v new, R args = some (true, v, new) → ∃ fuel, runFn Try.prog (orc []) hd Dr.std none fuel (bodyOf Try.f32) 16 [2] args [] = some (v, new) := by
  intro args v new h
  unfold R at h
  split at h
  · rename_i m
    simp only [Option.some.injEq, Prod.mk.injEq, decide_eq_true_eq] at h
    obtain ⟨⟨h1, h2⟩, rfl, rfl⟩ := h
    obtain ⟨m, rfl⟩ : ∃ q : Nat, m = q := ⟨m.toNat, by omega⟩
    refine ⟨m + 1, ?_⟩
    rw [start, cnt.sv_length]
    exact loop m (m + 1) (by omega) m 0 (m + 1) (by omega) (by omega)
  · cases h
theorem ok : EntOk Try.prog ⟨32, R⟩ :=
  ent_okA mixed (A := (orc [])) (orc_ok (by simp)) Try.func32 (by kernel_rfl) (by kernel_rfl) (n := 16) (ts := [2]) (hd := hd) (dr := Dr.std) (cut := none) (by kernel_rfl) (by kernel_rfl) (by kernel_rfl) run
end counting

namespace worse2
def dr : Nat → Dr := fun i => bif eqN i 1 then ⟨some [0, 1, 2, 4, 5, 6, 3, 7, 8, 9], false⟩ else ⟨none, false⟩
def R : List AVal → Option (Bool × AVal × List Blk)
  | [.int .i64 k, .rom [.int .i64 r, .int .i64 c, .ro (.ints .i64 xs) ma 1, .ro (.ints .i64 ys) mb 1] 0, .rom [.int .i64 j] 0, .rom [.int .i64 i] 0] => some (decide (ma = xs.length ∧ mb = ys.length ∧ 0 ≤ k ∧ k < c ∧ 0 ≤ j ∧ j < r ∧ 0 ≤ i ∧ i < r) && gm.sp r c xs ys, .bool (wr.le.sp c.toNat xs i.toNat j.toNat k.toNat), [])
  | _ => none
theorem go (r c : Int) (xs ys : List Int) (i j k : Int) :
  runFn Try.prog (orc [⟨45, gA.R⟩]) hd0 dr none 0 (bodyOf Try.f53) 15 [5] [.int .i64 k, .rom [.int .i64 r, .int .i64 c, .ro (.ints .i64 xs) xs.length 1, .ro (.ints .i64 ys) ys.length 1] 0, .rom [.int .i64 j] 0, .rom [.int .i64 i] 0] []
  = (bif decide (xs.length = xs.length ∧ ys.length = ys.length ∧ (0 : Int) ≤ j ∧ (0 : Int) ≤ k ∧ j ≤ (100 : Int) ∧ k ≤ (100 : Int) ∧ (0 : Int) ≤ c ∧ c ≤ (100 : Int) ∧ j * c + k < (↑xs.length : Int)) && (true && (true && (true && (true && true))) && (true && (true && true)) || true && true) then bif decide (xs.length = xs.length ∧ ys.length = ys.length ∧ (0 : Int) ≤ i ∧ (0 : Int) ≤ k ∧ i ≤ (100 : Int) ∧ k ≤ (100 : Int) ∧ (0 : Int) ≤ c ∧ c ≤ (100 : Int) ∧ i * c + k < (↑xs.length : Int)) && (true && (true && (true && (true && true))) && (true && (true && true)) || true && true) then some (AVal.bool (decide (gz xs (j * c + k).toNat ≤ gz xs (i * c + k).toNat)), []) else none else none) := by kernel_rfl
theorem run : ∀ args v new, R args = some (true, v, new) → ∃ fuel, runFn Try.prog (orc [⟨45, gA.R⟩]) hd0 dr none fuel (bodyOf Try.f53) 15 [5] args [] = some (v, new) := by
  intro args v new h
  unfold R at h
  split at h
  · rename_i k r c xs ma ys mb j i
    simp only [Option.some.injEq, Prod.mk.injEq, Bool.and_eq_true, decide_eq_true_eq] at h
    obtain ⟨⟨⟨rfl, rfl, q1, q2, q3, q4, q5, q6⟩, hv⟩, rfl, rfl⟩ := h
    obtain ⟨r, c, rfl, rfl, hr, hc, hx, hy, vx, vy⟩ := gm.valid hv
    obtain ⟨k, rfl⟩ : ∃ q : Nat, k = q := ⟨k.toNat, by omega⟩
    obtain ⟨j, rfl⟩ : ∃ q : Nat, j = q := ⟨j.toNat, by omega⟩
    obtain ⟨i, rfl⟩ : ∃ q : Nat, i = q := ⟨i.toNat, by omega⟩
    have hk : k < c := by omega
    have hii : i < r := by omega
    have hij : j < r := by omega
    have h36 := gm.le_36 hr.2 hc.2
    have k0 : (0 : Int) ≤ (k : Int) := Int.natCast_nonneg _
    have k1 : (k : Int) ≤ 100 := by omega
    have c0 : (0 : Int) ≤ (c : Int) := Int.natCast_nonneg _
    have c1 : (c : Int) ≤ 100 := by omega
    have hlti := gm.ix_lt (R := r) (C := c) hii hk
    have i0i : (0 : Int) ≤ (i : Int) := Int.natCast_nonneg _
    have i1i : (i : Int) ≤ 100 := by omega
    have emi : (i : Int) * (c : Int) = ((i * c : Nat) : Int) := by simp
    have eei : ((i * c : Nat) : Int) + (k : Int) = ((i * c + k : Nat) : Int) := by simp
    have lxi : ((i * c + k : Nat) : Int) < (xs.length : Int) := by omega
    have lx2i : i * c + k < xs.length := by omega
    have p0i : (0 : Int) ≤ ((i * c + k : Nat) : Int) := Int.natCast_nonneg _
    have w1i : IntKind.i64.wrap ((i * c : Nat) : Int) = ((i * c : Nat) : Int) := IntWalk.i64_in _ (by omega)
    have w2i : IntKind.i64.wrap ((i * c + k : Nat) : Int) = ((i * c + k : Nat) : Int) := IntWalk.i64_in _ (by omega)
    have cci : gz xs (i * c + k) = br.col c xs k i := rfl
    have hltj := gm.ix_lt (R := r) (C := c) hij hk
    have i0j : (0 : Int) ≤ (j : Int) := Int.natCast_nonneg _
    have i1j : (j : Int) ≤ 100 := by omega
    have emj : (j : Int) * (c : Int) = ((j * c : Nat) : Int) := by simp
    have eej : ((j * c : Nat) : Int) + (k : Int) = ((j * c + k : Nat) : Int) := by simp
    have lxj : ((j * c + k : Nat) : Int) < (xs.length : Int) := by omega
    have lx2j : j * c + k < xs.length := by omega
    have p0j : (0 : Int) ≤ ((j * c + k : Nat) : Int) := Int.natCast_nonneg _
    have w1j : IntKind.i64.wrap ((j * c : Nat) : Int) = ((j * c : Nat) : Int) := IntWalk.i64_in _ (by omega)
    have w2j : IntKind.i64.wrap ((j * c + k : Nat) : Int) = ((j * c + k : Nat) : Int) := IntWalk.i64_in _ (by omega)
    have ccj : gz xs (j * c + k) = br.col c xs k j := rfl
    refine ⟨0, ?_⟩
    rw [go]
    simp only [emi, eei, w1i, w2i, lxi, lx2i, p0i, i0i, i1i, cci, emj, eej, w1j, w2j, lxj, lx2j, p0j, i0j, i1j, ccj, k0, k1, c0, c1, Int.toNat_natCast, and_self, eq_self, decide_true, decide_false, Bool.and_self, Bool.or_self, Bool.and_true, Bool.true_and, Bool.and_false, Bool.false_and, Bool.or_true, Bool.true_or, Bool.or_false, Bool.false_or, Bool.not_true, Bool.not_false, cond_true, cond_false, wr.le.sp]
  · cases h
theorem ok : EntOk Try.prog ⟨53, R⟩ :=
  ent_okA mixed (A := (orc [⟨45, gA.R⟩])) (orc_ok (by simp only [List.mem_cons, List.not_mem_nil, or_false, forall_eq_or_imp, forall_eq]; exact gA.ok)) Try.func53 (by kernel_rfl) (by kernel_rfl) (n := 15) (ts := [5]) (hd := hd0) (dr := dr) (cut := none) (by kernel_rfl) (by kernel_rfl) (by kernel_rfl) run
end worse2

namespace idxW2
def R : List AVal → Option (Bool × AVal × List Blk)
  | [.ro (.ints .i64 zs) m 1, .fn ff [.rom [.int .i64 r, .int .i64 c, .ro (.ints .i64 xs) ma 1, .ro (.ints .i64 ys) mb 1] 0, .rom [.int .i64 j] 0, .rom [.int .i64 i] 0]] => some (decide (m ≤ 100 ∧ zs = cnt.sv m ∧ ff = 53 ∧ ma = xs.length ∧ mb = ys.length ∧ (m : Int) = c ∧ 0 ≤ j ∧ j < r ∧ 0 ≤ i ∧ i < r) && gm.sp r c xs ys, .int .i64 (wr.ix.sv m (wr.le.sp c.toNat xs i.toNat j.toNat)), [])
  | _ => none
def hd : Nat → Head := fun _ => ⟨[0, 1, 4, 7, 8], none⟩
noncomputable def L (f n : Nat) (s : State) := loopAt Try.prog (orc [⟨53, worse2.R⟩]) hd Dr.std 0 f (bodyOf Try.f58) 0 [true, false, true] (retK Try.prog [4] 0 none) n s
theorem start (zs : List Int) (m : Nat) (r c : Nat) (xs ys : List Int) (i j : Nat) (f : Nat) :
  runFn Try.prog (orc [⟨53, worse2.R⟩]) hd Dr.std none f (bodyOf Try.f58) 19 [4] [.ro (.ints .i64 zs) m 1, .fn 53 [.rom [.int .i64 r, .int .i64 c, .ro (.ints .i64 xs) xs.length 1, .ro (.ints .i64 ys) ys.length 1] 0, .rom [.int .i64 j] 0, .rom [.int .i64 i] 0]] []
  = (L f f (mkS (19 : Nat) [((0 : Nat), AVal.ro (Cont.ints IntKind.i64 zs) m (1 : Nat)), ((1 : Nat), AVal.fn (53 : Nat) [AVal.rom [AVal.int IntKind.i64 (↑r : Int), AVal.int IntKind.i64 (↑c : Int), AVal.ro (Cont.ints IntKind.i64 xs) xs.length (1 : Nat), AVal.ro (Cont.ints IntKind.i64 ys) ys.length (1 : Nat)] (0 : Nat), AVal.rom [AVal.int IntKind.i64 (↑j : Int)] (0 : Nat), AVal.rom [AVal.int IntKind.i64 (↑i : Int)] (0 : Nat)]), ((4 : Nat), AVal.int IntKind.i64 (0 : Int)), ((7 : Nat), AVal.int IntKind.i64 (↑m : Int)), ((8 : Nat), AVal.int IntKind.i64 (0 : Int))] [])) := by kernel_rfl
theorem round (zs : List Int) (m i0 : Nat) (r c : Nat) (xs ys : List Int) (i j : Nat) (f n : Nat) :
  L f (n + 1) (mkS 19 [(0, .ro (.ints .i64 zs) m 1), (1, .fn 53 [.rom [.int .i64 r, .int .i64 c, .ro (.ints .i64 xs) xs.length 1, .ro (.ints .i64 ys) ys.length 1] 0, .rom [.int .i64 j] 0, .rom [.int .i64 i] 0]), (4, .int .i64 0), (7, .int .i64 m), (8, .int .i64 i0)] [])
  = (bif decide ((↑i0 : Int) < (↑m : Int)) then bif true && (decide ((0 : Int) ≤ (↑i0 : Int)) && decide ((↑i0 : Int) < (↑m : Int))) then bif decide ((↑i0 : Int).toNat < zs.length) then bif decide (xs.length = xs.length ∧ ys.length = ys.length ∧ (0 : Int) ≤ gz zs (↑i0 : Int).toNat ∧ gz zs (↑i0 : Int).toNat < (↑c : Int) ∧ (0 : Int) ≤ (↑j : Int) ∧ (↑j : Int) < (↑r : Int) ∧ (0 : Int) ≤ (↑i : Int) ∧ (↑i : Int) < (↑r : Int)) && gm.sp (↑r : Int) (↑c : Int) xs ys && (true && (true && (true && (true && (true && true))) && (true && true && (true && true && true))) || true && true) then bif wr.le.sp (↑c : Int).toNat xs (↑i : Int).toNat (↑j : Int).toNat (gz zs (↑i0 : Int).toNat).toNat then some (AVal.int IntKind.i64 (↑i0 : Int), []) else L f n (mkS (19 : Nat) [((0 : Nat), AVal.ro (Cont.ints IntKind.i64 zs) m (1 : Nat)), ((1 : Nat), AVal.fn (53 : Nat) [AVal.rom [AVal.int IntKind.i64 (↑r : Int), AVal.int IntKind.i64 (↑c : Int), AVal.ro (Cont.ints IntKind.i64 xs) xs.length (1 : Nat), AVal.ro (Cont.ints IntKind.i64 ys) ys.length (1 : Nat)] (0 : Nat), AVal.rom [AVal.int IntKind.i64 (↑j : Int)] (0 : Nat), AVal.rom [AVal.int IntKind.i64 (↑i : Int)] (0 : Nat)]), ((4 : Nat), AVal.int IntKind.i64 (0 : Int)), ((7 : Nat), AVal.int IntKind.i64 (↑m : Int)), ((8 : Nat), AVal.int IntKind.i64 (IntKind.i64.wrap ((↑i0 : Int) + (1 : Int))))] []) else none else none else none else some (AVal.int IntKind.i64 (-1 : Int), [])) := by kernel_rfl
theorem loop (m : Nat) (r c : Nat) (xs ys : List Int) (i j : Nat) (f : Nat) (hv : gm.sp r c xs ys = true) (hmc : m = c) (hi : i < r) (hj : j < r) (hm : m ≤ 100) : ∀ (d i0 n : Nat), i0 + d = m → d < n →
    L f n (mkS 19 [(0, .ro (.ints .i64 (cnt.sv m)) m 1), (1, .fn 53 [.rom [.int .i64 r, .int .i64 c, .ro (.ints .i64 xs) xs.length 1, .ro (.ints .i64 ys) ys.length 1] 0, .rom [.int .i64 j] 0, .rom [.int .i64 i] 0]), (4, .int .i64 0), (7, .int .i64 m), (8, .int .i64 i0)] []) = some (.int .i64 (fidx.sq (wr.le.sp c xs i j) ((List.range m).drop i0) i0), []) := by
  intro d
  induction d with
  | zero =>
    intro i0 n hi hn
    obtain ⟨n, rfl⟩ : ∃ k, n = k + 1 := ⟨n - 1, by omega⟩
    obtain rfl : i0 = m := by omega
    rw [round]
    have e : (List.range i0).drop i0 = [] := List.drop_of_length_le (by simp)
    simp only [e, fidx.sq, Int.lt_irrefl, decide_true, decide_false, Bool.and_self, Bool.or_self, Bool.and_true, Bool.true_and, Bool.and_false, Bool.false_and, Bool.or_true, Bool.true_or, Bool.or_false, Bool.false_or, Bool.not_true, Bool.not_false, cond_true, cond_false]
  | succ d ih =>
    intro i0 n hi hn
    obtain ⟨n, rfl⟩ : ∃ k, n = k + 1 := ⟨n - 1, by omega⟩
    have h1 : i0 < m := by omega
    have h4 : (0 : Int) ≤ (i0 : Int) := Int.natCast_nonneg _
    have h5 : (i0 : Int) < (m : Int) := by omega
    have h2 : i0 < (cnt.sv m).length := by rw [cnt.sv_length]; exact h1
    have hr0 := ih (i0 + 1) n (by omega) (by omega)
    have g1 : (0 : Int) ≤ (j : Int) := Int.natCast_nonneg _
    have g2 : (0 : Int) ≤ (i : Int) := Int.natCast_nonneg _
    have g3 : (j : Int) < (r : Int) := by omega
    have g4 : (i : Int) < (r : Int) := by omega
    have g5 : (i0 : Int) < (c : Int) := by omega
    have g6 : (0 : Int) ≤ (i0 : Int) := h4
    rw [round, br.drop_range h1]
    simp only [fidx.sq, h4, h5, h2, cnt.sv_get h1, Int.toNat_natCast, wrap_nat i0 (by omega), and_self, eq_self, hv, g1, g2, g3, g4, g5, g6, decide_true, decide_false, Bool.and_self, Bool.or_self, Bool.and_true, Bool.true_and, Bool.and_false, Bool.false_and, Bool.or_true, Bool.true_or, Bool.or_false, Bool.false_or, Bool.not_true, Bool.not_false, cond_true, cond_false]
    rw [hr0]
    cases (wr.le.sp c xs i j) i0 <;> rfl
theorem run : ∀ args v new, R args = some (true, v, new) → ∃ fuel, runFn Try.prog (orc [⟨53, worse2.R⟩]) hd Dr.std none fuel (bodyOf Try.f58) 19 [4] args [] = some (v, new) := by
  intro args v new h
  unfold R at h
  split at h
  · rename_i zs m ff r c xs ma ys mb j i
    simp only [Option.some.injEq, Prod.mk.injEq, Bool.and_eq_true, decide_eq_true_eq] at h
    obtain ⟨⟨⟨g0, rfl, rfl, rfl, rfl, g1, g2, g3, g4, g5⟩, hv⟩, rfl, rfl⟩ := h
    obtain ⟨r, c, rfl, rfl, hr, hc, hx, hy, vx, vy⟩ := gm.valid hv
    obtain ⟨j, rfl⟩ : ∃ q : Nat, j = q := ⟨j.toNat, by omega⟩
    obtain ⟨i, rfl⟩ : ∃ q : Nat, i = q := ⟨i.toNat, by omega⟩
    refine ⟨m + 1, ?_⟩
    rw [start]
    have hl := loop m r c xs ys i j (m + 1) hv (by omega) (by omega) (by omega) (by omega) m 0 (m + 1) (by omega) (by omega)
    rw [List.drop_zero] at hl
    exact hl
  · cases h
theorem ok : EntOk Try.prog ⟨58, R⟩ :=
  ent_okA mixed (A := (orc [⟨53, worse2.R⟩])) (orc_ok (by simp only [List.mem_cons, List.not_mem_nil, or_false, forall_eq_or_imp, forall_eq]; exact worse2.ok)) Try.func58 (by kernel_rfl) (by kernel_rfl) (n := 19) (ts := [4]) (hd := hd) (dr := Dr.std) (cut := none) (by kernel_rfl) (by kernel_rfl) (by kernel_rfl) run
end idxW2

namespace hasW2
def R : List AVal → Option (Bool × AVal × List Blk)
  | [.ro (.ints .i64 zs) m 1, .fn ff [.rom [.int .i64 r, .int .i64 c, .ro (.ints .i64 xs) ma 1, .ro (.ints .i64 ys) mb 1] 0, .rom [.int .i64 j] 0, .rom [.int .i64 i] 0]] => some (decide (m ≤ 100 ∧ zs = cnt.sv m ∧ ff = 53 ∧ ma = xs.length ∧ mb = ys.length ∧ (m : Int) = c ∧ 0 ≤ j ∧ j < r ∧ 0 ≤ i ∧ i < r) && gm.sp r c xs ys, .bool (wr.ex.sp m (wr.le.sp c.toNat xs i.toNat j.toNat)), [])
  | _ => none
theorem go (zs : List Int) (m : Nat) (r c : Int) (xs ys : List Int) (i j : Int) :
  runFn Try.prog (orc [⟨58, idxW2.R⟩]) hd0 Dr.std none 0 (bodyOf Try.f42) 9 [4] [.ro (.ints .i64 zs) m 1, .fn 53 [.rom [.int .i64 r, .int .i64 c, .ro (.ints .i64 xs) xs.length 1, .ro (.ints .i64 ys) ys.length 1] 0, .rom [.int .i64 j] 0, .rom [.int .i64 i] 0]] []
  = (bif decide (m ≤ (100 : Nat) ∧ zs = cnt.sv m ∧ (53 : FuncId) = (53 : FuncId) ∧ xs.length = xs.length ∧ ys.length = ys.length ∧ (↑m : Int) = c ∧ (0 : Int) ≤ j ∧ j < r ∧ (0 : Int) ≤ i ∧ i < r) && gm.sp r c xs ys && (true && (true && (true && (true && (true && true))) && (true && true && (true && true && true)) && true) || true && true) then some (AVal.bool (decide ((0 : Int) ≤ wr.ix.sv m (wr.le.sp c.toNat xs i.toNat j.toNat))), []) else none) := by kernel_rfl
theorem run : ∀ args v new, R args = some (true, v, new) → ∃ fuel, runFn Try.prog (orc [⟨58, idxW2.R⟩]) hd0 Dr.std none fuel (bodyOf Try.f42) 9 [4] args [] = some (v, new) := by
  intro args v new h
  unfold R at h
  split at h
  · rename_i zs m ff r c xs ma ys mb j i
    simp only [Option.some.injEq, Prod.mk.injEq, Bool.and_eq_true, decide_eq_true_eq] at h
    obtain ⟨⟨⟨g0, rfl, rfl, rfl, rfl, g1, g2, g3, g4, g5⟩, hv⟩, rfl, rfl⟩ := h
    refine ⟨0, ?_⟩
    rw [go]
    simp only [g0, g1, g2, g3, g4, g5, hv, and_self, eq_self, true_and, and_true, wr.ix_ge, decide_true, decide_false, Bool.and_self, Bool.or_self, Bool.and_true, Bool.true_and, Bool.and_false, Bool.false_and, Bool.or_true, Bool.true_or, Bool.or_false, Bool.false_or, Bool.not_true, Bool.not_false, cond_true, cond_false]
  · cases h
theorem ok : EntOk Try.prog ⟨42, R⟩ :=
  ent_okA mixed (A := (orc [⟨58, idxW2.R⟩])) (orc_ok (by simp only [List.mem_cons, List.not_mem_nil, or_false, forall_eq_or_imp, forall_eq]; exact idxW2.ok)) Try.func42 (by kernel_rfl) (by kernel_rfl) (n := 9) (ts := [4]) (hd := hd0) (dr := Dr.std) (cut := none) (by kernel_rfl) (by kernel_rfl) (by kernel_rfl) run
end hasW2

namespace worse1
def R : List AVal → Option (Bool × AVal × List Blk)
  | [.int .i64 j, .rom [.int .i64 r, .int .i64 c, .ro (.ints .i64 xs) ma 1, .ro (.ints .i64 ys) mb 1] 0, .rom [.int .i64 i] 0] => some (decide (ma = xs.length ∧ mb = ys.length ∧ 0 ≤ j ∧ j < r ∧ 0 ≤ i ∧ i < r) && gm.sp r c xs ys, .bool (wr.w.sp c.toNat xs i.toNat j.toNat), [])
  | _ => none
theorem go (r c : Int) (xs ys : List Int) (i j : Int) :
  runFn Try.prog (orc [⟨32, counting.R⟩, ⟨42, hasW2.R⟩]) hd0 Dr.std (some 0) 0 (bodyOf Try.f52) 11 [4] [.int .i64 j, .rom [.int .i64 r, .int .i64 c, .ro (.ints .i64 xs) xs.length 1, .ro (.ints .i64 ys) ys.length 1] 0, .rom [.int .i64 i] 0] []
  = (bif decide ((0 : Int) ≤ c ∧ c ≤ (1000 : Int)) && (true && true || true && (true && true)) then bif decide ((cnt.sv c.toNat).length ≤ (100 : Nat) ∧ cnt.sv c.toNat = cnt.sv (cnt.sv c.toNat).length ∧ (53 : Nat) = (53 : FuncId) ∧ xs.length = xs.length ∧ ys.length = ys.length ∧ (↑(cnt.sv c.toNat).length : Int) = c ∧ (0 : Int) ≤ j ∧ j < r ∧ (0 : Int) ≤ i ∧ i < r) && gm.sp r c xs ys && (false && (true && (true && (true && (true && true))) && (false && (true && true && true)) && true) || true && true) then some (AVal.bool !wr.ex.sp (cnt.sv c.toNat).length (wr.le.sp c.toNat xs i.toNat j.toNat), []) else none else none) := by kernel_rfl
theorem run : ∀ args v new, R args = some (true, v, new) → ∃ fuel, runFn Try.prog (orc [⟨32, counting.R⟩, ⟨42, hasW2.R⟩]) hd0 Dr.std (some 0) fuel (bodyOf Try.f52) 11 [4] args [] = some (v, new) := by
  intro args v new h
  unfold R at h
  split at h
  · rename_i j r c xs ma ys mb i
    simp only [Option.some.injEq, Prod.mk.injEq, Bool.and_eq_true, decide_eq_true_eq] at h
    obtain ⟨⟨⟨rfl, rfl, q3, q4, q5, q6⟩, hv⟩, rfl, rfl⟩ := h
    have hv2 := hv
    obtain ⟨r, c, rfl, rfl, hr, hc, hx, hy, vx, vy⟩ := gm.valid hv2
    have g1 : (0 : Int) ≤ (c : Int) := Int.natCast_nonneg _
    have g2 : (c : Int) ≤ 1000 := by omega
    have g3 : c ≤ 100 := by omega
    have ht : (cnt.sv c).take c = cnt.sv c := List.take_of_length_le (by rw [cnt.sv_length]; omega)
    refine ⟨0, ?_⟩
    rw [go]
    simp only [g1, g2, g3, q3, q4, q5, q6, hv, ht, cnt.sv_length, Int.toNat_natCast, and_self, eq_self, wr.w.sp, decide_true, decide_false, Bool.and_self, Bool.or_self, Bool.and_true, Bool.true_and, Bool.and_false, Bool.false_and, Bool.or_true, Bool.true_or, Bool.or_false, Bool.false_or, Bool.not_true, Bool.not_false, cond_true, cond_false]
  · cases h
theorem ok : EntOk Try.prog ⟨52, R⟩ :=
  ent_okA mixed (A := (orc [⟨32, counting.R⟩, ⟨42, hasW2.R⟩])) (orc_ok (by simp only [List.mem_cons, List.not_mem_nil, or_false, forall_eq_or_imp, forall_eq]; exact ⟨counting.ok, hasW2.ok⟩)) Try.func52 (by kernel_rfl) (by kernel_rfl) (n := 11) (ts := [4]) (hd := hd0) (dr := Dr.std) (cut := (some 0)) (by kernel_rfl) (by kernel_rfl) (by kernel_rfl) run
end worse1

namespace idxW1
def R : List AVal → Option (Bool × AVal × List Blk)
  | [.ro (.ints .i64 zs) m 1, .fn ff [.rom [.int .i64 r, .int .i64 c, .ro (.ints .i64 xs) ma 1, .ro (.ints .i64 ys) mb 1] 0, .rom [.int .i64 i] 0]] => some (decide (m ≤ 100 ∧ zs = cnt.sv m ∧ ff = 52 ∧ ma = xs.length ∧ mb = ys.length ∧ (m : Int) = r ∧ 0 ≤ i ∧ i < r) && gm.sp r c xs ys, .int .i64 (wr.ix.sv m (wr.w.sp c.toNat xs i.toNat)), [])
  | _ => none
def hd : Nat → Head := fun _ => ⟨[0, 1, 4, 7, 8], none⟩
noncomputable def L (f n : Nat) (s : State) := loopAt Try.prog (orc [⟨52, worse1.R⟩]) hd Dr.std 0 f (bodyOf Try.f58) 0 [true, false, true] (retK Try.prog [4] 0 none) n s
theorem start (zs : List Int) (m : Nat) (r c : Nat) (xs ys : List Int) (i : Nat) (f : Nat) :
  runFn Try.prog (orc [⟨52, worse1.R⟩]) hd Dr.std none f (bodyOf Try.f58) 19 [4] [.ro (.ints .i64 zs) m 1, .fn 52 [.rom [.int .i64 r, .int .i64 c, .ro (.ints .i64 xs) xs.length 1, .ro (.ints .i64 ys) ys.length 1] 0, .rom [.int .i64 i] 0]] []
  = (L f f (mkS (19 : Nat) [((0 : Nat), AVal.ro (Cont.ints IntKind.i64 zs) m (1 : Nat)), ((1 : Nat), AVal.fn (52 : Nat) [AVal.rom [AVal.int IntKind.i64 (↑r : Int), AVal.int IntKind.i64 (↑c : Int), AVal.ro (Cont.ints IntKind.i64 xs) xs.length (1 : Nat), AVal.ro (Cont.ints IntKind.i64 ys) ys.length (1 : Nat)] (0 : Nat), AVal.rom [AVal.int IntKind.i64 (↑i : Int)] (0 : Nat)]), ((4 : Nat), AVal.int IntKind.i64 (0 : Int)), ((7 : Nat), AVal.int IntKind.i64 (↑m : Int)), ((8 : Nat), AVal.int IntKind.i64 (0 : Int))] [])) := by kernel_rfl
theorem round (zs : List Int) (m i0 : Nat) (r c : Nat) (xs ys : List Int) (i : Nat) (f n : Nat) :
  L f (n + 1) (mkS 19 [(0, .ro (.ints .i64 zs) m 1), (1, .fn 52 [.rom [.int .i64 r, .int .i64 c, .ro (.ints .i64 xs) xs.length 1, .ro (.ints .i64 ys) ys.length 1] 0, .rom [.int .i64 i] 0]), (4, .int .i64 0), (7, .int .i64 m), (8, .int .i64 i0)] [])
  = (bif decide ((↑i0 : Int) < (↑m : Int)) then bif true && (decide ((0 : Int) ≤ (↑i0 : Int)) && decide ((↑i0 : Int) < (↑m : Int))) then bif decide ((↑i0 : Int).toNat < zs.length) then bif decide (xs.length = xs.length ∧ ys.length = ys.length ∧ (0 : Int) ≤ gz zs (↑i0 : Int).toNat ∧ gz zs (↑i0 : Int).toNat < (↑r : Int) ∧ (0 : Int) ≤ (↑i : Int) ∧ (↑i : Int) < (↑r : Int)) && gm.sp (↑r : Int) (↑c : Int) xs ys && (true && (true && (true && (true && (true && true))) && (true && true && true)) || true && true) then bif wr.w.sp (↑c : Int).toNat xs (↑i : Int).toNat (gz zs (↑i0 : Int).toNat).toNat then some (AVal.int IntKind.i64 (↑i0 : Int), []) else L f n (mkS (19 : Nat) [((0 : Nat), AVal.ro (Cont.ints IntKind.i64 zs) m (1 : Nat)), ((1 : Nat), AVal.fn (52 : Nat) [AVal.rom [AVal.int IntKind.i64 (↑r : Int), AVal.int IntKind.i64 (↑c : Int), AVal.ro (Cont.ints IntKind.i64 xs) xs.length (1 : Nat), AVal.ro (Cont.ints IntKind.i64 ys) ys.length (1 : Nat)] (0 : Nat), AVal.rom [AVal.int IntKind.i64 (↑i : Int)] (0 : Nat)]), ((4 : Nat), AVal.int IntKind.i64 (0 : Int)), ((7 : Nat), AVal.int IntKind.i64 (↑m : Int)), ((8 : Nat), AVal.int IntKind.i64 (IntKind.i64.wrap ((↑i0 : Int) + (1 : Int))))] []) else none else none else none else some (AVal.int IntKind.i64 (-1 : Int), [])) := by kernel_rfl
theorem loop (m : Nat) (r c : Nat) (xs ys : List Int) (i : Nat) (f : Nat) (hv : gm.sp r c xs ys = true) (hmc : m = r) (hi : i < r) (hm : m ≤ 100) : ∀ (d i0 n : Nat), i0 + d = m → d < n →
    L f n (mkS 19 [(0, .ro (.ints .i64 (cnt.sv m)) m 1), (1, .fn 52 [.rom [.int .i64 r, .int .i64 c, .ro (.ints .i64 xs) xs.length 1, .ro (.ints .i64 ys) ys.length 1] 0, .rom [.int .i64 i] 0]), (4, .int .i64 0), (7, .int .i64 m), (8, .int .i64 i0)] []) = some (.int .i64 (fidx.sq (wr.w.sp c xs i) ((List.range m).drop i0) i0), []) := by
  intro d
  induction d with
  | zero =>
    intro i0 n hi hn
    obtain ⟨n, rfl⟩ : ∃ k, n = k + 1 := ⟨n - 1, by omega⟩
    obtain rfl : i0 = m := by omega
    rw [round]
    have e : (List.range i0).drop i0 = [] := List.drop_of_length_le (by simp)
    simp only [e, fidx.sq, Int.lt_irrefl, decide_true, decide_false, Bool.and_self, Bool.or_self, Bool.and_true, Bool.true_and, Bool.and_false, Bool.false_and, Bool.or_true, Bool.true_or, Bool.or_false, Bool.false_or, Bool.not_true, Bool.not_false, cond_true, cond_false]
  | succ d ih =>
    intro i0 n hi hn
    obtain ⟨n, rfl⟩ : ∃ k, n = k + 1 := ⟨n - 1, by omega⟩
    have h1 : i0 < m := by omega
    have h4 : (0 : Int) ≤ (i0 : Int) := Int.natCast_nonneg _
    have h5 : (i0 : Int) < (m : Int) := by omega
    have h2 : i0 < (cnt.sv m).length := by rw [cnt.sv_length]; exact h1
    have hr0 := ih (i0 + 1) n (by omega) (by omega)
    have g2 : (0 : Int) ≤ (i : Int) := Int.natCast_nonneg _
    have g4 : (i : Int) < (r : Int) := by omega
    have g5 : (i0 : Int) < (r : Int) := by omega
    have g6 : (0 : Int) ≤ (i0 : Int) := h4
    rw [round, br.drop_range h1]
    simp only [fidx.sq, h4, h5, h2, cnt.sv_get h1, Int.toNat_natCast, wrap_nat i0 (by omega), and_self, eq_self, hv, g2, g4, g5, g6, decide_true, decide_false, Bool.and_self, Bool.or_self, Bool.and_true, Bool.true_and, Bool.and_false, Bool.false_and, Bool.or_true, Bool.true_or, Bool.or_false, Bool.false_or, Bool.not_true, Bool.not_false, cond_true, cond_false]
    rw [hr0]
    cases (wr.w.sp c xs i) i0 <;> rfl
theorem run : ∀ args v new, R args = some (true, v, new) → ∃ fuel, runFn Try.prog (orc [⟨52, worse1.R⟩]) hd Dr.std none fuel (bodyOf Try.f58) 19 [4] args [] = some (v, new) := by
  intro args v new h
  unfold R at h
  split at h
  · rename_i zs m ff r c xs ma ys mb i
    simp only [Option.some.injEq, Prod.mk.injEq, Bool.and_eq_true, decide_eq_true_eq] at h
    obtain ⟨⟨⟨g0, rfl, rfl, rfl, rfl, g1, g4, g5⟩, hv⟩, rfl, rfl⟩ := h
    obtain ⟨r, c, rfl, rfl, hr, hc, hx, hy, vx, vy⟩ := gm.valid hv
    obtain ⟨i, rfl⟩ : ∃ q : Nat, i = q := ⟨i.toNat, by omega⟩
    refine ⟨m + 1, ?_⟩
    rw [start]
    have hl := loop m r c xs ys i (m + 1) hv (by omega) (by omega) (by omega) m 0 (m + 1) (by omega) (by omega)
    rw [List.drop_zero] at hl
    exact hl
  · cases h
theorem ok : EntOk Try.prog ⟨58, R⟩ :=
  ent_okA mixed (A := (orc [⟨52, worse1.R⟩])) (orc_ok (by simp only [List.mem_cons, List.not_mem_nil, or_false, forall_eq_or_imp, forall_eq]; exact worse1.ok)) Try.func58 (by kernel_rfl) (by kernel_rfl) (n := 19) (ts := [4]) (hd := hd) (dr := Dr.std) (cut := none) (by kernel_rfl) (by kernel_rfl) (by kernel_rfl) run
end idxW1

namespace hasW1
def R : List AVal → Option (Bool × AVal × List Blk)
  | [.ro (.ints .i64 zs) m 1, .fn ff [.rom [.int .i64 r, .int .i64 c, .ro (.ints .i64 xs) ma 1, .ro (.ints .i64 ys) mb 1] 0, .rom [.int .i64 i] 0]] => some (decide (m ≤ 100 ∧ zs = cnt.sv m ∧ ff = 52 ∧ ma = xs.length ∧ mb = ys.length ∧ (m : Int) = r ∧ 0 ≤ i ∧ i < r) && gm.sp r c xs ys, .bool (wr.ex.sp m (wr.w.sp c.toNat xs i.toNat)), [])
  | _ => none
theorem go (zs : List Int) (m : Nat) (r c : Int) (xs ys : List Int) (i : Int) :
  runFn Try.prog (orc [⟨58, idxW1.R⟩]) hd0 Dr.std none 0 (bodyOf Try.f42) 9 [4] [.ro (.ints .i64 zs) m 1, .fn 52 [.rom [.int .i64 r, .int .i64 c, .ro (.ints .i64 xs) xs.length 1, .ro (.ints .i64 ys) ys.length 1] 0, .rom [.int .i64 i] 0]] []
  = (bif decide (m ≤ (100 : Nat) ∧ zs = cnt.sv m ∧ (52 : FuncId) = (52 : FuncId) ∧ xs.length = xs.length ∧ ys.length = ys.length ∧ (↑m : Int) = r ∧ (0 : Int) ≤ i ∧ i < r) && gm.sp r c xs ys && (true && (true && (true && (true && (true && true))) && (true && true && true) && true) || true && true) then some (AVal.bool (decide ((0 : Int) ≤ wr.ix.sv m (wr.w.sp c.toNat xs i.toNat))), []) else none) := by kernel_rfl
theorem run : ∀ args v new, R args = some (true, v, new) → ∃ fuel, runFn Try.prog (orc [⟨58, idxW1.R⟩]) hd0 Dr.std none fuel (bodyOf Try.f42) 9 [4] args [] = some (v, new) := by
  intro args v new h
  unfold R at h
  split at h
  · rename_i zs m ff r c xs ma ys mb i
    simp only [Option.some.injEq, Prod.mk.injEq, Bool.and_eq_true, decide_eq_true_eq] at h
    obtain ⟨⟨⟨g0, rfl, rfl, rfl, rfl, g1, g4, g5⟩, hv⟩, rfl, rfl⟩ := h
    refine ⟨0, ?_⟩
    rw [go]
    simp only [g0, g1, g4, g5, hv, and_self, eq_self, true_and, and_true, wr.ix_ge, decide_true, decide_false, Bool.and_self, Bool.or_self, Bool.and_true, Bool.true_and, Bool.and_false, Bool.false_and, Bool.or_true, Bool.true_or, Bool.or_false, Bool.false_or, Bool.not_true, Bool.not_false, cond_true, cond_false]
  · cases h
theorem ok : EntOk Try.prog ⟨42, R⟩ :=
  ent_okA mixed (A := (orc [⟨58, idxW1.R⟩])) (orc_ok (by simp only [List.mem_cons, List.not_mem_nil, or_false, forall_eq_or_imp, forall_eq]; exact idxW1.ok)) Try.func42 (by kernel_rfl) (by kernel_rfl) (n := 9) (ts := [4]) (hd := hd0) (dr := Dr.std) (cut := none) (by kernel_rfl) (by kernel_rfl) (by kernel_rfl) run
end hasW1

namespace gWorse
def R : List AVal → Option (Bool × AVal × List Blk)
  | [.agg [.int .i64 r, .int .i64 c, .ro (.ints .i64 xs) ma 1, .ro (.ints .i64 ys) mb 1]] => some (decide (ma = xs.length ∧ mb = ys.length) && gm.sp r c xs ys, .own 0 0 (wr.sv r.toNat c.toNat xs).length 0 1, [⟨.typ (.ints .i64 (wr.sv r.toNat c.toNat xs)), 0⟩])
  | _ => none
def hd : Nat → Head := fun _ => ⟨[1, 3, 7, 8], some 2⟩
noncomputable def L (f n : Nat) (s : State) := loopAt Try.prog (orc [⟨32, counting.R⟩, ⟨42, hasW1.R⟩]) hd Dr.std 0 f (bodyOf Try.f31) 0 [true, true, false, true] (retK Try.prog [2] 0 none) n s
theorem start (r c : Nat) (xs ys : List Int) (f : Nat) :
  runFn Try.prog (orc [⟨32, counting.R⟩, ⟨42, hasW1.R⟩]) hd Dr.std none f (bodyOf Try.f31) 22 [2] [.agg [.int .i64 r, .int .i64 c, .ro (.ints .i64 xs) xs.length 1, .ro (.ints .i64 ys) ys.length 1]] []
  = (bif true && true then L f f (mkS (22 : Nat) [((1 : Nat), AVal.ptr (0 : Nat) (0 : Nat) (0 : Nat)), ((3 : Nat), AVal.own (1 : Nat) (0 : Nat) (0 : Nat) (0 : Nat) (1 : Nat)), ((7 : Nat), AVal.int IntKind.i64 (↑r : Int)), ((8 : Nat), AVal.int IntKind.i64 (0 : Int))] [{ c := BC.cells [AVal.int IntKind.i64 (↑r : Int), AVal.int IntKind.i64 (↑c : Int), AVal.ro (Cont.ints IntKind.i64 xs) xs.length (1 : Nat), AVal.ro (Cont.ints IntKind.i64 ys) ys.length (1 : Nat)], ver := (0 : Nat) }, { c := BC.typ (Cont.ints IntKind.i64 (List.replicate (0 : Nat) (0 : Int))), ver := (0 : Nat) }]) else none) := by kernel_rfl
theorem round (r c : Nat) (xs ys : List Int) (zs : List Int) (i f n : Nat) :
  L f (n + 1) (mkS 22 [(1, .ptr 0 0 0), (3, .own 1 0 zs.length 0 1), (7, .int .i64 r), (8, .int .i64 i)] [⟨.cells [.int .i64 r, .int .i64 c, .ro (.ints .i64 xs) xs.length 1, .ro (.ints .i64 ys) ys.length 1], 0⟩, ⟨.typ (.ints .i64 zs), 0⟩])
  = (bif decide ((↑i : Int) < (↑r : Int)) then bif true && true then bif decide ((0 : Int) ≤ (↑r : Int) ∧ (↑r : Int) ≤ (1000 : Int)) && (true && true || true && (true && true)) then bif decide ((cnt.sv (↑r : Int).toNat).length ≤ (100 : Nat) ∧ cnt.sv (↑r : Int).toNat = cnt.sv (cnt.sv (↑r : Int).toNat).length ∧ (52 : Nat) = (52 : FuncId) ∧ xs.length = xs.length ∧ ys.length = ys.length ∧ (↑(cnt.sv (↑r : Int).toNat).length : Int) = (↑r : Int) ∧ (0 : Int) ≤ (↑i : Int) ∧ (↑i : Int) < (↑r : Int)) && gm.sp (↑r : Int) (↑c : Int) xs ys && (false && (false && (false && true) && true) || true && true) then bif wr.ex.sp (cnt.sv (↑r : Int).toNat).length (wr.w.sp (↑c : Int).toNat xs (↑i : Int).toNat) then bif true && true then bif (1 : Nat) == (1 : Nat) && (1 : Nat) == (1 : Nat) && (true && (true && true) && (true && true && (decide (zs.length + (List.take (1 : Nat) (List.drop (0 : Nat) ((List.replicate (1 : Nat) (0 : Int)).set (0 : Nat) (↑i : Int)))).length ≤ (4611686018427387904 : Nat)) && decide ((zs.length + (List.take (1 : Nat) (List.drop (0 : Nat) ((List.replicate (1 : Nat) (0 : Int)).set (0 : Nat) (↑i : Int)))).length) * (8 : Nat) ≤ (140737488355328 : Nat))))) then L f n (mkS (22 : Nat) [((1 : Nat), AVal.ptr (0 : Nat) (0 : Nat) (0 : Nat)), ((3 : Nat), AVal.own (1 : Nat) (0 : Nat) (zs.length + (List.take (1 : Nat) (List.drop (0 : Nat) ((List.replicate (1 : Nat) (0 : Int)).set (0 : Nat) (↑i : Int)))).length) (0 : Nat) (1 : Nat)), ((7 : Nat), AVal.int IntKind.i64 (↑r : Int)), ((8 : Nat), AVal.int IntKind.i64 (IntKind.i64.wrap ((↑i : Int) + (1 : Int))))] [{ c := BC.cells [AVal.int IntKind.i64 (↑r : Int), AVal.int IntKind.i64 (↑c : Int), AVal.ro (Cont.ints IntKind.i64 xs) xs.length (1 : Nat), AVal.ro (Cont.ints IntKind.i64 ys) ys.length (1 : Nat)], ver := (0 : Nat) }, { c := BC.typ (Cont.ints IntKind.i64 (List.take zs.length zs ++ List.take (1 : Nat) (List.drop (0 : Nat) ((List.replicate (1 : Nat) (0 : Int)).set (0 : Nat) (↑i : Int))))), ver := (0 : Nat) }]) else none else none else L f n (mkS (22 : Nat) [((1 : Nat), AVal.ptr (0 : Nat) (0 : Nat) (0 : Nat)), ((3 : Nat), AVal.own (1 : Nat) (0 : Nat) zs.length (0 : Nat) (1 : Nat)), ((7 : Nat), AVal.int IntKind.i64 (↑r : Int)), ((8 : Nat), AVal.int IntKind.i64 (IntKind.i64.wrap ((↑i : Int) + (1 : Int))))] [{ c := BC.cells [AVal.int IntKind.i64 (↑r : Int), AVal.int IntKind.i64 (↑c : Int), AVal.ro (Cont.ints IntKind.i64 xs) xs.length (1 : Nat), AVal.ro (Cont.ints IntKind.i64 ys) ys.length (1 : Nat)], ver := (0 : Nat) }, { c := BC.typ (Cont.ints IntKind.i64 zs), ver := (0 : Nat) }]) else none else none else none else some (AVal.own (1 : Nat) (0 : Nat) zs.length (0 : Nat) (1 : Nat), [{ c := BC.cells [AVal.int IntKind.i64 (↑r : Int), AVal.int IntKind.i64 (↑c : Int), AVal.ro (Cont.ints IntKind.i64 xs) xs.length (1 : Nat), AVal.ro (Cont.ints IntKind.i64 ys) ys.length (1 : Nat)], ver := (0 : Nat) }, { c := BC.typ (Cont.ints IntKind.i64 zs), ver := (0 : Nat) }])) := by kernel_rfl
theorem loop (r c : Nat) (xs ys : List Int) (f : Nat) (hv : gm.sp r c xs ys = true) (hr : 1 ≤ r ∧ r ≤ 6) (hc : 1 ≤ c ∧ c ≤ 6) (hx : xs.length = r * c) (hy : ys.length = r * c) : ∀ (d i n : Nat), i + d = r → d < n →
    L f n (mkS 22 [(1, .ptr 0 0 0), (3, .own 1 0 (br.up (wr.F r c xs i)).length 0 1), (7, .int .i64 r), (8, .int .i64 i)] [⟨.cells [.int .i64 r, .int .i64 c, .ro (.ints .i64 xs) xs.length 1, .ro (.ints .i64 ys) ys.length 1], 0⟩, ⟨.typ (.ints .i64 (br.up (wr.F r c xs i))), 0⟩]) = some (.own 1 0 (br.up (wr.F r c xs r)).length 0 1, [⟨.cells [.int .i64 r, .int .i64 c, .ro (.ints .i64 xs) xs.length 1, .ro (.ints .i64 ys) ys.length 1], 0⟩, ⟨.typ (.ints .i64 (br.up (wr.F r c xs r))), 0⟩]) := by
  intro d
  induction d with
  | zero =>
    intro i n hi hn
    obtain ⟨n, rfl⟩ : ∃ k, n = k + 1 := ⟨n - 1, by omega⟩
    obtain rfl : i = r := by omega
    rw [round]
    simp only [Int.lt_irrefl, decide_true, decide_false, Bool.and_self, Bool.or_self, Bool.and_true, Bool.true_and, Bool.and_false, Bool.false_and, Bool.or_true, Bool.true_or, Bool.or_false, Bool.false_or, Bool.not_true, Bool.not_false, cond_true, cond_false]
  | succ d ih =>
    intro i n hi' hn
    obtain ⟨n, rfl⟩ : ∃ k, n = k + 1 := ⟨n - 1, by omega⟩
    have hi : i < r := by omega
    have i2 : (i : Int) < (r : Int) := by omega
    have i0 : (0 : Int) ≤ (i : Int) := Int.natCast_nonneg _
    have wi : IntKind.i64.wrap ((i : Int) + 1) = ((i + 1 : Nat) : Int) := wrap_nat i (by omega)
    have g1 : (0 : Int) ≤ (r : Int) := Int.natCast_nonneg _
    have g2 : (r : Int) ≤ 1000 := by omega
    have g3 : r ≤ 100 := by omega
    have ht : (cnt.sv r).take r = cnt.sv r := List.take_of_length_le (by rw [cnt.sv_length]; omega)
    have hfl := wr.F_length r c xs i
    have s1 : (br.up (wr.F r c xs i)).length + 1 ≤ 4611686018427387904 := by rw [br.up_length]; omega
    have s2 : ((br.up (wr.F r c xs i)).length + 1) * 8 ≤ 140737488355328 := by rw [br.up_length]; omega
    have hih := ih (i + 1) n (by omega) (by omega)
    rw [round]
    have hB : wr.ex.sp r (wr.w.sp c xs i) = wr.b.sp r c xs i := rfl
    simp only [hB, i0, i2, wi, g1, g2, g3, ht, hv, s1, s2, cnt.sv_length, one_set, List.length_singleton, List.take_length, Nat.reduceBEq, Int.toNat_natCast, and_self, eq_self, decide_true, decide_false, Bool.and_self, Bool.or_self, Bool.and_true, Bool.true_and, Bool.and_false, Bool.false_and, Bool.or_true, Bool.true_or, Bool.or_false, Bool.false_or, Bool.not_true, Bool.not_false, cond_true, cond_false]
    rw [wr.F_succ] at hih
    cases hp : wr.b.sp r c xs i
    · rw [hp, cond_false, List.append_nil] at hih
      exact hih
    · rw [hp, cond_true, wr.up_snoc, List.length_append] at hih
      exact hih
theorem run : ∀ args v new, R args = some (true, v, new) → ∃ fuel, regc [1] (runFn Try.prog (orc [⟨32, counting.R⟩, ⟨42, hasW1.R⟩]) hd Dr.std none fuel (bodyOf Try.f31) 22 [2] args []) = some (v, new) := by
  intro args v new h
  unfold R at h
  split at h
  · rename_i r c xs ma ys mb
    simp only [Option.some.injEq, Prod.mk.injEq, Bool.and_eq_true, decide_eq_true_eq, Bool.not_eq_true'] at h
    obtain ⟨⟨⟨rfl, rfl⟩, hv⟩, rfl, rfl⟩ := h
    have hv2 := hv
    obtain ⟨r, c, rfl, rfl, hr, hc, hx, hy, vx, vy⟩ := gm.valid hv2
    obtain ⟨F, hF⟩ : ∃ F : Nat, F = 100 := ⟨100, rfl⟩
    refine ⟨F, ?_⟩
    rw [start]
    have hl := loop r c xs ys F hv hr hc hx hy r 0 F (by omega) (by omega)
    exact (congrArg (regc [1]) hl).trans rfl
  · cases h
theorem ok : EntOk Try.prog ⟨31, R⟩ :=
  ent_okAG (ks := [1]) mixed (A := (orc [⟨32, counting.R⟩, ⟨42, hasW1.R⟩])) (orc_ok (by simp only [List.mem_cons, List.not_mem_nil, or_false, forall_eq_or_imp, forall_eq]; exact ⟨counting.ok, hasW1.ok⟩)) Try.func31 (by kernel_rfl) (by kernel_rfl) (n := 22) (ts := [2]) (hd := hd) (dr := Dr.std) (cut := none) (by kernel_rfl) (by kernel_rfl) (by kernel_rfl) run
end gWorse



end Go.Proofs.Ytfbalfhekldkbaa.Ab
