/-
  Functions: the least total.
-/
import Derived.Test.YtgeglpommdckgaaFnOD
import Derived.Test.YtgeglpommdckgaaAbReW
namespace Go.Proofs.Ytgeglpommdckgaa.Ab
open Go
set_option linter.unusedVariables false
set_option linter.unusedSimpArgs false
set_option maxRecDepth 100000

def od.T.sv (u r : Int) (ws cs xs : List Int) : Int := sumOf.sp (pays.sv u r ws cs xs)
def od.few.sp (u w : Nat) : Bool := decide (w ^ u ≤ 4096)
def od.B.sv (u r : Int) (ws cs : List Int) : List Int := od.best.sv (od.T.sv u r ws cs) ws.length u.toNat
def od.M.sv (u r : Int) (ws cs : List Int) : Int := od.least.sv (od.T.sv u r ws cs) ws.length u.toNat
def od.ok.sp (u r : Int) (ws cs : List Int) : Bool := crowd.sp u r ws cs && od.few.sp u.toNat ws.length
def od.in.sp (W : Nat) (xs : List Int) : Bool := xs.all fun x => decide (0 ≤ x) && decide (x < (W : Int))
theorem od.in_ok {W : Nat} {xs : List Int} (h : od.in.sp W xs = true) : od.Ok W xs := fun x hx => by
  simp only [od.in.sp, List.all_eq_true, Bool.and_eq_true, decide_eq_true_eq] at h
  exact h x hx
theorem od.ok_in {W : Nat} {xs : List Int} (h : od.Ok W xs) : od.in.sp W xs = true := by
  simp only [od.in.sp, List.all_eq_true, Bool.and_eq_true, decide_eq_true_eq]
  exact h
theorem od.load {u r : Int} {ws cs xs : List Int} (hv : crowd.sp u r ws cs = true) (hl : (xs.length : Int) = u) (ho : od.Ok ws.length xs) : load.sp u r ws cs xs = true := by
  simp only [load.sp, Bool.and_eq_true, decide_eq_true_eq, List.all_eq_true, load.lin.sp]
  refine ⟨⟨hv, hl⟩, fun x hx => ?_⟩
  have := ho x hx
  first
    | exact ⟨this.1, by omega⟩
    | omega
theorem od.crowd {u r : Int} {ws cs : List Int} (hv : crowd.sp u r ws cs = true) : (1 ≤ u ∧ u ≤ 8) ∧ (1 ≤ r ∧ r ≤ 8) ∧ (1 ≤ ws.length ∧ ws.length ≤ 8) ∧ (cs.length : Int) = u * r := by
  have h1 := hv
  simp only [crowd.sp, Bool.and_eq_true, decide_eq_true_eq] at h1
  exact ⟨h1.1.1.1.1.1, h1.1.1.1.1.2, h1.1.1.1.2, h1.1.1.2⟩
theorem od.cs_le {u r : Int} {ws cs : List Int} (hv : crowd.sp u r ws cs = true) : cs.length ≤ 64 := by
  obtain ⟨h1, h2, _, h4⟩ := od.crowd hv
  have := Int.mul_le_mul h1.2 h2.2 (by omega) (by omega : (0 : Int) ≤ 8)
  omega

namespace l06Few
def R : List AVal → Option (Bool × AVal × List Blk)
  | [.rom [.int .i64 u, .int .i64 r, .ro (.ints .i64 ws) mw 1, .ro (.ints .i64 cs) mc 1] 0] => some (decide (mw = ws.length ∧ mc = cs.length ∧ mw ≤ 4611686018427387904 ∧ mc ≤ 4611686018427387904 ∧ 1 ≤ u ∧ u ≤ 8 ∧ 1 ≤ mw ∧ mw ≤ 8), .bool (od.few.sp u.toNat ws.length), [])
  | _ => none
def hd : Nat → Head := fun _ => ⟨[0, 2, 3, 4], none⟩
noncomputable def L (f n : Nat) (s : State) := loopAt Try.prog (orc []) hd Dr.std 0 f (bodyOf Try.f48) 0 [true, true, false, true] (retK Try.prog [2] 0 none) n s
theorem start (u r : Int) (ws cs : List Int) (f : Nat) :
  runFn Try.prog (orc []) hd Dr.std none f (bodyOf Try.f48) 22 [2] [.rom [.int .i64 u, .int .i64 r, .ro (.ints .i64 ws) ws.length 1, .ro (.ints .i64 cs) cs.length 1] 0] []
  = (L f f (mkS (22 : Nat) [((0 : Nat), AVal.rom [AVal.int IntKind.i64 u, AVal.int IntKind.i64 r, AVal.ro (Cont.ints IntKind.i64 ws) ws.length (1 : Nat), AVal.ro (Cont.ints IntKind.i64 cs) cs.length (1 : Nat)] (0 : Nat)), ((2 : Nat), AVal.bool false), ((3 : Nat), AVal.int IntKind.i64 (1 : Int)), ((4 : Nat), AVal.int IntKind.i64 (0 : Int))] [])) := by kernel_rfl
theorem round (u r : Int) (ws cs : List Int) (v : Int) (i f n : Nat) :
  L f (n + 1) (mkS 22 [(0, .rom [.int .i64 u, .int .i64 r, .ro (.ints .i64 ws) ws.length 1, .ro (.ints .i64 cs) cs.length 1] 0), (2, .bool false), (3, .int .i64 v), (4, .int .i64 i)] [])
  = (bif decide ((↑i : Int) < u) then bif decide ((4096 : Int) < IntKind.i64.wrap (v * (↑ws.length : Int))) then some (AVal.bool false, []) else L f n (mkS (22 : Nat) [((0 : Nat), AVal.rom [AVal.int IntKind.i64 u, AVal.int IntKind.i64 r, AVal.ro (Cont.ints IntKind.i64 ws) ws.length (1 : Nat), AVal.ro (Cont.ints IntKind.i64 cs) cs.length (1 : Nat)] (0 : Nat)), ((2 : Nat), AVal.bool false), ((3 : Nat), AVal.int IntKind.i64 (IntKind.i64.wrap (v * (↑ws.length : Int)))), ((4 : Nat), AVal.int IntKind.i64 (IntKind.i64.wrap ((↑i : Int) + (1 : Int))))] []) else some (AVal.bool true, [])) := by kernel_rfl
theorem loop (u : Nat) (r : Int) (ws cs : List Int) (f : Nat) (hu : u ≤ 8) (hw : 1 ≤ ws.length ∧ ws.length ≤ 8) : ∀ (d i n : Nat), i + d = u → d < n → ws.length ^ i ≤ 4096 →
    L f n (mkS 22 [(0, .rom [.int .i64 (u : Int), .int .i64 r, .ro (.ints .i64 ws) ws.length 1, .ro (.ints .i64 cs) cs.length 1] 0), (2, .bool false), (3, .int .i64 ((ws.length ^ i : Nat) : Int)), (4, .int .i64 i)] []) = some (.bool (od.few.sp u ws.length), []) := by
  intro d
  induction d with
  | zero =>
    intro i n hi hn hp
    obtain ⟨n, rfl⟩ : ∃ k, n = k + 1 := ⟨n - 1, by omega⟩
    obtain rfl : i = u := by omega
    rw [round]
    have : od.few.sp i ws.length = true := by simp only [od.few.sp, decide_eq_true_eq]; exact hp
    simp -implicitDefEqProofs only [this, Int.lt_irrefl, decide_true, decide_false, Bool.and_self, Bool.or_self, Bool.and_true, Bool.true_and, Bool.and_false, Bool.false_and, Bool.or_true, Bool.true_or, Bool.or_false, Bool.false_or, Bool.not_true, Bool.not_false, cond_true, cond_false]
  | succ d ih =>
    intro i n hi hn hp
    obtain ⟨n, rfl⟩ : ∃ k, n = k + 1 := ⟨n - 1, by omega⟩
    have h1 : (i : Int) < (u : Int) := by omega
    have e : ((ws.length ^ i : Nat) : Int) * (ws.length : Int) = ((ws.length ^ (i + 1) : Nat) : Int) := by rw [Nat.pow_succ, Int.natCast_mul]
    have hle : ws.length ^ (i + 1) ≤ 4096 * 8 := by rw [Nat.pow_succ]; exact Nat.mul_le_mul hp hw.2
    have w1 : IntKind.i64.wrap ((ws.length ^ (i + 1) : Nat) : Int) = ((ws.length ^ (i + 1) : Nat) : Int) := IntWalk.i64_in _ (by omega)
    rw [round, e, w1, wrap_nat i (by omega)]
    by_cases hc : ws.length ^ (i + 1) ≤ 4096
    · have c : ¬ ((4096 : Int) < ((ws.length ^ (i + 1) : Nat) : Int)) := by omega
      simp -implicitDefEqProofs only [h1, c, decide_true, decide_false, Bool.and_self, Bool.or_self, Bool.and_true, Bool.true_and, Bool.and_false, Bool.false_and, Bool.or_true, Bool.true_or, Bool.or_false, Bool.false_or, Bool.not_true, Bool.not_false, cond_true, cond_false]
      exact ih (i + 1) n (by omega) (by omega) hc
    · have c : (4096 : Int) < ((ws.length ^ (i + 1) : Nat) : Int) := by omega
      have hpow : ws.length ^ (i + 1) ≤ ws.length ^ u := Nat.pow_le_pow_right (by omega) (by omega)
      have : od.few.sp u ws.length = false := by simp only [od.few.sp, decide_eq_false_iff_not]; omega
      simp -implicitDefEqProofs only [h1, c, this, decide_true, decide_false, Bool.and_self, Bool.or_self, Bool.and_true, Bool.true_and, Bool.and_false, Bool.false_and, Bool.or_true, Bool.true_or, Bool.or_false, Bool.false_or, Bool.not_true, Bool.not_false, cond_true, cond_false]
theorem run : ∀ args v new, R args = some (true, v, new) → ∃ fuel, runFn Try.prog (orc []) hd Dr.std none fuel (bodyOf Try.f48) 22 [2] args [] = some (v, new) := by
  intro args v new h
  unfold R at h
  split at h
  · rename_i u r ws mw cs mc
    simp only [Option.some.injEq, Prod.mk.injEq, Bool.and_eq_true, decide_eq_true_eq, Bool.not_eq_true'] at h
    obtain ⟨⟨rfl, rfl, h3, h4, h5, h6, h7, h8⟩, rfl, rfl⟩ := h
    obtain ⟨u, rfl⟩ : ∃ q : Nat, u = q := ⟨u.toNat, by omega⟩
    refine ⟨100, ?_⟩
    rw [start, Int.toNat_natCast]
    exact loop u r ws cs 100 (by omega) ⟨h7, h8⟩ u 0 100 (by omega) (by omega) (by rw [Nat.pow_zero]; omega)
  · cases h
theorem ok : EntOk Try.prog ⟨48, R⟩ :=
  ent_okA mixed (A := (orc [])) (orc_ok (by simp)) Try.func48 (by kernel_rfl) (by kernel_rfl) (n := 22) (ts := [2]) (hd := hd) (dr := Dr.std) (cut := none) (by kernel_rfl) (by kernel_rfl) (by kernel_rfl) run
end l06Few

namespace l04Next
def R : List AVal → Heap → Option (Bool × AVal × Heap)
  | [.own 0 0 m 0 1, .int .i64 q], [⟨.typ (.ints .i64 xs), 0⟩] => some (decide (m = xs.length ∧ m ≤ 1000 ∧ 1 ≤ q ∧ q ≤ 1000), .bool (od.on.sp q.toNat xs.length xs), [⟨.typ (.ints .i64 (od.at.sv q.toNat xs.length xs)), 0⟩])
  | _, _ => none
def hd : Nat → Head := fun _ => ⟨[0, 1, 4, 5], some 0⟩
noncomputable def L (f n : Nat) (s : State) := loopAt Try.prog (orc []) hd Dr.std 1 f (bodyOf Try.f50) 0 [true, false, true] (retK Try.prog [4] 1 (some 0)) n s
theorem start (xs : List Int) (m : Nat) (q : Int) (f : Nat) :
  runFn Try.prog (orc []) hd Dr.std (some 0) f (bodyOf Try.f50) 28 [4] [.own 0 0 m 0 1, .int .i64 q] [⟨.typ (.ints .i64 xs), 0⟩]
  = (bif true && true then L f f (mkS (28 : Nat) [((0 : Nat), AVal.own (0 : Nat) (0 : Nat) m (0 : Nat) (1 : Nat)), ((1 : Nat), AVal.int IntKind.i64 q), ((4 : Nat), AVal.bool false), ((5 : Nat), AVal.int IntKind.i64 (IntKind.i64.wrap ((↑m : Int) - (1 : Int))))] [{ c := BC.typ (Cont.ints IntKind.i64 xs), ver := (0 : Nat) }]) else none) := by kernel_rfl
theorem round (xs : List Int) (m : Nat) (q k : Int) (f n : Nat) :
  L f (n + 1) (mkS 28 [(0, .own 0 0 m 0 1), (1, .int .i64 q), (4, .bool false), (5, .int .i64 k)] [⟨.typ (.ints .i64 xs), 0⟩])
  = (bif decide ((0 : Int) ≤ k) then bif true && (decide ((0 : Int) ≤ k) && decide (k < (↑m : Int))) then bif true && decide (k.toNat < xs.length) then bif true && (decide ((0 : Int) ≤ k) && decide (k < (↑m : Int))) then bif true && (true && (decide (k.toNat < xs.length) && true)) then bif true && (decide ((0 : Int) ≤ k) && decide (k < (↑m : Int))) then bif true && decide (k.toNat < (xs.set k.toNat (IntKind.i64.wrap (gz xs k.toNat + (1 : Int)))).length) then bif decide (gz (xs.set k.toNat (IntKind.i64.wrap (gz xs k.toNat + (1 : Int)))) k.toNat < q) then some (AVal.bool true, [{ c := BC.typ (Cont.ints IntKind.i64 (xs.set k.toNat (IntKind.i64.wrap (gz xs k.toNat + (1 : Int))))), ver := (0 : Nat) }]) else bif true && (decide ((0 : Int) ≤ k) && decide (k < (↑m : Int))) then bif true && (true && (decide (k.toNat < (xs.set k.toNat (IntKind.i64.wrap (gz xs k.toNat + (1 : Int)))).length) && true)) then L f n (mkS (28 : Nat) [((0 : Nat), AVal.own (0 : Nat) (0 : Nat) m (0 : Nat) (1 : Nat)), ((1 : Nat), AVal.int IntKind.i64 q), ((4 : Nat), AVal.bool false), ((5 : Nat), AVal.int IntKind.i64 (IntKind.i64.wrap (k - (1 : Int))))] [{ c := BC.typ (Cont.ints IntKind.i64 ((xs.set k.toNat (IntKind.i64.wrap (gz xs k.toNat + (1 : Int)))).set k.toNat (0 : Int))), ver := (0 : Nat) }]) else none else none else none else none else none else none else none else none else some (AVal.bool false, [{ c := BC.typ (Cont.ints IntKind.i64 xs), ver := (0 : Nat) }])) := by kernel_rfl
theorem gset (xs : List Int) (k : Nat) (v : Int) (h : k < xs.length) : gz (xs.set k v) k = v := by rw [gz_eq (by simpa using h)]; simp
theorem loop (W m f : Nat) (hm : m ≤ 1000) : ∀ (j n : Nat) (xs : List Int), xs.length = m → j ≤ m → j < n →
    L f n (mkS 28 [(0, .own 0 0 m 0 1), (1, .int .i64 (W : Int)), (4, .bool false), (5, .int .i64 ((j : Int) - 1))] [⟨.typ (.ints .i64 xs), 0⟩]) = some (.bool (od.on.sp W j xs), [⟨.typ (.ints .i64 (od.at.sv W j xs)), 0⟩]) := by
  intro j
  induction j with
  | zero =>
    intro n xs hl hj hn
    obtain ⟨n, rfl⟩ : ∃ k, n = k + 1 := ⟨n - 1, by omega⟩
    have c : ¬ ((0 : Int) ≤ ((0 : Nat) : Int) - 1) := by omega
    rw [round]
    simp -implicitDefEqProofs only [c, od.on.sp, od.at.sv, decide_true, decide_false, Bool.and_self, Bool.or_self, Bool.and_true, Bool.true_and, Bool.and_false, Bool.false_and, Bool.or_true, Bool.true_or, Bool.or_false, Bool.false_or, Bool.not_true, Bool.not_false, cond_true, cond_false]
  | succ j ih =>
    intro n xs hl hj hn
    obtain ⟨n, rfl⟩ : ∃ k, n = k + 1 := ⟨n - 1, by omega⟩
    have e : (((j + 1 : Nat) : Int) - 1) = (j : Int) := by omega
    have j0 : (0 : Int) ≤ (j : Int) := Int.natCast_nonneg _
    have j1 : (j : Int) < (m : Int) := by omega
    have j2 : j < xs.length := by omega
    have wj : IntKind.i64.wrap ((j : Int) - 1) = (j : Int) - 1 := IntWalk.i64_in _ (by omega)
    have hg := gset xs j (IntKind.i64.wrap (gz xs j + 1)) j2
    have hih := ih n ((xs.set j (IntKind.i64.wrap (gz xs j + 1))).set j 0) (by simp; exact hl) (by omega) (by omega)
    rw [e, round]
    simp -implicitDefEqProofs only [od.on.sp, od.at.sv, j0, j1, j2, wj, hg, Int.toNat_natCast, List.length_set, decide_true, decide_false, Bool.and_self, Bool.or_self, Bool.and_true, Bool.true_and, Bool.and_false, Bool.false_and, Bool.or_true, Bool.true_or, Bool.or_false, Bool.false_or, Bool.not_true, Bool.not_false, cond_true, cond_false]
    cases decide (IntKind.i64.wrap (gz xs j + 1) < (W : Int))
    · simp -implicitDefEqProofs only [decide_true, decide_false, Bool.and_self, Bool.or_self, Bool.and_true, Bool.true_and, Bool.and_false, Bool.false_and, Bool.or_true, Bool.true_or, Bool.or_false, Bool.false_or, Bool.not_true, Bool.not_false, cond_true, cond_false]; exact hih
    · simp -implicitDefEqProofs only [decide_true, decide_false, Bool.and_self, Bool.or_self, Bool.and_true, Bool.true_and, Bool.and_false, Bool.false_and, Bool.or_true, Bool.true_or, Bool.or_false, Bool.false_or, Bool.not_true, Bool.not_false, cond_true, cond_false]
theorem run : ∀ args H v new, R args H = some (true, v, new) → ∃ fuel, runFn Try.prog (orc []) hd Dr.std (some 0) fuel (bodyOf Try.f50) 28 [4] args H = some (v, new) := by
  intro args H v new h
  unfold R at h
  split at h
  · rename_i m q xs
    simp only [Option.some.injEq, Prod.mk.injEq, Bool.and_eq_true, decide_eq_true_eq, Bool.not_eq_true'] at h
    obtain ⟨⟨rfl, h2, h3, h4⟩, rfl, rfl⟩ := h
    obtain ⟨W, rfl⟩ : ∃ w : Nat, q = w := ⟨q.toNat, by omega⟩
    obtain ⟨F, hF⟩ : ∃ F : Nat, F = 2000 := ⟨2000, rfl⟩
    refine ⟨F, ?_⟩
    have wm : IntKind.i64.wrap ((xs.length : Int) - 1) = (xs.length : Int) - 1 := IntWalk.i64_in _ (by omega)
    rw [start, wm, Int.toNat_natCast]
    simp -implicitDefEqProofs only [decide_true, decide_false, Bool.and_self, Bool.or_self, Bool.and_true, Bool.true_and, Bool.and_false, Bool.false_and, Bool.or_true, Bool.true_or, Bool.or_false, Bool.false_or, Bool.not_true, Bool.not_false, cond_true, cond_false]
    exact loop W xs.length F h2 xs.length F xs rfl (by omega) (by omega)
  · cases h
theorem ok : EntWOk Try.prog ⟨50, R⟩ :=
  entw_ok mixed (A := (orc [])) (orc_ok (by simp)) Try.func50 (by kernel_rfl) (by kernel_rfl) (n := 28) (ts := [4]) (hd := hd) (dr := Dr.std) (cut := (some 0)) (by kernel_rfl) (by kernel_rfl) (by kernel_rfl) run
end l04Next

namespace sLeastTotal_t
def R : List AVal → Option (Bool × AVal × List Blk)
  | [.agg [.int .i64 u, .int .i64 r, .ro (.ints .i64 ws) mw 1, .ro (.ints .i64 cs) mc 1]] => some (decide (mw = ws.length ∧ mc = cs.length ∧ mw ≤ 4611686018427387904 ∧ mc ≤ 4611686018427387904) && od.ok.sp u r ws cs, .tup [.own 0 0 u.toNat 0 1, .int .i64 (od.M.sv u r ws cs), .bool true], [⟨.typ (.ints .i64 (od.B.sv u r ws cs)), 0⟩])
  | _ => none
def hd : Nat → Head := fun _ => ⟨[998, 1, 5, 6, 7], none⟩
noncomputable def L (f n : Nat) (s : State) := loopAt Try.prog (orcW [⟨50, l04Next.R⟩] [⟨38, l06Is.R⟩, ⟨48, l06Few.R⟩, ⟨49, l06Total.R⟩]) hd Dr.std 0 f (bodyOf Try.f21) 0 [true, true, true, true, true, false] (retK Try.prog [2, 3, 4] 0 none) n s
theorem start (u r : Int) (ws cs : List Int) (f : Nat) :
  runFn Try.prog (orcW [⟨50, l04Next.R⟩] [⟨38, l06Is.R⟩, ⟨48, l06Few.R⟩, ⟨49, l06Total.R⟩]) hd Dr.std none f (bodyOf Try.f21) 39 [2, 3, 4] [.agg [.int .i64 u, .int .i64 r, .ro (.ints .i64 ws) ws.length 1, .ro (.ints .i64 cs) cs.length 1]] []
  = (bif decide (ws.length ≤ ws.length ∧ ws.length ≤ (4611686018427387904 : Nat) ∧ cs.length ≤ cs.length ∧ cs.length ≤ (4611686018427387904 : Nat)) && (false || true && true) then bif !crowd.sp u r (List.take ws.length ws) (List.take cs.length cs) then some (AVal.tup [AVal.nils, AVal.int IntKind.i64 (0 : Int), AVal.bool false], [{ c := BC.cells [AVal.int IntKind.i64 u, AVal.int IntKind.i64 r, AVal.ro (Cont.ints IntKind.i64 ws) ws.length (1 : Nat), AVal.ro (Cont.ints IntKind.i64 cs) cs.length (1 : Nat)], ver := (0 : Nat) }]) else bif decide (ws.length = ws.length ∧ cs.length = cs.length ∧ ws.length ≤ (4611686018427387904 : Nat) ∧ cs.length ≤ (4611686018427387904 : Nat) ∧ (1 : Int) ≤ u ∧ u ≤ (8 : Int) ∧ (1 : Nat) ≤ ws.length ∧ ws.length ≤ (8 : Nat)) && (false || true && true) then bif !od.few.sp u.toNat ws.length then some (AVal.tup [AVal.nils, AVal.int IntKind.i64 (0 : Int), AVal.bool false], [{ c := BC.cells [AVal.int IntKind.i64 u, AVal.int IntKind.i64 r, AVal.ro (Cont.ints IntKind.i64 ws) ws.length (1 : Nat), AVal.ro (Cont.ints IntKind.i64 cs) cs.length (1 : Nat)], ver := (0 : Nat) }]) else bif true && true then bif (1 : Nat) == (1 : Nat) && (u == u && (decide ((0 : Int) ≤ u) && (decide (u * (8 : Int) ≤ (140737488355328 : Int)) && decide (u ≤ (4611686018427387904 : Int))))) then bif (1 : Nat) == (1 : Nat) && (1 : Nat) == (1 : Nat) && (true && (true && true) && (true && true && (decide ((0 : Nat) + (List.take u.toNat (List.drop (0 : Nat) (List.replicate u.toNat (0 : Int)))).length ≤ (4611686018427387904 : Nat)) && decide (((0 : Nat) + (List.take u.toNat (List.drop (0 : Nat) (List.replicate u.toNat (0 : Int)))).length) * (8 : Nat) ≤ (140737488355328 : Nat))))) then bif decide (ws.length ≤ ws.length ∧ ws.length ≤ (4611686018427387904 : Nat) ∧ cs.length ≤ cs.length ∧ cs.length ≤ (4611686018427387904 : Nat) ∧ u.toNat ≤ (List.replicate u.toNat (0 : Int)).length ∧ u.toNat ≤ (4611686018427387904 : Nat)) && load.sp u r (List.take ws.length ws) (List.take cs.length cs) (List.take u.toNat (List.replicate u.toNat (0 : Int))) && (false && (false && true) || true && true) then L f f (mkS (39 : Nat) [((1 : Nat), AVal.ptr (0 : Nat) (0 : Nat) (0 : Nat)), ((5 : Nat), AVal.own (1 : Nat) (0 : Nat) u.toNat (0 : Nat) (1 : Nat)), ((6 : Nat), AVal.own (2 : Nat) (0 : Nat) ((0 : Nat) + (List.take u.toNat (List.drop (0 : Nat) (List.replicate u.toNat (0 : Int)))).length) (0 : Nat) (1 : Nat)), ((7 : Nat), AVal.int IntKind.i64 (sumOf.sp (pays.sv u r (List.take ws.length ws) (List.take cs.length cs) (List.take u.toNat (List.replicate u.toNat (0 : Int))))))] [{ c := BC.cells [AVal.int IntKind.i64 u, AVal.int IntKind.i64 r, AVal.ro (Cont.ints IntKind.i64 ws) ws.length (1 : Nat), AVal.ro (Cont.ints IntKind.i64 cs) cs.length (1 : Nat)], ver := (0 : Nat) }, { c := BC.typ (Cont.ints IntKind.i64 (List.replicate u.toNat (0 : Int))), ver := (0 : Nat) }, { c := BC.typ (Cont.ints IntKind.i64 (List.take (0 : Nat) (List.replicate (0 : Nat) (0 : Int)) ++ List.take u.toNat (List.drop (0 : Nat) (List.replicate u.toNat (0 : Int))))), ver := (0 : Nat) }]) else none else none else none else none else none else none) := by kernel_rfl
theorem round (u r : Int) (ws cs : List Int) (xs bs : List Int) (l : Int) (f n : Nat) :
  L f (n + 1) (mkS 39 [(1, .ptr 0 0 0), (5, .own 1 0 xs.length 0 1), (6, .own 2 0 bs.length 0 1), (7, .int .i64 l)] [⟨.cells [.int .i64 u, .int .i64 r, .ro (.ints .i64 ws) ws.length 1, .ro (.ints .i64 cs) cs.length 1], 0⟩, ⟨.typ (.ints .i64 xs), 0⟩, ⟨.typ (.ints .i64 bs), 0⟩])
  = (bif true && true then bif decide (xs.length = xs.length ∧ xs.length ≤ (1000 : Nat) ∧ (1 : Int) ≤ (↑ws.length : Int) ∧ (↑ws.length : Int) ≤ (1000 : Int)) && (true && (true && true)) then bif od.on.sp (↑ws.length : Int).toNat xs.length xs then bif decide (ws.length ≤ ws.length ∧ ws.length ≤ (4611686018427387904 : Nat) ∧ cs.length ≤ cs.length ∧ cs.length ≤ (4611686018427387904 : Nat) ∧ xs.length ≤ (od.at.sv (↑ws.length : Int).toNat xs.length xs).length ∧ xs.length ≤ (4611686018427387904 : Nat)) && load.sp u r (List.take ws.length ws) (List.take cs.length cs) (List.take xs.length (od.at.sv (↑ws.length : Int).toNat xs.length xs)) && (false && (false && true) || true && true) then bif decide (sumOf.sp (pays.sv u r (List.take ws.length ws) (List.take cs.length cs) (List.take xs.length (od.at.sv (↑ws.length : Int).toNat xs.length xs))) < l) then bif (1 : Nat) == (1 : Nat) && (1 : Nat) == (1 : Nat) && (true && (true && true) && (true && true && (decide ((0 : Nat) + (List.take xs.length (List.drop (0 : Nat) (od.at.sv (↑ws.length : Int).toNat xs.length xs))).length ≤ (4611686018427387904 : Nat)) && decide (((0 : Nat) + (List.take xs.length (List.drop (0 : Nat) (od.at.sv (↑ws.length : Int).toNat xs.length xs))).length) * (8 : Nat) ≤ (140737488355328 : Nat))))) then L f n (mkS (39 : Nat) [((1 : Nat), AVal.ptr (0 : Nat) (0 : Nat) (0 : Nat)), ((5 : Nat), AVal.own (1 : Nat) (0 : Nat) xs.length (0 : Nat) (1 : Nat)), ((6 : Nat), AVal.own (2 : Nat) (0 : Nat) ((0 : Nat) + (List.take xs.length (List.drop (0 : Nat) (od.at.sv (↑ws.length : Int).toNat xs.length xs))).length) (0 : Nat) (1 : Nat)), ((7 : Nat), AVal.int IntKind.i64 (sumOf.sp (pays.sv u r (List.take ws.length ws) (List.take cs.length cs) (List.take xs.length (od.at.sv (↑ws.length : Int).toNat xs.length xs)))))] [{ c := BC.cells [AVal.int IntKind.i64 u, AVal.int IntKind.i64 r, AVal.ro (Cont.ints IntKind.i64 ws) ws.length (1 : Nat), AVal.ro (Cont.ints IntKind.i64 cs) cs.length (1 : Nat)], ver := (0 : Nat) }, { c := BC.typ (Cont.ints IntKind.i64 (od.at.sv (↑ws.length : Int).toNat xs.length xs)), ver := (0 : Nat) }, { c := BC.typ (Cont.ints IntKind.i64 (List.take (0 : Nat) (List.replicate (0 : Nat) (0 : Int)) ++ List.take xs.length (List.drop (0 : Nat) (od.at.sv (↑ws.length : Int).toNat xs.length xs)))), ver := (0 : Nat) }]) else none else L f n (mkS (39 : Nat) [((1 : Nat), AVal.ptr (0 : Nat) (0 : Nat) (0 : Nat)), ((5 : Nat), AVal.own (1 : Nat) (0 : Nat) xs.length (0 : Nat) (1 : Nat)), ((6 : Nat), AVal.own (2 : Nat) (0 : Nat) bs.length (0 : Nat) (1 : Nat)), ((7 : Nat), AVal.int IntKind.i64 l)] [{ c := BC.cells [AVal.int IntKind.i64 u, AVal.int IntKind.i64 r, AVal.ro (Cont.ints IntKind.i64 ws) ws.length (1 : Nat), AVal.ro (Cont.ints IntKind.i64 cs) cs.length (1 : Nat)], ver := (0 : Nat) }, { c := BC.typ (Cont.ints IntKind.i64 (od.at.sv (↑ws.length : Int).toNat xs.length xs)), ver := (0 : Nat) }, { c := BC.typ (Cont.ints IntKind.i64 bs), ver := (0 : Nat) }]) else none else some (AVal.tup [AVal.own (2 : Nat) (0 : Nat) bs.length (0 : Nat) (1 : Nat), AVal.int IntKind.i64 l, AVal.bool true], [{ c := BC.cells [AVal.int IntKind.i64 u, AVal.int IntKind.i64 r, AVal.ro (Cont.ints IntKind.i64 ws) ws.length (1 : Nat), AVal.ro (Cont.ints IntKind.i64 cs) cs.length (1 : Nat)], ver := (0 : Nat) }, { c := BC.typ (Cont.ints IntKind.i64 (od.at.sv (↑ws.length : Int).toNat xs.length xs)), ver := (0 : Nat) }, { c := BC.typ (Cont.ints IntKind.i64 bs), ver := (0 : Nat) }]) else none else none) := by kernel_rfl
theorem loop (u r : Int) (ws cs : List Int) (f : Nat) (hv : crowd.sp u r ws cs = true) : ∀ (d n : Nat) (xs bs : List Int) (l : Int), (xs.length : Int) = u → (bs.length : Int) = u → od.Ok ws.length xs → od.val ws.length xs + 1 + d = ws.length ^ xs.length → d < n →
    L f n (mkS 39 [(1, .ptr 0 0 0), (5, .own 1 0 xs.length 0 1), (6, .own 2 0 bs.length 0 1), (7, .int .i64 l)] [⟨.cells [.int .i64 u, .int .i64 r, .ro (.ints .i64 ws) ws.length 1, .ro (.ints .i64 cs) cs.length 1], 0⟩, ⟨.typ (.ints .i64 xs), 0⟩, ⟨.typ (.ints .i64 bs), 0⟩]) = some (.tup [.own 2 0 bs.length 0 1, .int .i64 (od.many (od.T.sv u r ws cs) ws.length d (od.nx ws.length xs) bs l).2, .bool true], [⟨.cells [.int .i64 u, .int .i64 r, .ro (.ints .i64 ws) ws.length 1, .ro (.ints .i64 cs) cs.length 1], 0⟩, ⟨.typ (.ints .i64 (List.replicate bs.length 0)), 0⟩, ⟨.typ (.ints .i64 (od.many (od.T.sv u r ws cs) ws.length d (od.nx ws.length xs) bs l).1), 0⟩]) := by
  obtain ⟨hu, hr, hw, hcs⟩ := od.crowd hv
  have hc64 := od.cs_le hv
  intro d
  induction d with
  | zero =>
    intro n xs bs l hx hb ho hval hn
    obtain ⟨n, rfl⟩ : ∃ k, n = k + 1 := ⟨n - 1, by omega⟩
    have on := od.nx_on (by omega) (by omega) ho
    have c : ¬ (od.val ws.length xs + 1 < ws.length ^ xs.length) := by omega
    have hz : od.at.sv ws.length xs.length xs = List.replicate xs.length 0 := od.nx_zero (by omega) (by omega) ho hval
    have q1 : xs.length ≤ 1000 := by omega
    have q2 : (1 : Int) ≤ (ws.length : Int) := by omega
    have q3 : (ws.length : Int) ≤ 1000 := by omega
    have q4 : xs.length = bs.length := by omega
    rw [round, Int.toNat_natCast, on]
    simp -implicitDefEqProofs only [c, q1, q2, q3, hz, od.many, and_self, eq_self, decide_true, decide_false, Bool.and_self, Bool.or_self, Bool.and_true, Bool.true_and, Bool.and_false, Bool.false_and, Bool.or_true, Bool.true_or, Bool.or_false, Bool.false_or, Bool.not_true, Bool.not_false, cond_true, cond_false]
    rw [q4]
  | succ d ih =>
    intro n xs bs l hx hb ho hval hn
    obtain ⟨n, rfl⟩ : ∃ k, n = k + 1 := ⟨n - 1, by omega⟩
    have on := od.nx_on (by omega) (by omega) ho
    have c : od.val ws.length xs + 1 < ws.length ^ xs.length := by omega
    have hnx : od.at.sv ws.length xs.length xs = od.nx ws.length xs := rfl
    have hnl := od.nx_length ws.length xs
    have hno := od.nx_ok (by omega) (by omega) ho
    have hnv := od.nx_val (by omega) (by omega) ho c
    have q1 : xs.length ≤ 1000 := by omega
    have q2 : (1 : Int) ≤ (ws.length : Int) := by omega
    have q3 : (ws.length : Int) ≤ 1000 := by omega
    have q5 : ws.length ≤ 4611686018427387904 := by omega
    have q6 : cs.length ≤ 4611686018427387904 := by omega
    have q7 : xs.length ≤ 4611686018427387904 := by omega
    have q8 : xs.length * 8 ≤ 140737488355328 := by omega
    have htk : List.take xs.length (od.nx ws.length xs) = od.nx ws.length xs := List.take_of_length_le (by omega)
    have hld := od.load hv (by rw [hnl]; exact hx) hno
    have hT : sumOf.sp (pays.sv u r ws cs (od.nx ws.length xs)) = od.T.sv u r ws cs (od.nx ws.length xs) := rfl
    have hk := ih n (od.nx ws.length xs) bs l (by rw [hnl]; exact hx) hb hno (by rw [hnl, hnv]; omega) (by omega)
    have hs := ih n (od.nx ws.length xs) (od.nx ws.length xs) (od.T.sv u r ws cs (od.nx ws.length xs)) (by rw [hnl]; exact hx) (by rw [hnl]; exact hx) hno (by rw [hnl, hnv]; omega) (by omega)
    rw [hnl] at hk hs
    have q4 : bs.length = xs.length := by omega
    rw [round, Int.toNat_natCast, on]
    simp -implicitDefEqProofs only [c, q1, q2, q3, q5, q6, q7, q8, hnx, hnl, htk, hld, hT, od.many, od.up, Nat.zero_add, List.drop_zero, List.take_zero, List.take_length, List.nil_append, Nat.le_refl, beq_self_eq_true, and_self, eq_self, decide_true, decide_false, Bool.and_self, Bool.or_self, Bool.and_true, Bool.true_and, Bool.and_false, Bool.false_and, Bool.or_true, Bool.true_or, Bool.or_false, Bool.false_or, Bool.not_true, Bool.not_false, cond_true, cond_false]
    cases decide (od.T.sv u r ws cs (od.nx ws.length xs) < l)
    · simp -implicitDefEqProofs only [decide_true, decide_false, Bool.and_self, Bool.or_self, Bool.and_true, Bool.true_and, Bool.and_false, Bool.false_and, Bool.or_true, Bool.true_or, Bool.or_false, Bool.false_or, Bool.not_true, Bool.not_false, cond_true, cond_false]; exact hk
    · simp -implicitDefEqProofs only [decide_true, decide_false, Bool.and_self, Bool.or_self, Bool.and_true, Bool.true_and, Bool.and_false, Bool.false_and, Bool.or_true, Bool.true_or, Bool.or_false, Bool.false_or, Bool.not_true, Bool.not_false, cond_true, cond_false, q4]; exact hs
theorem run : ∀ args v new, R args = some (true, v, new) → ∃ fuel, regc [2] (runFn Try.prog (orcW [⟨50, l04Next.R⟩] [⟨38, l06Is.R⟩, ⟨48, l06Few.R⟩, ⟨49, l06Total.R⟩]) hd Dr.std none fuel (bodyOf Try.f21) 39 [2, 3, 4] args []) = some (v, new) := by
  intro args v new h
  unfold R at h
  split at h
  · rename_i u r ws mw cs mc
    simp only [Option.some.injEq, Prod.mk.injEq, Bool.and_eq_true, decide_eq_true_eq, Bool.not_eq_true'] at h
    obtain ⟨⟨⟨rfl, rfl, h3, h4⟩, hok⟩, rfl, rfl⟩ := h
    simp only [od.ok.sp, Bool.and_eq_true] at hok
    obtain ⟨hv, hf⟩ := hok
    obtain ⟨hu, hr, hw, hcs⟩ := od.crowd hv
    obtain ⟨F, hF⟩ : ∃ F : Nat, F = 5000 := ⟨5000, rfl⟩
    refine ⟨F, ?_⟩
    obtain ⟨U, hU⟩ : ∃ U : Nat, u = U := ⟨u.toNat, by omega⟩
    subst hU
    rw [Int.toNat_natCast] at hf
    have hf2 : ws.length ^ U ≤ 4096 := by simpa only [od.few.sp, decide_eq_true_eq, Int.toNat_natCast] using hf
    have hpos : 1 ≤ ws.length ^ U := Nat.one_le_pow _ _ (by omega)
    have hzo := od.ok_zeros (W := ws.length) (by omega) U
    have hl := loop (U : Int) r ws cs F hv (ws.length ^ U - 1) F (List.replicate U 0) (List.replicate U 0) (od.T.sv (U : Int) r ws cs (List.replicate U 0)) (by simp) (by simp) hzo (by rw [od.val_zeros, List.length_replicate]; omega) (by omega)
    have hld := od.load hv (xs := List.replicate U 0) (by simp) hzo
    have z1 : (0 : Int) ≤ (U : Int) := by omega
    have z2 : (U : Int) * 8 ≤ 140737488355328 := by omega
    have z3 : (U : Int) ≤ 4611686018427387904 := by omega
    have z4 : U ≤ 4611686018427387904 := by omega
    have z5 : U * 8 ≤ 140737488355328 := by omega
    have htk : List.take U (List.replicate U (0 : Int)) = List.replicate U 0 := List.take_of_length_le (by simp)
    have hT : sumOf.sp (pays.sv (U : Int) r ws cs (List.replicate U 0)) = od.T.sv (U : Int) r ws cs (List.replicate U 0) := rfl
    rw [List.length_replicate] at hl
    rw [start]
    simp -implicitDefEqProofs only [h3, h4, hv, hf, hu, hw, z1, z2, z3, z4, z5, htk, hT, hld, Int.toNat_natCast, List.length_replicate, Nat.zero_add, List.drop_zero, List.take_zero, List.take_length, List.nil_append, Nat.le_refl, beq_self_eq_true, and_self, eq_self, decide_true, decide_false, Bool.and_self, Bool.or_self, Bool.and_true, Bool.true_and, Bool.and_false, Bool.false_and, Bool.or_true, Bool.true_or, Bool.or_false, Bool.false_or, Bool.not_true, Bool.not_false, cond_true, cond_false]
    exact (congrArg (regc [2]) hl).trans rfl
  · cases h
theorem ok : EntOk Try.prog ⟨21, R⟩ :=
  ent_okAG (ks := [2]) mixed (A := (orcW [⟨50, l04Next.R⟩] [⟨38, l06Is.R⟩, ⟨48, l06Few.R⟩, ⟨49, l06Total.R⟩])) (orcW_ok (by simp only [List.mem_cons, List.not_mem_nil, or_false, forall_eq_or_imp, forall_eq]; exact l04Next.ok) (by simp only [List.mem_cons, List.not_mem_nil, or_false, forall_eq_or_imp, forall_eq]; exact ⟨l06Is.ok, l06Few.ok, l06Total.ok⟩)) Try.func21 (by kernel_rfl) (by kernel_rfl) (n := 39) (ts := [2, 3, 4]) (hd := hd) (dr := Dr.std) (cut := none) (by kernel_rfl) (by kernel_rfl) (by kernel_rfl) run
end sLeastTotal_t

namespace sLeastTotal_f
def R : List AVal → Option (Bool × AVal × List Blk)
  | [.agg [.int .i64 u, .int .i64 r, .ro (.ints .i64 ws) mw 1, .ro (.ints .i64 cs) mc 1]] => some (decide (mw = ws.length ∧ mc = cs.length ∧ mw ≤ 4611686018427387904 ∧ mc ≤ 4611686018427387904) && !od.ok.sp u r ws cs, .tup [.nils, .int .i64 0, .bool false], [])
  | _ => none
def hd : Nat → Head := fun _ => ⟨[998, 1, 5, 6, 7], none⟩
noncomputable def L (f n : Nat) (s : State) := loopAt Try.prog (orc [⟨38, l06Is.R⟩, ⟨48, l06Few.R⟩]) hd Dr.std 0 f (bodyOf Try.f21) 0 [true, true, true, true, true, false] (retK Try.prog [2, 3, 4] 0 (some 0)) n s
theorem start (u r : Int) (ws cs : List Int) (f : Nat) :
  runFn Try.prog (orc [⟨38, l06Is.R⟩, ⟨48, l06Few.R⟩]) hd Dr.std (some 0) f (bodyOf Try.f21) 39 [2, 3, 4] [.agg [.int .i64 u, .int .i64 r, .ro (.ints .i64 ws) ws.length 1, .ro (.ints .i64 cs) cs.length 1]] []
  = (bif decide (ws.length ≤ ws.length ∧ ws.length ≤ (4611686018427387904 : Nat) ∧ cs.length ≤ cs.length ∧ cs.length ≤ (4611686018427387904 : Nat)) && (false && true || true && true) then bif !crowd.sp u r (List.take ws.length ws) (List.take cs.length cs) then some (AVal.tup [AVal.nils, AVal.int IntKind.i64 (0 : Int), AVal.bool false], []) else bif decide (ws.length = ws.length ∧ cs.length = cs.length ∧ ws.length ≤ (4611686018427387904 : Nat) ∧ cs.length ≤ (4611686018427387904 : Nat) ∧ (1 : Int) ≤ u ∧ u ≤ (8 : Int) ∧ (1 : Nat) ≤ ws.length ∧ ws.length ≤ (8 : Nat)) && (false && true || true && true) then bif !od.few.sp u.toNat ws.length then some (AVal.tup [AVal.nils, AVal.int IntKind.i64 (0 : Int), AVal.bool false], []) else bif true && true then bif (1 : Nat) == (1 : Nat) && (u == u && (decide ((0 : Int) ≤ u) && (decide (u * (8 : Int) ≤ (140737488355328 : Int)) && decide (u ≤ (4611686018427387904 : Int))))) then bif (1 : Nat) == (1 : Nat) && (1 : Nat) == (1 : Nat) && (true && (true && true) && (true && true && (decide ((0 : Nat) + (List.take u.toNat (List.drop (0 : Nat) (List.replicate u.toNat (0 : Int)))).length ≤ (4611686018427387904 : Nat)) && decide (((0 : Nat) + (List.take u.toNat (List.drop (0 : Nat) (List.replicate u.toNat (0 : Int)))).length) * (8 : Nat) ≤ (140737488355328 : Nat))))) then none else none else none else none else none else none) := by kernel_rfl
theorem run : ∀ args v new, R args = some (true, v, new) → ∃ fuel, runFn Try.prog (orc [⟨38, l06Is.R⟩, ⟨48, l06Few.R⟩]) hd Dr.std (some 0) fuel (bodyOf Try.f21) 39 [2, 3, 4] args [] = some (v, new) := by
  intro args v new h
  unfold R at h
  split at h
  · rename_i u r ws mw cs mc
    simp only [Option.some.injEq, Prod.mk.injEq, Bool.and_eq_true, decide_eq_true_eq, Bool.not_eq_true'] at h
    obtain ⟨⟨⟨rfl, rfl, h3, h4⟩, hok⟩, rfl, rfl⟩ := h
    refine ⟨ws.length, ?_⟩
    rw [start]
    simp only [od.ok.sp] at hok
    cases hv : crowd.sp u r ws cs
    · simp -implicitDefEqProofs only [h3, h4, hv, List.take_length, Nat.le_refl, and_self, eq_self, decide_true, decide_false, Bool.and_self, Bool.or_self, Bool.and_true, Bool.true_and, Bool.and_false, Bool.false_and, Bool.or_true, Bool.true_or, Bool.or_false, Bool.false_or, Bool.not_true, Bool.not_false, cond_true, cond_false]
    · rw [hv, Bool.true_and] at hok
      obtain ⟨hu, hr, hw, hcs⟩ := od.crowd hv
      simp -implicitDefEqProofs only [h3, h4, hv, hok, hu, hw, List.take_length, Nat.le_refl, and_self, eq_self, decide_true, decide_false, Bool.and_self, Bool.or_self, Bool.and_true, Bool.true_and, Bool.and_false, Bool.false_and, Bool.or_true, Bool.true_or, Bool.or_false, Bool.false_or, Bool.not_true, Bool.not_false, cond_true, cond_false]
  · cases h
theorem ok : EntOk Try.prog ⟨21, R⟩ :=
  ent_okA mixed (A := (orc [⟨38, l06Is.R⟩, ⟨48, l06Few.R⟩])) (orc_ok (by simp only [List.mem_cons, List.not_mem_nil, or_false, forall_eq_or_imp, forall_eq]; exact ⟨l06Is.ok, l06Few.ok⟩)) Try.func21 (by kernel_rfl) (by kernel_rfl) (n := 39) (ts := [2, 3, 4]) (hd := hd) (dr := Dr.std) (cut := (some 0)) (by kernel_rfl) (by kernel_rfl) (by kernel_rfl) run
end sLeastTotal_f

namespace sLeastTotal
def Rt := sLeastTotal_t.R
def Rf := sLeastTotal_f.R
theorem okt : EntOk Try.prog ⟨21, Rt⟩ := sLeastTotal_t.ok
theorem okf : EntOk Try.prog ⟨21, Rf⟩ := sLeastTotal_f.ok
end sLeastTotal

end Go.Proofs.Ytgeglpommdckgaa.Ab
