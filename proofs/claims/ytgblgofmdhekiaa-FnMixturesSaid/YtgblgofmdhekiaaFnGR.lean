/-
  Functions: gains from mixed choices, the parts.
-/
import Derived.Test.YtgblgofmdhekiaaFnL
import Derived.Test.YtgblgofmdhekiaaFnGC
namespace Go.Proofs.Ytgblgofmdhekiaa.Ab
open Go
set_option linter.unusedVariables false
set_option linter.unusedSimpArgs false
set_option maxRecDepth 100000

namespace wg
/-- Chances that fit a valid game. -/
def ch.sp (r c : Int) (xs ys : List Int) (az bz : List Nat) : Bool := gm.sp r c xs ys && ((decide ((az.length : Int) = r) && az.all flo.least.sp) && (decide ((bz.length : Int) = c) && bz.all flo.least.sp))
def gi (c : Nat) (xs : List Int) (az bz : List Nat) (i : Nat) : List Nat → Nat → Nat
  | [], s => s
  | k :: t, s => gi c xs az bz i t (fadd .f32 s (fmul .f32 (fmul .f32 (gn az i) (gn bz k)) (FloatKind.f32.nearest (gz xs (i * c + k)))))
def go (c : Nat) (xs : List Int) (az bz : List Nat) : List Nat → Nat → Nat
  | [], s => s
  | i :: t, s => go c xs az bz t (gi c xs az bz i (List.range c) s)
/-- What a player gains in the mean. -/
def g.sv (r c : Nat) (xs : List Int) (az bz : List Nat) : Nat := go c xs az bz (List.range r) 0
def gok.sp (r c : Int) (xs ys : List Int) (az bz : List Nat) : Bool := ch.sp r c xs ys az bz && (flo.fin.sp (g.sv r.toNat c.toNat xs az bz) && flo.fin.sp (g.sv r.toNat c.toNat ys az bz))
def ga.sv (r c : Int) (xs ys : List Int) (az bz : List Nat) : Nat := bif gok.sp r c xs ys az bz then g.sv r.toNat c.toNat xs az bz else 0
def gb.sv (r c : Int) (xs ys : List Int) (az bz : List Nat) : Nat := bif gok.sp r c xs ys az bz then g.sv r.toNat c.toNat ys az bz else 0
/-- What one choice gains. -/
def fs (w : Nat → Int) (zs : List Nat) : List Nat → Nat → Nat
  | [], s => s
  | k :: t, s => fs w zs t (fadd .f32 s (fmul .f32 (gn zs k) (FloatKind.f32.nearest (w k))))
def row (c : Nat) (xs : List Int) (i : Nat) : Nat → Int := fun k => gz xs (i * c + k)
def col (c : Nat) (xs : List Int) (k : Nat) : Nat → Int := fun i => gz xs (i * c + k)
def rs.sv (c : Nat) (xs : List Int) (zs : List Nat) (i : Nat) : Nat := fs (row c xs i) zs (List.range c) 0
def cs.sv (r c : Nat) (ys : List Int) (zs : List Nat) (k : Nat) : Nat := fs (col c ys k) zs (List.range r) 0
def mo.sv (x g : Nat) : Nat := fsub .f32 x g
def gt.sp (x m : Nat) : Bool := FloatKind.f32.format.order x m == some Ordering.gt
/-- The greatest of what is gained more. -/
def most (F : Nat → Nat) : List Nat → Nat → Nat
  | [], m => m
  | i :: t, m => most F t (bif gt.sp (F i) m then F i else m)
def fins (F : Nat → Nat) (l : List Nat) : Bool := l.all fun i => flo.fin.sp (F i)
def FR (c : Nat) (xs : List Int) (bz : List Nat) (g : Nat) : Nat → Nat := fun i => mo.sv (rs.sv c xs bz i) g
def FC (r c : Nat) (ys : List Int) (az : List Nat) (g : Nat) : Nat → Nat := fun k => mo.sv (cs.sv r c ys az k) g
def fin.sp (F : Nat → Nat) (r : Nat) : Bool := fins F (List.range r)
def mst.sv (F : Nat → Nat) (r m : Nat) : Nat := most F (List.range r) m
theorem fins_cons (F : Nat → Nat) (i : Nat) (t : List Nat) : fins F (i :: t) = (flo.fin.sp (F i) && fins F t) := rfl
def sp (r c : Int) (xs ys : List Int) (az bz : List Nat) : Bool := gok.sp r c xs ys az bz && (fin.sp (FR c.toNat xs bz (ga.sv r c xs ys az bz)) r.toNat && fin.sp (FC r.toNat c.toNat ys az (gb.sv r c xs ys az bz)) c.toNat)
def v.sv (r c : Int) (xs ys : List Int) (az bz : List Nat) : Nat := bif sp r c xs ys az bz then mst.sv (FC r.toNat c.toNat ys az (gb.sv r c xs ys az bz)) c.toNat (mst.sv (FR c.toNat xs bz (ga.sv r c xs ys az bz)) r.toNat 0) else 0
theorem fs_congr {w v : Nat → Int} {zs : List Nat} : ∀ (l : List Nat) (s : Nat), (∀ k ∈ l, w k = v k) → fs w zs l s = fs v zs l s := by
  intro l
  induction l with
  | nil => intro s _; rfl
  | cons k t ih =>
    intro s h
    simp only [fs]
    rw [h k List.mem_cons_self]
    exact ih _ fun j hj => h j (List.mem_cons_of_mem _ hj)
theorem most_congr {F G : Nat → Nat} : ∀ (l : List Nat) (m : Nat), (∀ k ∈ l, F k = G k) → most F l m = most G l m := by
  intro l
  induction l with
  | nil => intro s _; rfl
  | cons k t ih =>
    intro s h
    simp only [most]
    rw [h k List.mem_cons_self]
    exact ih _ fun j hj => h j (List.mem_cons_of_mem _ hj)
theorem fins_congr {F G : Nat → Nat} : ∀ (l : List Nat), (∀ k ∈ l, F k = G k) → fins F l = fins G l := by
  intro l
  induction l with
  | nil => intro _; rfl
  | cons k t ih =>
    intro h
    have := ih fun j hj => h j (List.mem_cons_of_mem _ hj)
    simp only [fins, List.all_cons] at this ⊢
    rw [h k List.mem_cons_self, this]
theorem drop_range {k r : Nat} (h : k < r) : (List.range r).drop k = k :: (List.range r).drop (k + 1) := by
  rw [List.drop_eq_getElem_cons (by simpa using h)]
  simp
theorem turned {r c : Nat} {ys : List Int} {az : List Nat} {k : Nat} (hk : k < c) : rs.sv r (tn.sv r c ys) az k = cs.sv r c ys az k := by
  unfold rs.sv cs.sv
  refine fs_congr _ _ fun i hi => ?_
  exact tn.sv_get hk (List.mem_range.1 hi)
theorem turned_fin {r c : Nat} {ys : List Int} {az : List Nat} {g : Nat} : fin.sp (FR r (tn.sv r c ys) az g) c = fin.sp (FC r c ys az g) c :=
  fins_congr _ fun k hk => by unfold FR FC; rw [turned (List.mem_range.1 hk)]
theorem turned_mst {r c : Nat} {ys : List Int} {az : List Nat} {g m : Nat} : mst.sv (FR r (tn.sv r c ys) az g) c m = mst.sv (FC r c ys az g) c m :=
  most_congr _ _ fun k hk => by unfold FR FC; rw [turned (List.mem_range.1 hk)]
theorem ch_valid {r c : Int} {xs ys : List Int} {az bz : List Nat} (h : ch.sp r c xs ys az bz = true) : gm.sp r c xs ys = true ∧ (az.length : Int) = r ∧ (bz.length : Int) = c := by
  simp only [ch.sp, Bool.and_eq_true, decide_eq_true_eq] at h
  exact ⟨h.1, h.2.1.1, h.2.2.1⟩
end wg


namespace chancesFor
def R : List AVal → Option (Bool × AVal × List Blk)
  | [.agg [.int .i64 r, .int .i64 c, .ro (.ints .i64 xs) ma 1, .ro (.ints .i64 ys) mb 1], .ro (.flts .f32 az) mc 1, .ro (.flts .f32 bz) md 1] => some (decide (ma = xs.length ∧ mb = ys.length ∧ ma ≤ 4611686018427387904 ∧ mb ≤ 4611686018427387904 ∧ mc = az.length ∧ mc ≤ 4611686018427387904 ∧ md = bz.length ∧ md ≤ 4611686018427387904), .bool (wg.ch.sp r c xs ys az bz), [])
  | _ => none
theorem go (r c : Int) (xs ys : List Int) (az bz : List Nat) :
  runFn Try.prog (orc [⟨43, iValidGame.R⟩, ⟨63, areNotLess.R⟩]) hd0 Dr.std (some 0) 0 (bodyOf Try.f51) 31 [6] [.agg [.int .i64 r, .int .i64 c, .ro (.ints .i64 xs) xs.length 1, .ro (.ints .i64 ys) ys.length 1], .ro (.flts .f32 az) az.length 1, .ro (.flts .f32 bz) bz.length 1] []
  = (bif true && true && (true && true && (true && true && (true && true && true))) then bif decide (xs.length = xs.length ∧ ys.length = ys.length ∧ xs.length ≤ (4611686018427387904 : Nat) ∧ ys.length ≤ (4611686018427387904 : Nat)) && (true && (true && (true && (true && true))) && true || true && true) then bif gm.sp r c xs ys then bif true && true then bif (↑az.length : Int) == r then bif true && true then bif (↑bz.length : Int) == c then bif decide (az.length ≤ az.length ∧ az.length ≤ (4611686018427387904 : Nat)) && (true && true || true && true) then bif (List.take az.length az).all flo.least.sp then bif decide (bz.length ≤ bz.length ∧ bz.length ≤ (4611686018427387904 : Nat)) && (true && true || true && true) then some (AVal.bool ((List.take bz.length bz).all flo.least.sp), []) else none else some (AVal.bool false, []) else none else some (AVal.bool false, []) else none else some (AVal.bool false, []) else none else some (AVal.bool false, []) else none else none) := by kernel_rfl
theorem run : ∀ args v new, R args = some (true, v, new) → ∃ fuel, runFn Try.prog (orc [⟨43, iValidGame.R⟩, ⟨63, areNotLess.R⟩]) hd0 Dr.std (some 0) fuel (bodyOf Try.f51) 31 [6] args [] = some (v, new) := by
  intro args v new h
  unfold R at h
  split at h
  · rename_i r c xs ma ys mb az mc bz md
    simp only [Option.some.injEq, Prod.mk.injEq, Bool.and_eq_true, decide_eq_true_eq, Bool.not_eq_true'] at h
    obtain ⟨⟨rfl, rfl, h3, h4, rfl, h6, rfl, h8⟩, rfl, rfl⟩ := h
    refine ⟨0, ?_⟩
    rw [go]
    have ta : az.take az.length = az := List.take_of_length_le (Nat.le_refl _)
    have tb : bz.take bz.length = bz := List.take_of_length_le (Nat.le_refl _)
    have ea : ((az.length : Int) == r) = decide ((az.length : Int) = r) := rfl
    have eb : ((bz.length : Int) == c) = decide ((bz.length : Int) = c) := rfl
    simp only [ta, tb, ea, eb, h3, h4, h6, h8, Nat.le_refl, and_self, eq_self, decide_true, decide_false, Bool.and_self, Bool.or_self, Bool.and_true, Bool.true_and, Bool.and_false, Bool.false_and, Bool.or_true, Bool.true_or, Bool.or_false, Bool.false_or, Bool.not_true, Bool.not_false, cond_true, cond_false]
    unfold wg.ch.sp
    generalize gm.sp r c xs ys = b1
    generalize decide ((az.length : Int) = r) = b2
    generalize az.all flo.least.sp = b3
    generalize decide ((bz.length : Int) = c) = b4
    generalize bz.all flo.least.sp = b5
    cases b1 <;> cases b2 <;> cases b3 <;> cases b4 <;> cases b5 <;> rfl
  · cases h
theorem ok : EntOk Try.prog ⟨51, R⟩ :=
  ent_okA mixed (A := (orc [⟨43, iValidGame.R⟩, ⟨63, areNotLess.R⟩])) (orc_ok (by simp only [List.mem_cons, List.not_mem_nil, or_false, forall_eq_or_imp, forall_eq]; exact ⟨iValidGame.ok, areNotLess.ok⟩)) Try.func51 (by kernel_rfl) (by kernel_rfl) (n := 31) (ts := [6]) (hd := hd0) (dr := Dr.std) (cut := (some 0)) (by kernel_rfl) (by kernel_rfl) (by kernel_rfl) run
end chancesFor

theorem wg.two (a b : Nat) : (List.take 2 (((List.replicate 2 0).set 0 a).set 1 b)).any areFinite_1.sp = (!(flo.fin.sp a && flo.fin.sp b)) := by
  simp only [List.replicate, List.set, List.take, List.any, areFinite_1.sp]
  cases flo.fin.sp a <;> cases flo.fin.sp b <;> rfl
theorem wg.two_len (a b : Nat) : (((List.replicate 2 0).set 0 a).set 1 b).length = 2 := rfl


namespace iGainsOf
def R : List AVal → Option (Bool × AVal × List Blk)
  | [.agg [.int .i64 r, .int .i64 c, .ro (.ints .i64 xs) ma 1, .ro (.ints .i64 ys) mb 1], .ro (.flts .f32 az) mc 1, .ro (.flts .f32 bz) md 1] => some (decide (ma = xs.length ∧ mb = ys.length ∧ ma ≤ 4611686018427387904 ∧ mb ≤ 4611686018427387904 ∧ mc = az.length ∧ mc ≤ 4611686018427387904 ∧ md = bz.length ∧ md ≤ 4611686018427387904), .tup [.flt .f32 (wg.ga.sv r c xs ys az bz), .flt .f32 (wg.gb.sv r c xs ys az bz), .bool (wg.gok.sp r c xs ys az bz)], [])
  | _ => none
def hd : Nat → Head := fun i => bif eqN i 2 then ⟨[2, 3, 9, 10, 11, 12, 21, 22, 23, 28, 29, 30], some 1⟩ else ⟨[2, 3, 9, 10, 21, 22, 23], some 1⟩
noncomputable def L1 (f n : Nat) (s : State) := loopAt Try.prog (orc [⟨51, chancesFor.R⟩, ⟨52, gA.R⟩, ⟨53, gB.R⟩, ⟨54, areFinite.R⟩]) hd Dr.std 0 f (bodyOf Try.f19) 0 [true, true, true, false, true] (retK Try.prog [6, 7, 8] 0 (some 0)) n s
noncomputable def L2 (f n n2 : Nat) (s : State) := loopAt Try.prog (orc [⟨51, chancesFor.R⟩, ⟨52, gA.R⟩, ⟨53, gB.R⟩, ⟨54, areFinite.R⟩]) hd Dr.std 0 f (bodyAt (bodyOf Try.f19) [true, true, true, false, true]) (curAt (bodyOf Try.f19) 0 [true, true, true, false, true]) [true, true, false, true, true] (iterK (normE 0 (hd (curAt (bodyOf Try.f19) 0 [true, true, true, false, true]))) (L1 f n) (contAt Try.prog (orc [⟨51, chancesFor.R⟩, ⟨52, gA.R⟩, ⟨53, gB.R⟩, ⟨54, areFinite.R⟩]) hd Dr.std 0 f (bodyOf Try.f19) 0 [true, true, true, false, true] (retK Try.prog [6, 7, 8] 0 (some 0)))) n2 s
theorem start (r c : Int) (xs ys : List Int) (az bz : List Nat) (f : Nat) :
  runFn Try.prog (orc [⟨51, chancesFor.R⟩, ⟨52, gA.R⟩, ⟨53, gB.R⟩, ⟨54, areFinite.R⟩]) hd Dr.std (some 0) f (bodyOf Try.f19) 65 [6, 7, 8] [.agg [.int .i64 r, .int .i64 c, .ro (.ints .i64 xs) xs.length 1, .ro (.ints .i64 ys) ys.length 1], .ro (.flts .f32 az) az.length 1, .ro (.flts .f32 bz) bz.length 1] []
  = (bif true && true && (true && true && (true && true && (true && true && true))) then bif decide (xs.length = xs.length ∧ ys.length = ys.length ∧ xs.length ≤ (4611686018427387904 : Nat) ∧ ys.length ≤ (4611686018427387904 : Nat) ∧ az.length = az.length ∧ az.length ≤ (4611686018427387904 : Nat) ∧ bz.length = bz.length ∧ bz.length ≤ (4611686018427387904 : Nat)) && (true && (true && (true && (true && true))) && (true && (true && true)) || true && true) then bif !wg.ch.sp r c xs ys az bz then some (AVal.tup [AVal.flt FloatKind.f32 (0 : Nat), AVal.flt FloatKind.f32 (0 : Nat), AVal.bool false], []) else L1 f f (mkS (65 : Nat) [((2 : Nat), AVal.ro (Cont.flts FloatKind.f32 bz) bz.length (1 : Nat)), ((3 : Nat), AVal.ptr (0 : Nat) (0 : Nat) (0 : Nat)), ((9 : Nat), AVal.flt FloatKind.f32 (0 : Nat)), ((10 : Nat), AVal.flt FloatKind.f32 (0 : Nat)), ((21 : Nat), AVal.ro (Cont.flts FloatKind.f32 az) az.length (1 : Nat)), ((22 : Nat), AVal.int IntKind.i64 (↑az.length : Int)), ((23 : Nat), AVal.int IntKind.i64 (0 : Int))] [{ c := BC.cells [AVal.int IntKind.i64 r, AVal.int IntKind.i64 c, AVal.ro (Cont.ints IntKind.i64 xs) xs.length (1 : Nat), AVal.ro (Cont.ints IntKind.i64 ys) ys.length (1 : Nat)], ver := (0 : Nat) }]) else none else none) := by kernel_rfl
theorem round1 (r c : Nat) (xs ys : List Int) (az bz : List Nat) (a b i f n : Nat) :
  L1 f (n + 1) (mkS 65 [(2, .ro (.flts .f32 bz) bz.length 1), (3, .ptr 0 0 0), (9, .flt .f32 a), (10, .flt .f32 b), (21, .ro (.flts .f32 az) az.length 1), (22, .int .i64 az.length), (23, .int .i64 i)] [⟨.cells [.int .i64 r, .int .i64 c, .ro (.ints .i64 xs) xs.length 1, .ro (.ints .i64 ys) ys.length 1], 0⟩])
  = (bif decide ((↑i : Int) < (↑az.length : Int)) then bif true && (decide ((0 : Int) ≤ (↑i : Int)) && decide ((↑i : Int) < (↑az.length : Int))) then bif decide ((↑i : Int).toNat < az.length) then L2 f n f (mkS (65 : Nat) [((2 : Nat), AVal.ro (Cont.flts FloatKind.f32 bz) bz.length (1 : Nat)), ((3 : Nat), AVal.ptr (0 : Nat) (0 : Nat) (0 : Nat)), ((9 : Nat), AVal.flt FloatKind.f32 a), ((10 : Nat), AVal.flt FloatKind.f32 b), ((11 : Nat), AVal.int IntKind.i64 (↑i : Int)), ((12 : Nat), AVal.flt FloatKind.f32 (gn az (↑i : Int).toNat)), ((21 : Nat), AVal.ro (Cont.flts FloatKind.f32 az) az.length (1 : Nat)), ((22 : Nat), AVal.int IntKind.i64 (↑az.length : Int)), ((23 : Nat), AVal.int IntKind.i64 (↑i : Int)), ((28 : Nat), AVal.ro (Cont.flts FloatKind.f32 bz) bz.length (1 : Nat)), ((29 : Nat), AVal.int IntKind.i64 (↑bz.length : Int)), ((30 : Nat), AVal.int IntKind.i64 (0 : Int))] [{ c := BC.cells [AVal.int IntKind.i64 (↑r : Int), AVal.int IntKind.i64 (↑c : Int), AVal.ro (Cont.ints IntKind.i64 xs) xs.length (1 : Nat), AVal.ro (Cont.ints IntKind.i64 ys) ys.length (1 : Nat)], ver := (0 : Nat) }]) else none else none else bif decide ((2 : Nat) ≤ (((List.replicate (2 : Nat) (0 : Nat)).set (0 : Nat) a).set (1 : Nat) b).length ∧ (2 : Nat) ≤ (4611686018427387904 : Nat)) && (false && true || true && true) then bif !!(List.take (2 : Nat) (((List.replicate (2 : Nat) (0 : Nat)).set (0 : Nat) a).set (1 : Nat) b)).any areFinite_1.sp then some (AVal.tup [AVal.flt FloatKind.f32 (0 : Nat), AVal.flt FloatKind.f32 (0 : Nat), AVal.bool false], []) else some (AVal.tup [AVal.flt FloatKind.f32 a, AVal.flt FloatKind.f32 b, AVal.bool true], []) else none) := by kernel_rfl
theorem round2 (r c : Nat) (xs ys : List Int) (az bz : List Nat) (a b i k f n n2 : Nat) :
  L2 f n (n2 + 1) (mkS 65 [(2, .ro (.flts .f32 bz) bz.length 1), (3, .ptr 0 0 0), (9, .flt .f32 a), (10, .flt .f32 b), (11, .int .i64 i), (12, .flt .f32 (gn az i)), (21, .ro (.flts .f32 az) az.length 1), (22, .int .i64 az.length), (23, .int .i64 i), (28, .ro (.flts .f32 bz) bz.length 1), (29, .int .i64 bz.length), (30, .int .i64 k)] [⟨.cells [.int .i64 r, .int .i64 c, .ro (.ints .i64 xs) xs.length 1, .ro (.ints .i64 ys) ys.length 1], 0⟩])
  = (bif decide ((↑k : Int) < (↑bz.length : Int)) then bif true && (decide ((0 : Int) ≤ (↑k : Int)) && decide ((↑k : Int) < (↑bz.length : Int))) then bif decide ((↑k : Int).toNat < bz.length) then bif true && true && (true && true && (true && true && (true && true && true))) then bif decide (xs.length = xs.length ∧ ys.length = ys.length ∧ (0 : Int) ≤ (↑i : Int) ∧ (0 : Int) ≤ (↑k : Int) ∧ (↑i : Int) ≤ (100 : Int) ∧ (↑k : Int) ≤ (100 : Int) ∧ (0 : Int) ≤ (↑c : Int) ∧ (↑c : Int) ≤ (100 : Int) ∧ (↑i : Int) * (↑c : Int) + (↑k : Int) < (↑xs.length : Int)) && (true && (true && (true && (true && true))) && (true && (true && true)) || true && true) then bif true && true && (true && true && (true && true && (true && true && true))) then bif decide (xs.length = xs.length ∧ ys.length = ys.length ∧ (0 : Int) ≤ (↑i : Int) ∧ (0 : Int) ≤ (↑k : Int) ∧ (↑i : Int) ≤ (100 : Int) ∧ (↑k : Int) ≤ (100 : Int) ∧ (0 : Int) ≤ (↑c : Int) ∧ (↑c : Int) ≤ (100 : Int) ∧ (↑i : Int) * (↑c : Int) + (↑k : Int) < (↑ys.length : Int)) && (true && (true && (true && (true && true))) && (true && (true && true)) || true && true) then L2 f n n2 (mkS (65 : Nat) [((2 : Nat), AVal.ro (Cont.flts FloatKind.f32 bz) bz.length (1 : Nat)), ((3 : Nat), AVal.ptr (0 : Nat) (0 : Nat) (0 : Nat)), ((9 : Nat), AVal.flt FloatKind.f32 (fadd FloatKind.f32 a (fmul FloatKind.f32 (fmul FloatKind.f32 (gn az i) (gn bz (↑k : Int).toNat)) (FloatKind.f32.nearest (gz xs ((↑i : Int) * (↑c : Int) + (↑k : Int)).toNat))))), ((10 : Nat), AVal.flt FloatKind.f32 (fadd FloatKind.f32 b (fmul FloatKind.f32 (fmul FloatKind.f32 (gn az i) (gn bz (↑k : Int).toNat)) (FloatKind.f32.nearest (gz ys ((↑i : Int) * (↑c : Int) + (↑k : Int)).toNat))))), ((11 : Nat), AVal.int IntKind.i64 (↑i : Int)), ((12 : Nat), AVal.flt FloatKind.f32 (gn az i)), ((21 : Nat), AVal.ro (Cont.flts FloatKind.f32 az) az.length (1 : Nat)), ((22 : Nat), AVal.int IntKind.i64 (↑az.length : Int)), ((23 : Nat), AVal.int IntKind.i64 (↑i : Int)), ((28 : Nat), AVal.ro (Cont.flts FloatKind.f32 bz) bz.length (1 : Nat)), ((29 : Nat), AVal.int IntKind.i64 (↑bz.length : Int)), ((30 : Nat), AVal.int IntKind.i64 (IntKind.i64.wrap ((↑k : Int) + (1 : Int))))] [{ c := BC.cells [AVal.int IntKind.i64 (↑r : Int), AVal.int IntKind.i64 (↑c : Int), AVal.ro (Cont.ints IntKind.i64 xs) xs.length (1 : Nat), AVal.ro (Cont.ints IntKind.i64 ys) ys.length (1 : Nat)], ver := (0 : Nat) }]) else none else none else none else none else none else none else L1 f n (mkS (65 : Nat) [((2 : Nat), AVal.ro (Cont.flts FloatKind.f32 bz) bz.length (1 : Nat)), ((3 : Nat), AVal.ptr (0 : Nat) (0 : Nat) (0 : Nat)), ((9 : Nat), AVal.flt FloatKind.f32 a), ((10 : Nat), AVal.flt FloatKind.f32 b), ((21 : Nat), AVal.ro (Cont.flts FloatKind.f32 az) az.length (1 : Nat)), ((22 : Nat), AVal.int IntKind.i64 (↑az.length : Int)), ((23 : Nat), AVal.int IntKind.i64 (IntKind.i64.wrap ((↑i : Int) + (1 : Int))))] [{ c := BC.cells [AVal.int IntKind.i64 (↑r : Int), AVal.int IntKind.i64 (↑c : Int), AVal.ro (Cont.ints IntKind.i64 xs) xs.length (1 : Nat), AVal.ro (Cont.ints IntKind.i64 ys) ys.length (1 : Nat)], ver := (0 : Nat) }])) := by kernel_rfl
theorem inner (r c : Nat) (xs ys : List Int) (az bz : List Nat) (f n i : Nat) (hr : 1 ≤ r ∧ r ≤ 6) (hc : 1 ≤ c ∧ c ≤ 6) (hx : xs.length = r * c) (hy : ys.length = r * c) (la : az.length = r) (lb : bz.length = c) (hi : i < r) : ∀ (d k n2 a b : Nat), k + d = c → d < n2 →
    L2 f n n2 (mkS 65 [(2, .ro (.flts .f32 bz) bz.length 1), (3, .ptr 0 0 0), (9, .flt .f32 a), (10, .flt .f32 b), (11, .int .i64 i), (12, .flt .f32 (gn az i)), (21, .ro (.flts .f32 az) az.length 1), (22, .int .i64 az.length), (23, .int .i64 i), (28, .ro (.flts .f32 bz) bz.length 1), (29, .int .i64 bz.length), (30, .int .i64 k)] [⟨.cells [.int .i64 r, .int .i64 c, .ro (.ints .i64 xs) xs.length 1, .ro (.ints .i64 ys) ys.length 1], 0⟩]) = L1 f n (mkS 65 [(2, .ro (.flts .f32 bz) bz.length 1), (3, .ptr 0 0 0), (9, .flt .f32 (wg.gi c xs az bz i ((List.range c).drop k) a)), (10, .flt .f32 (wg.gi c ys az bz i ((List.range c).drop k) b)), (21, .ro (.flts .f32 az) az.length 1), (22, .int .i64 az.length), (23, .int .i64 ((i + 1 : Nat) : Int))] [⟨.cells [.int .i64 r, .int .i64 c, .ro (.ints .i64 xs) xs.length 1, .ro (.ints .i64 ys) ys.length 1], 0⟩]) := by
  have h36 := gm.le_36 hr.2 hc.2
  intro d
  induction d with
  | zero =>
    intro k n2 a b hk hn
    obtain ⟨n2, rfl⟩ : ∃ k, n2 = k + 1 := ⟨n2 - 1, by omega⟩
    obtain rfl : k = c := by omega
    have e : (List.range k).drop k = [] := List.drop_of_length_le (by simp)
    have wi : IntKind.i64.wrap ((i : Int) + 1) = ((i + 1 : Nat) : Int) := wrap_nat i (by omega)
    have hk0 : ¬ ((k : Int) < (bz.length : Int)) := by omega
    rw [round2, e]
    simp -implicitDefEqProofs only [wg.gi, wi, hk0, Int.lt_irrefl, decide_true, decide_false, Bool.and_self, Bool.or_self, Bool.and_true, Bool.true_and, Bool.and_false, Bool.false_and, Bool.or_true, Bool.true_or, Bool.or_false, Bool.false_or, Bool.not_true, Bool.not_false, cond_true, cond_false]
  | succ d ih =>
    intro k n2 a b hk' hn
    obtain ⟨n2, rfl⟩ : ∃ k, n2 = k + 1 := ⟨n2 - 1, by omega⟩
    have hk : k < c := by omega
    have hlt := gm.ix_lt (R := r) (C := c) hi hk
    have i0 : (0 : Int) ≤ (i : Int) := Int.natCast_nonneg _
    have i1 : (i : Int) ≤ 100 := by omega
    have i2 : (i : Int) < (r : Int) := by omega
    have k0 : (0 : Int) ≤ (k : Int) := Int.natCast_nonneg _
    have k1 : (k : Int) ≤ 100 := by omega
    have k2 : (k : Int) < (c : Int) := by omega
    have em : (i : Int) * (c : Int) = ((i * c : Nat) : Int) := by simp
    have ee : ((i * c : Nat) : Int) + (k : Int) = ((i * c + k : Nat) : Int) := by simp
    have lx : ((i * c + k : Nat) : Int) < (xs.length : Int) := by omega
    have lx2 : i * c + k < xs.length := by omega
    have ly : ((i * c + k : Nat) : Int) < (ys.length : Int) := by omega
    have ly2 : i * c + k < ys.length := by omega
    have p0 : (0 : Int) ≤ ((i * c + k : Nat) : Int) := Int.natCast_nonneg _
    have w1 : IntKind.i64.wrap ((i * c : Nat) : Int) = ((i * c : Nat) : Int) := IntWalk.i64_in _ (by omega)
    have w2 : IntKind.i64.wrap ((i * c + k : Nat) : Int) = ((i * c + k : Nat) : Int) := IntWalk.i64_in _ (by omega)
    have c0 : (0 : Int) ≤ (c : Int) := Int.natCast_nonneg _
    have c1 : (c : Int) ≤ 100 := by omega
    have wk : IntKind.i64.wrap ((k : Int) + 1) = ((k + 1 : Nat) : Int) := wrap_nat k (by omega)
    have wi : IntKind.i64.wrap ((i : Int) + 1) = ((i + 1 : Nat) : Int) := wrap_nat i (by omega)
    have bl : k < bz.length := by omega
    have bl2 : (k : Int) < (bz.length : Int) := by omega
    have al : i < az.length := by omega
    have al2 : (i : Int) < (az.length : Int) := by omega
    have hih := ih (k + 1) n2 (fadd .f32 a (fmul .f32 (fmul .f32 (gn az i) (gn bz k)) (FloatKind.f32.nearest (gz xs (i * c + k))))) (fadd .f32 b (fmul .f32 (fmul .f32 (gn az i) (gn bz k)) (FloatKind.f32.nearest (gz ys (i * c + k))))) (by omega) (by omega)
    rw [round2, wg.drop_range hk]
    simp -implicitDefEqProofs only [wg.gi, bl, bl2, al, al2, em, ee, w1, w2, lx, lx2, ly, ly2, p0, i0, i1, i2, k0, k1, k2, c0, c1, wk, wi, Int.toNat_natCast, and_self, eq_self, decide_true, decide_false, Bool.and_self, Bool.or_self, Bool.and_true, Bool.true_and, Bool.and_false, Bool.false_and, Bool.or_true, Bool.true_or, Bool.or_false, Bool.false_or, Bool.not_true, Bool.not_false, cond_true, cond_false]
    exact hih
theorem outer (r c : Nat) (xs ys : List Int) (az bz : List Nat) (f : Nat) (hr : 1 ≤ r ∧ r ≤ 6) (hc : 1 ≤ c ∧ c ≤ 6) (hx : xs.length = r * c) (hy : ys.length = r * c) (la : az.length = r) (lb : bz.length = c) (hf : c < f) : ∀ (d i n a b : Nat), i + d = r → d < n →
    L1 f n (mkS 65 [(2, .ro (.flts .f32 bz) bz.length 1), (3, .ptr 0 0 0), (9, .flt .f32 a), (10, .flt .f32 b), (21, .ro (.flts .f32 az) az.length 1), (22, .int .i64 az.length), (23, .int .i64 i)] [⟨.cells [.int .i64 r, .int .i64 c, .ro (.ints .i64 xs) xs.length 1, .ro (.ints .i64 ys) ys.length 1], 0⟩]) = bif flo.fin.sp (wg.go c xs az bz ((List.range r).drop i) a) && flo.fin.sp (wg.go c ys az bz ((List.range r).drop i) b) then some (.tup [.flt .f32 (wg.go c xs az bz ((List.range r).drop i) a), .flt .f32 (wg.go c ys az bz ((List.range r).drop i) b), .bool true], []) else some (.tup [.flt .f32 0, .flt .f32 0, .bool false], []) := by
  intro d
  induction d with
  | zero =>
    intro i n a b hi hn
    obtain ⟨n, rfl⟩ : ∃ k, n = k + 1 := ⟨n - 1, by omega⟩
    obtain rfl : i = r := by omega
    have e : (List.range i).drop i = [] := List.drop_of_length_le (by simp)
    have hi0 : ¬ ((i : Int) < (az.length : Int)) := by omega
    have l2 : (2 : Nat) ≤ 4611686018427387904 := by decide
    rw [round1, e]
    simp -implicitDefEqProofs only [wg.go, wg.two, wg.two_len, Nat.le_refl, l2, hi0, Int.lt_irrefl, and_self, decide_true, decide_false, Bool.and_self, Bool.or_self, Bool.and_true, Bool.true_and, Bool.and_false, Bool.false_and, Bool.or_true, Bool.true_or, Bool.or_false, Bool.false_or, Bool.not_true, Bool.not_false, cond_true, cond_false]
    cases flo.fin.sp a <;> cases flo.fin.sp b <;> rfl
  | succ d ih =>
    intro i n a b hi' hn
    obtain ⟨n, rfl⟩ : ∃ k, n = k + 1 := ⟨n - 1, by omega⟩
    have hi : i < r := by omega
    have hi5 : (i : Int) < (r : Int) := by omega
    have i0 : (0 : Int) ≤ (i : Int) := Int.natCast_nonneg _
    have al : i < az.length := by omega
    have al2 : (i : Int) < (az.length : Int) := by omega
    have hin := inner r c xs ys az bz f n i hr hc hx hy la lb hi c 0 f a b (by omega) hf
    rw [List.drop_zero] at hin
    rw [round1, wg.drop_range hi]
    simp -implicitDefEqProofs only [wg.go, hi5, i0, al, al2, Int.toNat_natCast, decide_true, decide_false, Bool.and_self, Bool.or_self, Bool.and_true, Bool.true_and, Bool.and_false, Bool.false_and, Bool.or_true, Bool.true_or, Bool.or_false, Bool.false_or, Bool.not_true, Bool.not_false, cond_true, cond_false]
    exact hin.trans (ih (i + 1) n _ _ (by omega) (by omega))
theorem run : ∀ args v new, R args = some (true, v, new) → ∃ fuel, runFn Try.prog (orc [⟨51, chancesFor.R⟩, ⟨52, gA.R⟩, ⟨53, gB.R⟩, ⟨54, areFinite.R⟩]) hd Dr.std (some 0) fuel (bodyOf Try.f19) 65 [6, 7, 8] args [] = some (v, new) := by
  intro args v new h
  unfold R at h
  split at h
  · rename_i r c xs ma ys mb az mc bz md
    simp only [Option.some.injEq, Prod.mk.injEq, Bool.and_eq_true, decide_eq_true_eq, Bool.not_eq_true'] at h
    obtain ⟨⟨rfl, rfl, h3, h4, rfl, h6, rfl, h8⟩, rfl, rfl⟩ := h
    obtain ⟨F, hF⟩ : ∃ F : Nat, F = 100 := ⟨100, rfl⟩
    refine ⟨F, ?_⟩
    rw [start]
    cases hg : wg.ch.sp r c xs ys az bz
    · have ho : wg.gok.sp r c xs ys az bz = false := by simp [wg.gok.sp, hg]
      simp only [wg.ga.sv, wg.gb.sv, ho, cond_false]
      simp -implicitDefEqProofs only [h3, h4, h6, h8, hg, and_self, eq_self, decide_true, decide_false, Bool.and_self, Bool.or_self, Bool.and_true, Bool.true_and, Bool.and_false, Bool.false_and, Bool.or_true, Bool.true_or, Bool.or_false, Bool.false_or, Bool.not_true, Bool.not_false, cond_true, cond_false]
    · obtain ⟨hv, ha, hb⟩ := wg.ch_valid hg
      have hg2 := hg
      unfold wg.ch.sp at hg2
      simp only [Bool.and_eq_true] at hg2
      have ha2 : (decide ((az.length : Int) = r) && az.all flo.least.sp) = true := by rw [Bool.and_eq_true]; exact hg2.2.1
      have hb2 : (decide ((bz.length : Int) = c) && bz.all flo.least.sp) = true := by rw [Bool.and_eq_true]; exact hg2.2.2
      have hv2 := hv
      obtain ⟨r, c, rfl, rfl, hr, hc, hx, hy, vx, vy⟩ := gm.valid hv2
      simp -implicitDefEqProofs only [hg, h3, h4, h6, h8, and_self, eq_self, decide_true, decide_false, Bool.and_self, Bool.or_self, Bool.and_true, Bool.true_and, Bool.and_false, Bool.false_and, Bool.or_true, Bool.true_or, Bool.or_false, Bool.false_or, Bool.not_true, Bool.not_false, cond_true, cond_false]
      have hl := outer r c xs ys az bz F hr hc hx hy (by omega) (by omega) (by omega) r 0 F 0 0 (by omega) (by omega)
      rw [List.drop_zero] at hl
      refine Eq.trans hl ?_
      have eA : wg.go c xs az bz (List.range r) 0 = wg.g.sv r c xs az bz := rfl
      have eB : wg.go c ys az bz (List.range r) 0 = wg.g.sv r c ys az bz := rfl
      unfold wg.ga.sv wg.gb.sv wg.gok.sp
      rw [hg, eA, eB, Int.toNat_natCast, Int.toNat_natCast, Bool.true_and]
      cases (flo.fin.sp (wg.g.sv r c xs az bz) && flo.fin.sp (wg.g.sv r c ys az bz)) <;> rfl
  · cases h
theorem ok : EntOk Try.prog ⟨19, R⟩ :=
  ent_okA mixed (A := (orc [⟨51, chancesFor.R⟩, ⟨52, gA.R⟩, ⟨53, gB.R⟩, ⟨54, areFinite.R⟩])) (orc_ok (by simp only [List.mem_cons, List.not_mem_nil, or_false, forall_eq_or_imp, forall_eq]; exact ⟨chancesFor.ok, gA.ok, gB.ok, areFinite.ok⟩)) Try.func19 (by kernel_rfl) (by kernel_rfl) (n := 65) (ts := [6, 7, 8]) (hd := hd) (dr := Dr.std) (cut := (some 0)) (by kernel_rfl) (by kernel_rfl) (by kernel_rfl) run
end iGainsOf

namespace gGainOf
def R : List AVal → Option (Bool × AVal × List Blk)
  | [.agg [.int .i64 r, .int .i64 c, .ro (.ints .i64 xs) ma 1, .ro (.ints .i64 ys) mb 1], .int .i64 i, .ro (.flts .f32 bz) md 1] => some (decide (ma = xs.length ∧ mb = ys.length ∧ ma ≤ 4611686018427387904 ∧ mb ≤ 4611686018427387904 ∧ md = bz.length ∧ md ≤ 4611686018427387904 ∧ (md : Int) = c ∧ 0 ≤ i ∧ i < r) && gm.sp r c xs ys, .flt .f32 (wg.rs.sv c.toNat xs bz i.toNat), [])
  | _ => none
def hd : Nat → Head := fun _ => ⟨[1, 3, 7, 10, 11, 12], some 1⟩
noncomputable def L (f n : Nat) (s : State) := loopAt Try.prog (orc [⟨52, gA.R⟩]) hd Dr.std 0 f (bodyOf Try.f49) 0 [true, true, false, true] (retK Try.prog [6] 0 (some 0)) n s
theorem start (r c : Nat) (xs ys : List Int) (bz : List Nat) (i f : Nat) :
  runFn Try.prog (orc [⟨52, gA.R⟩]) hd Dr.std (some 0) f (bodyOf Try.f49) 28 [6] [.agg [.int .i64 r, .int .i64 c, .ro (.ints .i64 xs) xs.length 1, .ro (.ints .i64 ys) ys.length 1], .int .i64 i, .ro (.flts .f32 bz) bz.length 1] []
  = (L f f (mkS (28 : Nat) [((1 : Nat), AVal.int IntKind.i64 (↑i : Int)), ((3 : Nat), AVal.ptr (0 : Nat) (0 : Nat) (0 : Nat)), ((7 : Nat), AVal.flt FloatKind.f32 (0 : Nat)), ((10 : Nat), AVal.ro (Cont.flts FloatKind.f32 bz) bz.length (1 : Nat)), ((11 : Nat), AVal.int IntKind.i64 (↑bz.length : Int)), ((12 : Nat), AVal.int IntKind.i64 (0 : Int))] [{ c := BC.cells [AVal.int IntKind.i64 (↑r : Int), AVal.int IntKind.i64 (↑c : Int), AVal.ro (Cont.ints IntKind.i64 xs) xs.length (1 : Nat), AVal.ro (Cont.ints IntKind.i64 ys) ys.length (1 : Nat)], ver := (0 : Nat) }])) := by kernel_rfl
theorem round (r c : Nat) (xs ys : List Int) (bz : List Nat) (s i k f n : Nat) :
  L f (n + 1) (mkS 28 [(1, .int .i64 i), (3, .ptr 0 0 0), (7, .flt .f32 s), (10, .ro (.flts .f32 bz) bz.length 1), (11, .int .i64 bz.length), (12, .int .i64 k)] [⟨.cells [.int .i64 r, .int .i64 c, .ro (.ints .i64 xs) xs.length 1, .ro (.ints .i64 ys) ys.length 1], 0⟩])
  = (bif decide ((↑k : Int) < (↑bz.length : Int)) then bif true && (decide ((0 : Int) ≤ (↑k : Int)) && decide ((↑k : Int) < (↑bz.length : Int))) then bif decide ((↑k : Int).toNat < bz.length) then bif true && true && (true && true && (true && true && (true && true && true))) then bif decide (xs.length = xs.length ∧ ys.length = ys.length ∧ (0 : Int) ≤ (↑i : Int) ∧ (0 : Int) ≤ (↑k : Int) ∧ (↑i : Int) ≤ (100 : Int) ∧ (↑k : Int) ≤ (100 : Int) ∧ (0 : Int) ≤ (↑c : Int) ∧ (↑c : Int) ≤ (100 : Int) ∧ (↑i : Int) * (↑c : Int) + (↑k : Int) < (↑xs.length : Int)) && (true && (true && (true && (true && true))) && (true && (true && true)) || true && true) then L f n (mkS (28 : Nat) [((1 : Nat), AVal.int IntKind.i64 (↑i : Int)), ((3 : Nat), AVal.ptr (0 : Nat) (0 : Nat) (0 : Nat)), ((7 : Nat), AVal.flt FloatKind.f32 (fadd FloatKind.f32 s (fmul FloatKind.f32 (gn bz (↑k : Int).toNat) (FloatKind.f32.nearest (gz xs ((↑i : Int) * (↑c : Int) + (↑k : Int)).toNat))))), ((10 : Nat), AVal.ro (Cont.flts FloatKind.f32 bz) bz.length (1 : Nat)), ((11 : Nat), AVal.int IntKind.i64 (↑bz.length : Int)), ((12 : Nat), AVal.int IntKind.i64 (IntKind.i64.wrap ((↑k : Int) + (1 : Int))))] [{ c := BC.cells [AVal.int IntKind.i64 (↑r : Int), AVal.int IntKind.i64 (↑c : Int), AVal.ro (Cont.ints IntKind.i64 xs) xs.length (1 : Nat), AVal.ro (Cont.ints IntKind.i64 ys) ys.length (1 : Nat)], ver := (0 : Nat) }]) else none else none else none else none else some (AVal.flt FloatKind.f32 s, [])) := by kernel_rfl
theorem loop (r c : Nat) (xs ys : List Int) (bz : List Nat) (f i : Nat) (hr : 1 ≤ r ∧ r ≤ 6) (hc : 1 ≤ c ∧ c ≤ 6) (hx : xs.length = r * c) (hy : ys.length = r * c) (lb : bz.length = c) (hi : i < r) : ∀ (d k n s : Nat), k + d = c → d < n →
    L f n (mkS 28 [(1, .int .i64 i), (3, .ptr 0 0 0), (7, .flt .f32 s), (10, .ro (.flts .f32 bz) bz.length 1), (11, .int .i64 bz.length), (12, .int .i64 k)] [⟨.cells [.int .i64 r, .int .i64 c, .ro (.ints .i64 xs) xs.length 1, .ro (.ints .i64 ys) ys.length 1], 0⟩]) = some (.flt .f32 (wg.fs (wg.row c xs i) bz ((List.range c).drop k) s), []) := by
  have h36 := gm.le_36 hr.2 hc.2
  intro d
  induction d with
  | zero =>
    intro k n s hk hn
    obtain ⟨n, rfl⟩ : ∃ k, n = k + 1 := ⟨n - 1, by omega⟩
    obtain rfl : k = c := by omega
    have e : (List.range k).drop k = [] := List.drop_of_length_le (by simp)
    have hk0 : ¬ ((k : Int) < (bz.length : Int)) := by omega
    rw [round, e]
    simp -implicitDefEqProofs only [wg.fs, hk0, decide_true, decide_false, Bool.and_self, Bool.or_self, Bool.and_true, Bool.true_and, Bool.and_false, Bool.false_and, Bool.or_true, Bool.true_or, Bool.or_false, Bool.false_or, Bool.not_true, Bool.not_false, cond_true, cond_false]
  | succ d ih =>
    intro k n s hk' hn
    obtain ⟨n, rfl⟩ : ∃ k, n = k + 1 := ⟨n - 1, by omega⟩
    have hk : k < c := by omega
    have hlt := gm.ix_lt (R := r) (C := c) hi hk
    have i0 : (0 : Int) ≤ (i : Int) := Int.natCast_nonneg _
    have i1 : (i : Int) ≤ 100 := by omega
    have i2 : (i : Int) < (r : Int) := by omega
    have k0 : (0 : Int) ≤ (k : Int) := Int.natCast_nonneg _
    have k1 : (k : Int) ≤ 100 := by omega
    have k2 : (k : Int) < (c : Int) := by omega
    have em : (i : Int) * (c : Int) = ((i * c : Nat) : Int) := by simp
    have ee : ((i * c : Nat) : Int) + (k : Int) = ((i * c + k : Nat) : Int) := by simp
    have lx : ((i * c + k : Nat) : Int) < (xs.length : Int) := by omega
    have lx2 : i * c + k < xs.length := by omega
    have ly : ((i * c + k : Nat) : Int) < (ys.length : Int) := by omega
    have ly2 : i * c + k < ys.length := by omega
    have p0 : (0 : Int) ≤ ((i * c + k : Nat) : Int) := Int.natCast_nonneg _
    have w1 : IntKind.i64.wrap ((i * c : Nat) : Int) = ((i * c : Nat) : Int) := IntWalk.i64_in _ (by omega)
    have w2 : IntKind.i64.wrap ((i * c + k : Nat) : Int) = ((i * c + k : Nat) : Int) := IntWalk.i64_in _ (by omega)
    have c0 : (0 : Int) ≤ (c : Int) := Int.natCast_nonneg _
    have c1 : (c : Int) ≤ 100 := by omega
    have wk : IntKind.i64.wrap ((k : Int) + 1) = ((k + 1 : Nat) : Int) := wrap_nat k (by omega)
    have wi : IntKind.i64.wrap ((i : Int) + 1) = ((i + 1 : Nat) : Int) := wrap_nat i (by omega)
    have bl : k < bz.length := by omega
    have bl2 : (k : Int) < (bz.length : Int) := by omega
    have hih := ih (k + 1) n (fadd .f32 s (fmul .f32 (gn bz k) (FloatKind.f32.nearest (gz xs (i * c + k))))) (by omega) (by omega)
    have hw : wg.row c xs i k = gz xs (i * c + k) := rfl
    rw [round, wg.drop_range hk]
    simp -implicitDefEqProofs only [wg.fs, hw, bl, bl2, em, ee, w1, w2, lx, lx2, ly, ly2, p0, i0, i1, i2, k0, k1, k2, c0, c1, wk, wi, Int.toNat_natCast, and_self, eq_self, decide_true, decide_false, Bool.and_self, Bool.or_self, Bool.and_true, Bool.true_and, Bool.and_false, Bool.false_and, Bool.or_true, Bool.true_or, Bool.or_false, Bool.false_or, Bool.not_true, Bool.not_false, cond_true, cond_false]
    exact hih
theorem run : ∀ args v new, R args = some (true, v, new) → ∃ fuel, runFn Try.prog (orc [⟨52, gA.R⟩]) hd Dr.std (some 0) fuel (bodyOf Try.f49) 28 [6] args [] = some (v, new) := by
  intro args v new h
  unfold R at h
  split at h
  · rename_i r c xs ma ys mb i bz md
    simp only [Option.some.injEq, Prod.mk.injEq, Bool.and_eq_true, decide_eq_true_eq, Bool.not_eq_true'] at h
    obtain ⟨⟨⟨rfl, rfl, h3, h4, rfl, h6, hb, hi0, hi1⟩, hv⟩, rfl, rfl⟩ := h
    obtain ⟨r, c, rfl, rfl, hr, hc, hx, hy, vx, vy⟩ := gm.valid hv
    obtain ⟨i, rfl⟩ : ∃ q : Nat, i = q := ⟨i.toNat, by omega⟩
    obtain ⟨F, hF⟩ : ∃ F : Nat, F = 100 := ⟨100, rfl⟩
    refine ⟨F, ?_⟩
    rw [start]
    have hl := loop r c xs ys bz F i hr hc hx hy (by omega) (by omega) c 0 F 0 (by omega) (by omega)
    rw [List.drop_zero] at hl
    exact hl
  · cases h
theorem ok : EntOk Try.prog ⟨49, R⟩ :=
  ent_okA mixed (A := (orc [⟨52, gA.R⟩])) (orc_ok (by simp only [List.mem_cons, List.not_mem_nil, or_false, forall_eq_or_imp, forall_eq]; exact gA.ok)) Try.func49 (by kernel_rfl) (by kernel_rfl) (n := 28) (ts := [6]) (hd := hd) (dr := Dr.std) (cut := (some 0)) (by kernel_rfl) (by kernel_rfl) (by kernel_rfl) run
end gGainOf

namespace look
def R : List AVal → Heap → Option (Bool × AVal × Heap)
  | [.agg [.int .i64 r, .int .i64 c, .ro (.ints .i64 xs) ma 1, .ro (.ints .i64 ys) mb 1], .ro (.flts .f32 bz) md 1, .flt .f32 g, .ptr 0 0 0, .ptr 1 0 0], [⟨.cells [.bool ok], 0⟩, ⟨.cells [.flt .f32 m], 0⟩] => some (decide (ma = xs.length ∧ mb = ys.length ∧ ma ≤ 4611686018427387904 ∧ mb ≤ 4611686018427387904 ∧ md = bz.length ∧ md ≤ 4611686018427387904 ∧ (md : Int) = c) && gm.sp r c xs ys, .tup [], [⟨.cells [.bool (ok && wg.fin.sp (wg.FR c.toNat xs bz g) r.toNat)], 0⟩, ⟨.cells [.flt .f32 (wg.mst.sv (wg.FR c.toNat xs bz g) r.toNat m)], 0⟩])
  | _, _ => none
def hd : Nat → Head := fun _ => ⟨[1, 2, 3, 4, 5, 11, 12], some 1⟩
noncomputable def L (f n : Nat) (s : State) := loopAt Try.prog (orc [⟨49, gGainOf.R⟩, ⟨50, iIsFinite.R⟩]) hd Dr.std 2 f (bodyOf Try.f48) 0 [true, true] (retK Try.prog [] 2 (some 0)) n s
theorem start (r c : Nat) (xs ys : List Int) (bz : List Nat) (g m : Nat) (ok : Bool) (f : Nat) :
  runFn Try.prog (orc [⟨49, gGainOf.R⟩, ⟨50, iIsFinite.R⟩]) hd Dr.std (some 0) f (bodyOf Try.f48) 29 [] [.agg [.int .i64 r, .int .i64 c, .ro (.ints .i64 xs) xs.length 1, .ro (.ints .i64 ys) ys.length 1], .ro (.flts .f32 bz) bz.length 1, .flt .f32 g, .ptr 0 0 0, .ptr 1 0 0] [⟨.cells [.bool ok], 0⟩, ⟨.cells [.flt .f32 m], 0⟩]
  = (bif true && (true && true) then bif true && true then L f f (mkS (29 : Nat) [((1 : Nat), AVal.ro (Cont.flts FloatKind.f32 bz) bz.length (1 : Nat)), ((2 : Nat), AVal.flt FloatKind.f32 g), ((3 : Nat), AVal.ptr (0 : Nat) (0 : Nat) (0 : Nat)), ((4 : Nat), AVal.ptr (1 : Nat) (0 : Nat) (0 : Nat)), ((5 : Nat), AVal.ptr ((1 : Nat) + (1 : Nat)) (0 : Nat) (0 : Nat)), ((11 : Nat), AVal.int IntKind.i64 (↑r : Int)), ((12 : Nat), AVal.int IntKind.i64 (0 : Int))] [{ c := BC.cells [AVal.bool ok], ver := (0 : Nat) }, { c := BC.cells [AVal.flt FloatKind.f32 m], ver := (0 : Nat) }, { c := BC.cells [AVal.int IntKind.i64 (↑r : Int), AVal.int IntKind.i64 (↑c : Int), AVal.ro (Cont.ints IntKind.i64 xs) xs.length (1 : Nat), AVal.ro (Cont.ints IntKind.i64 ys) ys.length (1 : Nat)], ver := (0 : Nat) }]) else none else none) := by kernel_rfl
theorem round (r c : Nat) (xs ys : List Int) (bz : List Nat) (g m : Nat) (ok : Bool) (i f n : Nat) :
  L f (n + 1) (mkS 29 [(1, .ro (.flts .f32 bz) bz.length 1), (2, .flt .f32 g), (3, .ptr 0 0 0), (4, .ptr 1 0 0), (5, .ptr 2 0 0), (11, .int .i64 r), (12, .int .i64 i)] [⟨.cells [.bool ok], 0⟩, ⟨.cells [.flt .f32 m], 0⟩, ⟨.cells [.int .i64 r, .int .i64 c, .ro (.ints .i64 xs) xs.length 1, .ro (.ints .i64 ys) ys.length 1], 0⟩])
  = (bif decide ((↑i : Int) < (↑r : Int)) then bif true && true && (true && true && (true && true && (true && true && true))) then bif decide (xs.length = xs.length ∧ ys.length = ys.length ∧ xs.length ≤ (4611686018427387904 : Nat) ∧ ys.length ≤ (4611686018427387904 : Nat) ∧ bz.length = bz.length ∧ bz.length ≤ (4611686018427387904 : Nat) ∧ (↑bz.length : Int) = (↑c : Int) ∧ (0 : Int) ≤ (↑i : Int) ∧ (↑i : Int) < (↑r : Int)) && gm.sp (↑r : Int) (↑c : Int) xs ys && (true && (true && (true && (true && true))) && (true && (true && true)) || true && true) then bif true && (true && true || true && true) then bif !flo.fin.sp (fsub FloatKind.f32 (wg.rs.sv (↑c : Int).toNat xs bz (↑i : Int).toNat) g) then bif true && true then bif FloatKind.f32.format.order (fsub FloatKind.f32 (wg.rs.sv (↑c : Int).toNat xs bz (↑i : Int).toNat) g) m == some Ordering.gt then L f n (mkS (29 : Nat) [((1 : Nat), AVal.ro (Cont.flts FloatKind.f32 bz) bz.length (1 : Nat)), ((2 : Nat), AVal.flt FloatKind.f32 g), ((3 : Nat), AVal.ptr (0 : Nat) (0 : Nat) (0 : Nat)), ((4 : Nat), AVal.ptr (1 : Nat) (0 : Nat) (0 : Nat)), ((5 : Nat), AVal.ptr (2 : Nat) (0 : Nat) (0 : Nat)), ((11 : Nat), AVal.int IntKind.i64 (↑r : Int)), ((12 : Nat), AVal.int IntKind.i64 (IntKind.i64.wrap ((↑i : Int) + (1 : Int))))] [{ c := BC.cells [AVal.bool false], ver := (0 : Nat) }, { c := BC.cells [AVal.flt FloatKind.f32 (fsub FloatKind.f32 (wg.rs.sv (↑c : Int).toNat xs bz (↑i : Int).toNat) g)], ver := (0 : Nat) }, { c := BC.cells [AVal.int IntKind.i64 (↑r : Int), AVal.int IntKind.i64 (↑c : Int), AVal.ro (Cont.ints IntKind.i64 xs) xs.length (1 : Nat), AVal.ro (Cont.ints IntKind.i64 ys) ys.length (1 : Nat)], ver := (0 : Nat) }]) else L f n (mkS (29 : Nat) [((1 : Nat), AVal.ro (Cont.flts FloatKind.f32 bz) bz.length (1 : Nat)), ((2 : Nat), AVal.flt FloatKind.f32 g), ((3 : Nat), AVal.ptr (0 : Nat) (0 : Nat) (0 : Nat)), ((4 : Nat), AVal.ptr (1 : Nat) (0 : Nat) (0 : Nat)), ((5 : Nat), AVal.ptr (2 : Nat) (0 : Nat) (0 : Nat)), ((11 : Nat), AVal.int IntKind.i64 (↑r : Int)), ((12 : Nat), AVal.int IntKind.i64 (IntKind.i64.wrap ((↑i : Int) + (1 : Int))))] [{ c := BC.cells [AVal.bool false], ver := (0 : Nat) }, { c := BC.cells [AVal.flt FloatKind.f32 m], ver := (0 : Nat) }, { c := BC.cells [AVal.int IntKind.i64 (↑r : Int), AVal.int IntKind.i64 (↑c : Int), AVal.ro (Cont.ints IntKind.i64 xs) xs.length (1 : Nat), AVal.ro (Cont.ints IntKind.i64 ys) ys.length (1 : Nat)], ver := (0 : Nat) }]) else none else bif true && true then bif FloatKind.f32.format.order (fsub FloatKind.f32 (wg.rs.sv (↑c : Int).toNat xs bz (↑i : Int).toNat) g) m == some Ordering.gt then L f n (mkS (29 : Nat) [((1 : Nat), AVal.ro (Cont.flts FloatKind.f32 bz) bz.length (1 : Nat)), ((2 : Nat), AVal.flt FloatKind.f32 g), ((3 : Nat), AVal.ptr (0 : Nat) (0 : Nat) (0 : Nat)), ((4 : Nat), AVal.ptr (1 : Nat) (0 : Nat) (0 : Nat)), ((5 : Nat), AVal.ptr (2 : Nat) (0 : Nat) (0 : Nat)), ((11 : Nat), AVal.int IntKind.i64 (↑r : Int)), ((12 : Nat), AVal.int IntKind.i64 (IntKind.i64.wrap ((↑i : Int) + (1 : Int))))] [{ c := BC.cells [AVal.bool ok], ver := (0 : Nat) }, { c := BC.cells [AVal.flt FloatKind.f32 (fsub FloatKind.f32 (wg.rs.sv (↑c : Int).toNat xs bz (↑i : Int).toNat) g)], ver := (0 : Nat) }, { c := BC.cells [AVal.int IntKind.i64 (↑r : Int), AVal.int IntKind.i64 (↑c : Int), AVal.ro (Cont.ints IntKind.i64 xs) xs.length (1 : Nat), AVal.ro (Cont.ints IntKind.i64 ys) ys.length (1 : Nat)], ver := (0 : Nat) }]) else L f n (mkS (29 : Nat) [((1 : Nat), AVal.ro (Cont.flts FloatKind.f32 bz) bz.length (1 : Nat)), ((2 : Nat), AVal.flt FloatKind.f32 g), ((3 : Nat), AVal.ptr (0 : Nat) (0 : Nat) (0 : Nat)), ((4 : Nat), AVal.ptr (1 : Nat) (0 : Nat) (0 : Nat)), ((5 : Nat), AVal.ptr (2 : Nat) (0 : Nat) (0 : Nat)), ((11 : Nat), AVal.int IntKind.i64 (↑r : Int)), ((12 : Nat), AVal.int IntKind.i64 (IntKind.i64.wrap ((↑i : Int) + (1 : Int))))] [{ c := BC.cells [AVal.bool ok], ver := (0 : Nat) }, { c := BC.cells [AVal.flt FloatKind.f32 m], ver := (0 : Nat) }, { c := BC.cells [AVal.int IntKind.i64 (↑r : Int), AVal.int IntKind.i64 (↑c : Int), AVal.ro (Cont.ints IntKind.i64 xs) xs.length (1 : Nat), AVal.ro (Cont.ints IntKind.i64 ys) ys.length (1 : Nat)], ver := (0 : Nat) }]) else none else none else none else none else some (AVal.tup [], [{ c := BC.cells [AVal.bool ok], ver := (0 : Nat) }, { c := BC.cells [AVal.flt FloatKind.f32 m], ver := (0 : Nat) }])) := by kernel_rfl
theorem loop (r c : Nat) (xs ys : List Int) (bz : List Nat) (g f : Nat) (hv : gm.sp r c xs ys = true) (hr : 1 ≤ r ∧ r ≤ 6) (hc : 1 ≤ c ∧ c ≤ 6) (hx : xs.length = r * c) (hy : ys.length = r * c) (lb : bz.length = c) : ∀ (d i n m : Nat) (ok : Bool), i + d = r → d < n →
    L f n (mkS 29 [(1, .ro (.flts .f32 bz) bz.length 1), (2, .flt .f32 g), (3, .ptr 0 0 0), (4, .ptr 1 0 0), (5, .ptr 2 0 0), (11, .int .i64 r), (12, .int .i64 i)] [⟨.cells [.bool ok], 0⟩, ⟨.cells [.flt .f32 m], 0⟩, ⟨.cells [.int .i64 r, .int .i64 c, .ro (.ints .i64 xs) xs.length 1, .ro (.ints .i64 ys) ys.length 1], 0⟩]) = some (.tup [], [⟨.cells [.bool (ok && wg.fins (wg.FR c xs bz g) ((List.range r).drop i))], 0⟩, ⟨.cells [.flt .f32 (wg.most (wg.FR c xs bz g) ((List.range r).drop i) m)], 0⟩]) := by
  have h36 := gm.le_36 hr.2 hc.2
  intro d
  induction d with
  | zero =>
    intro i n m ok hi hn
    obtain ⟨n, rfl⟩ : ∃ k, n = k + 1 := ⟨n - 1, by omega⟩
    obtain rfl : i = r := by omega
    have e : (List.range i).drop i = [] := List.drop_of_length_le (by simp)
    have e2 : wg.fins (wg.FR c xs bz g) [] = true := rfl
    rw [round, e]
    simp -implicitDefEqProofs only [wg.most, e2, Int.lt_irrefl, decide_true, decide_false, Bool.and_self, Bool.or_self, Bool.and_true, Bool.true_and, Bool.and_false, Bool.false_and, Bool.or_true, Bool.true_or, Bool.or_false, Bool.false_or, Bool.not_true, Bool.not_false, cond_true, cond_false]
  | succ d ih =>
    intro i n m ok hi' hn
    obtain ⟨n, rfl⟩ : ∃ k, n = k + 1 := ⟨n - 1, by omega⟩
    have hi : i < r := by omega
    have hi5 : (i : Int) < (r : Int) := by omega
    have i0 : (0 : Int) ≤ (i : Int) := Int.natCast_nonneg _
    have wi : IntKind.i64.wrap ((i : Int) + 1) = ((i + 1 : Nat) : Int) := wrap_nat i (by omega)
    have q1 : xs.length ≤ 4611686018427387904 := by omega
    have q2 : ys.length ≤ 4611686018427387904 := by omega
    have q3 : bz.length ≤ 4611686018427387904 := by omega
    have q4 : (bz.length : Int) = (c : Int) := by omega
    have hF : fsub .f32 (wg.rs.sv c xs bz i) g = wg.FR c xs bz g i := rfl
    have hG : (FloatKind.f32.format.order (wg.FR c xs bz g i) m == some Ordering.gt) = wg.gt.sp (wg.FR c xs bz g i) m := rfl
    have hT := ih (i + 1) n m ok (by omega) (by omega)
    have hTf := ih (i + 1) n m false (by omega) (by omega)
    have hM := ih (i + 1) n (wg.FR c xs bz g i) ok (by omega) (by omega)
    have hMf := ih (i + 1) n (wg.FR c xs bz g i) false (by omega) (by omega)
    rw [Bool.false_and] at hTf hMf
    rw [round, wg.drop_range hi]
    simp -implicitDefEqProofs only [wg.fins_cons, wg.most, hF, hG, hv, hi5, i0, q1, q2, q3, q4, wi, Int.toNat_natCast, and_self, eq_self, decide_true, decide_false, Bool.and_self, Bool.or_self, Bool.and_true, Bool.true_and, Bool.and_false, Bool.false_and, Bool.or_true, Bool.true_or, Bool.or_false, Bool.false_or, Bool.not_true, Bool.not_false, cond_true, cond_false]
    generalize hb1 : wg.gt.sp (wg.FR c xs bz g i) m = b1
    cases hf : flo.fin.sp (wg.FR c xs bz g i) <;> cases b1 <;> simp -implicitDefEqProofs only [decide_true, decide_false, Bool.and_self, Bool.or_self, Bool.and_true, Bool.true_and, Bool.and_false, Bool.false_and, Bool.or_true, Bool.true_or, Bool.or_false, Bool.false_or, Bool.not_true, Bool.not_false, cond_true, cond_false]
    · exact hTf
    · exact hMf
    · exact hT
    · exact hM
theorem run : ∀ args H v new, R args H = some (true, v, new) → ∃ fuel, runFn Try.prog (orc [⟨49, gGainOf.R⟩, ⟨50, iIsFinite.R⟩]) hd Dr.std (some 0) fuel (bodyOf Try.f48) 29 [] args H = some (v, new) := by
  intro args H v new h
  unfold R at h
  split at h
  · rename_i r c xs ma ys mb bz md g ok m
    simp only [Option.some.injEq, Prod.mk.injEq, Bool.and_eq_true, decide_eq_true_eq, Bool.not_eq_true'] at h
    obtain ⟨⟨⟨rfl, rfl, h3, h4, rfl, h6, hb⟩, hv⟩, rfl, rfl⟩ := h
    have hv2 := hv
    obtain ⟨r, c, rfl, rfl, hr, hc, hx, hy, vx, vy⟩ := gm.valid hv2
    obtain ⟨F, hF⟩ : ∃ F : Nat, F = 100 := ⟨100, rfl⟩
    refine ⟨F, ?_⟩
    rw [start]
    have hl := loop r c xs ys bz g F hv hr hc hx hy (by omega) r 0 F m ok (by omega) (by omega)
    rw [List.drop_zero] at hl
    simp -implicitDefEqProofs only [decide_true, decide_false, Bool.and_self, Bool.or_self, Bool.and_true, Bool.true_and, Bool.and_false, Bool.false_and, Bool.or_true, Bool.true_or, Bool.or_false, Bool.false_or, Bool.not_true, Bool.not_false, cond_true, cond_false]
    exact hl
  · cases h
theorem ok : EntWOk Try.prog ⟨48, R⟩ :=
  entw_ok mixed (A := (orc [⟨49, gGainOf.R⟩, ⟨50, iIsFinite.R⟩])) (orc_ok (by simp only [List.mem_cons, List.not_mem_nil, or_false, forall_eq_or_imp, forall_eq]; exact ⟨gGainOf.ok, iIsFinite.ok⟩)) Try.func48 (by kernel_rfl) (by kernel_rfl) (n := 29) (ts := []) (hd := hd) (dr := Dr.std) (cut := (some 0)) (by kernel_rfl) (by kernel_rfl) (by kernel_rfl) run
end look

namespace turnedL
def R := layR gTurned.R
theorem ok : EntOk Try.prog ⟨44, R⟩ := gTurned.ok.lay
end turnedL

end Go.Proofs.Ytgblgofmdhekiaa.Ab
