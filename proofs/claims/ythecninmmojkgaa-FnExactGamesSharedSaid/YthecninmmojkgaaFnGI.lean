/-
  Functions: pure equilibria.
-/
import Derived.Test.YthecninmmojkgaaFnGF
namespace Go.Proofs.Ythecninmmojkgaa.Ab
open Go
set_option linter.unusedVariables false
set_option linter.unusedSimpArgs false
set_option maxRecDepth 100000

namespace pu
/-- Has a list a number? -/
def h.sp (l : List Int) (x : Int) : Bool := l.any fun y => y == x
theorem h_eq (l : List Int) (x : Int) : (l.any fun y => x == y) = pu.h.sp l x := by
  unfold pu.h.sp
  congr 1
  funext y
  rw [Bool.eq_iff_iff]; simp only [beq_iff_eq]; exact eq_comm
/-- Does nobody gain by another choice? -/
def p.sp (r c : Nat) (xs ys : List Int) (i k : Nat) : Bool := pu.h.sp (br.sv r c xs k) (i : Int) && pu.h.sp (br.sv c r (tn.sv r c ys) i) (k : Int)
def row (r c : Nat) (xs ys : List Int) (i n : Nat) : List Int := ((List.range n).filter (pu.p.sp r c xs ys i)).map fun (k : Nat) => ((i * c + k : Nat) : Int)
def pre (r c : Nat) (xs ys : List Int) (i k : Nat) : List Int := ((List.range i).flatMap fun i => row r c xs ys i c) ++ row r c xs ys i k
def sv (r c : Nat) (xs ys : List Int) : List Int := pre r c xs ys r 0
theorem pre_succ (r c : Nat) (xs ys : List Int) (i k : Nat) : pre r c xs ys i (k + 1) = pre r c xs ys i k ++ (bif pu.p.sp r c xs ys i k then [((i * c + k : Nat) : Int)] else []) := by
  simp only [pre, row, List.range_succ, List.filter_append, List.map_append, List.append_assoc]
  cases h : pu.p.sp r c xs ys i k <;> simp [h]
theorem pre_next (r c : Nat) (xs ys : List Int) (i : Nat) : pre r c xs ys i c = pre r c xs ys (i + 1) 0 := by
  simp [pre, row, List.range_succ]
theorem pre_zero (r c : Nat) (xs ys : List Int) : pre r c xs ys 0 0 = [] := by simp [pre, row]
theorem row_length (r c : Nat) (xs ys : List Int) (i n : Nat) : (row r c xs ys i n).length ≤ n := by
  have := List.length_filter_le (pu.p.sp r c xs ys i) (List.range n)
  simpa [row] using this
theorem pre_length (r c : Nat) (xs ys : List Int) (i k : Nat) : (pre r c xs ys i k).length ≤ i * c + k := by
  induction i generalizing k with
  | zero => have := row_length r c xs ys 0 k; simp [pre]; omega
  | succ i ih =>
    have h1 := ih c
    have h2 := row_length r c xs ys (i + 1) k
    have e : pre r c xs ys (i + 1) k = pre r c xs ys (i + 1) 0 ++ row r c xs ys (i + 1) k := by simp [pre, row]
    rw [pre_next] at h1
    rw [e, List.length_append, Nat.add_mul, Nat.one_mul]
    omega
theorem sv_length (r c : Nat) (xs ys : List Int) : (sv r c xs ys).length ≤ r * c := pre_length r c xs ys r 0
theorem sv_small {r c : Int} {xs ys : List Int} (h : gm.sp r c xs ys = true) : (sv r.toNat c.toNat xs ys).length ≤ 1000000 := by
  obtain ⟨r, c, rfl, rfl, hr, hc, _⟩ := gm.valid h
  have h1 := sv_length r c xs ys
  have h2 := gm.le_36 hr.2 hc.2
  simp only [Int.toNat_natCast]
  omega
end pu

namespace slContains
def R : List AVal → Option (Bool × AVal × List Blk)
  | [.ro (.ints .i64 zs) m 1, .int .i64 v] => some (decide (m ≤ zs.length ∧ m ≤ 4611686018427387904), .bool (pu.h.sp (zs.take m) v), [])
  | _ => none
theorem go (zs : List Int) (m : Nat) (v : Int) :
  runFn Try.prog (orc [⟨75, slIndex.R⟩]) hd0 Dr.std none 0 (bodyOf Try.f58) 9 [4] [.ro (.ints .i64 zs) m 1, .int .i64 v] []
  = (bif decide (m ≤ zs.length ∧ m ≤ (4611686018427387904 : Nat)) && (true && (true && true) || true && true) then some (AVal.bool (decide ((0 : Int) ≤ fidx.sq (fun y => v == y) (List.take m zs) (0 : Nat))), []) else none) := by kernel_rfl
theorem run : ∀ args v new, R args = some (true, v, new) → ∃ fuel, runFn Try.prog (orc [⟨75, slIndex.R⟩]) hd0 Dr.std none fuel (bodyOf Try.f58) 9 [4] args [] = some (v, new) := by
  intro args v new h
  unfold R at h
  split at h
  · rename_i zs m v
    simp only [Option.some.injEq, Prod.mk.injEq, decide_eq_true_eq] at h
    obtain ⟨⟨h1, h2⟩, rfl, rfl⟩ := h
    refine ⟨0, ?_⟩
    rw [go]
    simp only [h1, h2, true_and, and_self, fidx_ge, pu.h_eq, decide_true, decide_false, Bool.and_self, Bool.or_self, Bool.and_true, Bool.true_and, Bool.and_false, Bool.false_and, Bool.or_true, Bool.true_or, Bool.or_false, Bool.false_or, Bool.not_true, Bool.not_false, cond_true, cond_false]
  · cases h
theorem ok : EntOk Try.prog ⟨58, R⟩ :=
  ent_okA mixed (A := (orc [⟨75, slIndex.R⟩])) (orc_ok (by simp only [List.mem_cons, List.not_mem_nil, or_false, forall_eq_or_imp, forall_eq]; exact slIndex.ok)) Try.func58 (by kernel_rfl) (by kernel_rfl) (n := 9) (ts := [4]) (hd := hd0) (dr := Dr.std) (cut := none) (by kernel_rfl) (by kernel_rfl) (by kernel_rfl) run
end slContains

namespace l02Has
def R : List AVal → Option (Bool × AVal × List Blk)
  | [.ro (.ints .i64 zs) m 1, .int .i64 v] => some (decide (m ≤ zs.length ∧ m ≤ 4611686018427387904), .bool (pu.h.sp (zs.take m) v), [])
  | _ => none
def hd : Nat → Head := fun _ => ⟨[0, 1, 4, 5], none⟩
noncomputable def L (f n : Nat) (s : State) := loopAt Try.prog (orc []) hd Dr.std 0 f (bodyOf Try.f48) 0 [true, false, true] (retK Try.prog [4] 0 none) n s
theorem start (zs : List Int) (m : Nat) (v : Int) (f : Nat) :
  runFn Try.prog (orc []) hd Dr.std none f (bodyOf Try.f48) 18 [4] [.ro (.ints .i64 zs) m 1, .int .i64 v] []
  = (L f f (mkS (18 : Nat) [((0 : Nat), AVal.ro (Cont.ints IntKind.i64 zs) m (1 : Nat)), ((1 : Nat), AVal.int IntKind.i64 v), ((4 : Nat), AVal.bool false), ((5 : Nat), AVal.int IntKind.i64 (0 : Int))] [])) := by kernel_rfl
theorem round (zs : List Int) (m : Nat) (v : Int) (i f n : Nat) :
  L f (n + 1) (mkS 18 [(0, .ro (.ints .i64 zs) m 1), (1, .int .i64 v), (4, .bool false), (5, .int .i64 i)] [])
  = (bif decide ((↑i : Int) < (↑m : Int)) then bif true && (decide ((0 : Int) ≤ (↑i : Int)) && decide ((↑i : Int) < (↑m : Int))) then bif decide ((↑i : Int).toNat < zs.length) then bif gz zs (↑i : Int).toNat == v then some (AVal.bool true, []) else L f n (mkS (18 : Nat) [((0 : Nat), AVal.ro (Cont.ints IntKind.i64 zs) m (1 : Nat)), ((1 : Nat), AVal.int IntKind.i64 v), ((4 : Nat), AVal.bool false), ((5 : Nat), AVal.int IntKind.i64 (IntKind.i64.wrap ((↑i : Int) + (1 : Int))))] []) else none else none else some (AVal.bool false, [])) := by kernel_rfl
theorem loop (zs : List Int) (m : Nat) (v : Int) (f : Nat) (hx : m ≤ zs.length) (hb : m ≤ 4611686018427387904) : ∀ (d i n : Nat) , i + d = m → d < n →
    L f n (mkS 18 [(0, .ro (.ints .i64 zs) m 1), (1, .int .i64 v), (4, .bool false), (5, .int .i64 i)] []) = some (.bool (pu.h.sp ((zs.take m).drop i) v), []) := by
  intro d
  induction d with
  | zero =>
    intro i n  hi hn 
    obtain ⟨n, rfl⟩ : ∃ k, n = k + 1 := ⟨n - 1, by omega⟩
    obtain rfl : i = m := by omega
    rw [round]
    have e : (zs.take i).drop i = [] := by simp
    rw [e]
    simp [pu.h.sp]
  | succ d ih =>
    intro i n  hi hn 
    obtain ⟨n, rfl⟩ : ∃ k, n = k + 1 := ⟨n - 1, by omega⟩
    have h1 : i < m := by omega
    have h4 : (0 : Int) ≤ (i : Int) := Int.natCast_nonneg _
    have h5 : (i : Int) < (m : Int) := by omega
    have h2 : i < zs.length := by omega
    rw [round]
    have hr := ih (i + 1) n (by omega) (by omega)
    have hc : pu.h.sp ((zs.take m).drop i) v = ((zs[i] == v) || pu.h.sp ((zs.take m).drop (i + 1)) v) := by
      rw [drop_take_cons hx h1]; rfl
    rw [hc]
    simp only [h4, h5, h2, gz_eq h2, Int.toNat_natCast, wrap_nat i (by omega), decide_true, decide_false, Bool.and_self, Bool.or_self, Bool.and_true, Bool.true_and, Bool.and_false, Bool.false_and, Bool.or_true, Bool.true_or, Bool.or_false, Bool.false_or, Bool.not_true, Bool.not_false, cond_true, cond_false]
    rw [hr]
    cases (zs[i] == v) <;> simp
theorem run : ∀ args v new, R args = some (true, v, new) → ∃ fuel, runFn Try.prog (orc []) hd Dr.std none fuel (bodyOf Try.f48) 18 [4] args [] = some (v, new) := by
  intro args v new h
  unfold R at h
  split at h
  · rename_i zs m v
    simp only [Option.some.injEq, Prod.mk.injEq, decide_eq_true_eq] at h
    obtain ⟨⟨h1, h2⟩, rfl, rfl⟩ := h
    refine ⟨m + 1, ?_⟩
    rw [start]
    have hl := loop zs m v (m + 1) h1 h2 m 0 (m + 1) (by omega) (by omega)
    simpa using hl
  · cases h
theorem ok : EntOk Try.prog ⟨48, R⟩ :=
  ent_okA mixed (A := (orc [])) (orc_ok (by simp)) Try.func48 (by kernel_rfl) (by kernel_rfl) (n := 18) (ts := [4]) (hd := hd) (dr := Dr.std) (cut := none) (by kernel_rfl) (by kernel_rfl) (by kernel_rfl) run
end l02Has

namespace gPure
def R : List AVal → Option (Bool × AVal × List Blk)
  | [.agg [.int .i64 r, .int .i64 c, .ro (.ints .i64 xs) ma 1, .ro (.ints .i64 ys) mb 1]] => some (decide (ma = xs.length ∧ mb = ys.length) && gm.sp r c xs ys, .own 0 0 (pu.sv r.toNat c.toNat xs ys).length 0 1, [⟨.typ (.ints .i64 (pu.sv r.toNat c.toNat xs ys)), 0⟩])
  | _ => none
def hd : Nat → Head := fun i => bif eqN i 2 then ⟨[1, 3, 4, 5, 11, 12, 16, 17], some 5⟩ else ⟨[1, 3, 4, 11, 12], some 5⟩
noncomputable def L1 (f n : Nat) (s : State) := loopAt Try.prog (orc [⟨70, gTurned.R⟩, ⟨71, gBestRows.R⟩, ⟨58, slContains.R⟩]) hd Dr.std 0 f (bodyOf Try.f53) 0 [true, true, true, false, true] (retK Try.prog [2] 0 none) n s
noncomputable def L2 (f n n2 : Nat) (s : State) := loopAt Try.prog (orc [⟨70, gTurned.R⟩, ⟨71, gBestRows.R⟩, ⟨58, slContains.R⟩]) hd Dr.std 0 f (bodyAt (bodyOf Try.f53) [true, true, true, false, true]) (curAt (bodyOf Try.f53) 0 [true, true, true, false, true]) [true, true, false, true, true] (iterK (normE 0 (hd (curAt (bodyOf Try.f53) 0 [true, true, true, false, true]))) (L1 f n) (contAt Try.prog (orc [⟨70, gTurned.R⟩, ⟨71, gBestRows.R⟩, ⟨58, slContains.R⟩]) hd Dr.std 0 f (bodyOf Try.f53) 0 [true, true, true, false, true] (retK Try.prog [2] 0 none))) n2 s
theorem start (r c : Nat) (xs ys : List Int) (f : Nat) :
  runFn Try.prog (orc [⟨70, gTurned.R⟩, ⟨71, gBestRows.R⟩, ⟨58, slContains.R⟩]) hd Dr.std none f (bodyOf Try.f53) 44 [2] [.agg [.int .i64 r, .int .i64 c, .ro (.ints .i64 xs) xs.length 1, .ro (.ints .i64 ys) ys.length 1]] []
  = (bif true && true && (true && true && (true && true && (true && true && true))) then bif decide (xs.length = xs.length ∧ ys.length = ys.length) && gm.sp (↑r : Int) (↑c : Int) xs ys && (true && (true && (true && (true && true))) && true || true && (true && (true && (true && true))) && (true && (true && true))) then bif true && true then L1 f f (mkS (44 : Nat) [((1 : Nat), AVal.ptr (0 : Nat) (0 : Nat) (0 : Nat)), ((3 : Nat), AVal.own (1 : Nat) (0 : Nat) (0 : Nat) (0 : Nat) (1 : Nat)), ((4 : Nat), AVal.ptr ((1 : Nat) + (1 : Nat) + (1 : Nat) + (1 : Nat)) (0 : Nat) (0 : Nat)), ((11 : Nat), AVal.int IntKind.i64 (↑r : Int)), ((12 : Nat), AVal.int IntKind.i64 (0 : Int))] [{ c := BC.cells [AVal.int IntKind.i64 (↑r : Int), AVal.int IntKind.i64 (↑c : Int), AVal.ro (Cont.ints IntKind.i64 xs) xs.length (1 : Nat), AVal.ro (Cont.ints IntKind.i64 ys) ys.length (1 : Nat)], ver := (0 : Nat) }, { c := BC.typ (Cont.ints IntKind.i64 (List.replicate (0 : Nat) (0 : Int))), ver := (0 : Nat) }, { c := BC.typ (Cont.ints IntKind.i64 (tn.sv (↑r : Int).toNat (↑c : Int).toNat ys)), ver := (0 : Nat) }, { c := BC.typ (Cont.ints IntKind.i64 (tn.sv (↑r : Int).toNat (↑c : Int).toNat xs)), ver := (0 : Nat) }, { c := BC.cells [AVal.int IntKind.i64 (↑c : Int), AVal.int IntKind.i64 (↑r : Int), AVal.own (2 : Nat) (0 : Nat) ((↑c : Int) * (↑r : Int)).toNat (0 : Nat) (1 : Nat), AVal.own (3 : Nat) (0 : Nat) ((↑c : Int) * (↑r : Int)).toNat (0 : Nat) (1 : Nat)], ver := (0 : Nat) }]) else none else none else none) := by kernel_rfl
theorem round1 (r c : Nat) (xs ys : List Int) (ta tb : List Int) (q : Nat) (zs : List Int) (i f n : Nat) :
  L1 f (n + 1) (mkS 44 [(1, .ptr 0 0 0), (3, .own 1 0 zs.length 0 1), (4, .ptr 4 0 0), (11, .int .i64 r), (12, .int .i64 i)] [⟨.cells [.int .i64 r, .int .i64 c, .ro (.ints .i64 xs) xs.length 1, .ro (.ints .i64 ys) ys.length 1], 0⟩, ⟨.typ (.ints .i64 zs), 0⟩, ⟨.typ (.ints .i64 ta), 0⟩, ⟨.typ (.ints .i64 tb), 0⟩, ⟨.cells [.int .i64 c, .int .i64 r, .own 2 0 q 0 1, .own 3 0 q 0 1], 0⟩])
  = (bif decide ((↑i : Int) < (↑r : Int)) then bif true && true then L2 f n f (mkS (44 : Nat) [((1 : Nat), AVal.ptr (0 : Nat) (0 : Nat) (0 : Nat)), ((3 : Nat), AVal.own (1 : Nat) (0 : Nat) zs.length (0 : Nat) (1 : Nat)), ((4 : Nat), AVal.ptr (4 : Nat) (0 : Nat) (0 : Nat)), ((5 : Nat), AVal.int IntKind.i64 (↑i : Int)), ((11 : Nat), AVal.int IntKind.i64 (↑r : Int)), ((12 : Nat), AVal.int IntKind.i64 (↑i : Int)), ((16 : Nat), AVal.int IntKind.i64 (↑c : Int)), ((17 : Nat), AVal.int IntKind.i64 (0 : Int))] [{ c := BC.cells [AVal.int IntKind.i64 (↑r : Int), AVal.int IntKind.i64 (↑c : Int), AVal.ro (Cont.ints IntKind.i64 xs) xs.length (1 : Nat), AVal.ro (Cont.ints IntKind.i64 ys) ys.length (1 : Nat)], ver := (0 : Nat) }, { c := BC.typ (Cont.ints IntKind.i64 zs), ver := (0 : Nat) }, { c := BC.typ (Cont.ints IntKind.i64 ta), ver := (0 : Nat) }, { c := BC.typ (Cont.ints IntKind.i64 tb), ver := (0 : Nat) }, { c := BC.cells [AVal.int IntKind.i64 (↑c : Int), AVal.int IntKind.i64 (↑r : Int), AVal.own (2 : Nat) (0 : Nat) q (0 : Nat) (1 : Nat), AVal.own (3 : Nat) (0 : Nat) q (0 : Nat) (1 : Nat)], ver := (0 : Nat) }]) else none else some (AVal.own (1 : Nat) (0 : Nat) zs.length (0 : Nat) (1 : Nat), [{ c := BC.cells [AVal.int IntKind.i64 (↑r : Int), AVal.int IntKind.i64 (↑c : Int), AVal.ro (Cont.ints IntKind.i64 xs) xs.length (1 : Nat), AVal.ro (Cont.ints IntKind.i64 ys) ys.length (1 : Nat)], ver := (0 : Nat) }, { c := BC.typ (Cont.ints IntKind.i64 zs), ver := (0 : Nat) }, { c := BC.typ (Cont.ints IntKind.i64 ta), ver := (0 : Nat) }, { c := BC.typ (Cont.ints IntKind.i64 tb), ver := (0 : Nat) }, { c := BC.cells [AVal.int IntKind.i64 (↑c : Int), AVal.int IntKind.i64 (↑r : Int), AVal.own (2 : Nat) (0 : Nat) q (0 : Nat) (1 : Nat), AVal.own (3 : Nat) (0 : Nat) q (0 : Nat) (1 : Nat)], ver := (0 : Nat) }])) := by kernel_rfl
theorem round2 (r c : Nat) (xs ys : List Int) (ta tb : List Int) (q : Nat) (zs : List Int) (i k f n n2 : Nat) :
  L2 f n (n2 + 1) (mkS 44 [(1, .ptr 0 0 0), (3, .own 1 0 zs.length 0 1), (4, .ptr 4 0 0), (5, .int .i64 i), (11, .int .i64 r), (12, .int .i64 i), (16, .int .i64 c), (17, .int .i64 k)] [⟨.cells [.int .i64 r, .int .i64 c, .ro (.ints .i64 xs) xs.length 1, .ro (.ints .i64 ys) ys.length 1], 0⟩, ⟨.typ (.ints .i64 zs), 0⟩, ⟨.typ (.ints .i64 ta), 0⟩, ⟨.typ (.ints .i64 tb), 0⟩, ⟨.cells [.int .i64 c, .int .i64 r, .own 2 0 q 0 1, .own 3 0 q 0 1], 0⟩])
  = (bif decide ((↑k : Int) < (↑c : Int)) then bif true && true && (true && true && (true && true && (true && true && true))) then bif decide (xs.length = xs.length ∧ ys.length = ys.length ∧ (0 : Int) ≤ (↑k : Int) ∧ (↑k : Int) < (↑c : Int)) && gm.sp (↑r : Int) (↑c : Int) xs ys && (true && (true && (true && (true && true))) && (true && true) || true && (true && true)) then bif decide ((br.sv (↑r : Int).toNat (↑c : Int).toNat xs (↑k : Int).toNat).length ≤ (br.sv (↑r : Int).toNat (↑c : Int).toNat xs (↑k : Int).toNat).length ∧ (br.sv (↑r : Int).toNat (↑c : Int).toNat xs (↑k : Int).toNat).length ≤ (4611686018427387904 : Nat)) && (false && (true && true) || true && true) then bif pu.h.sp (List.take (br.sv (↑r : Int).toNat (↑c : Int).toNat xs (↑k : Int).toNat).length (br.sv (↑r : Int).toNat (↑c : Int).toNat xs (↑k : Int).toNat)) (↑i : Int) then bif true && true && (true && true && (true && true && (true && true && true))) then bif decide (q = ta.length ∧ q = tb.length ∧ (0 : Int) ≤ (↑i : Int) ∧ (↑i : Int) < (↑r : Int)) && gm.sp (↑c : Int) (↑r : Int) ta tb && (true && (true && (false && (false && true))) && (true && true) || true && (true && true)) then bif decide ((br.sv (↑c : Int).toNat (↑r : Int).toNat ta (↑i : Int).toNat).length ≤ (br.sv (↑c : Int).toNat (↑r : Int).toNat ta (↑i : Int).toNat).length ∧ (br.sv (↑c : Int).toNat (↑r : Int).toNat ta (↑i : Int).toNat).length ≤ (4611686018427387904 : Nat)) && (false && (true && true) || true && true) then bif pu.h.sp (List.take (br.sv (↑c : Int).toNat (↑r : Int).toNat ta (↑i : Int).toNat).length (br.sv (↑c : Int).toNat (↑r : Int).toNat ta (↑i : Int).toNat)) (↑k : Int) then bif true && true then bif (1 : Nat) == (1 : Nat) && (1 : Nat) == (1 : Nat) && (true && (true && true) && (true && true && (decide (zs.length + (List.take (1 : Nat) (List.drop (0 : Nat) ((List.replicate (1 : Nat) (0 : Int)).set (0 : Nat) (IntKind.i64.wrap (IntKind.i64.wrap ((↑i : Int) * (↑c : Int)) + (↑k : Int)))))).length ≤ (4611686018427387904 : Nat)) && decide ((zs.length + (List.take (1 : Nat) (List.drop (0 : Nat) ((List.replicate (1 : Nat) (0 : Int)).set (0 : Nat) (IntKind.i64.wrap (IntKind.i64.wrap ((↑i : Int) * (↑c : Int)) + (↑k : Int)))))).length) * (8 : Nat) ≤ (140737488355328 : Nat))))) then L2 f n n2 (mkS (44 : Nat) [((1 : Nat), AVal.ptr (0 : Nat) (0 : Nat) (0 : Nat)), ((3 : Nat), AVal.own (1 : Nat) (0 : Nat) (zs.length + (List.take (1 : Nat) (List.drop (0 : Nat) ((List.replicate (1 : Nat) (0 : Int)).set (0 : Nat) (IntKind.i64.wrap (IntKind.i64.wrap ((↑i : Int) * (↑c : Int)) + (↑k : Int)))))).length) (0 : Nat) (1 : Nat)), ((4 : Nat), AVal.ptr (4 : Nat) (0 : Nat) (0 : Nat)), ((5 : Nat), AVal.int IntKind.i64 (↑i : Int)), ((11 : Nat), AVal.int IntKind.i64 (↑r : Int)), ((12 : Nat), AVal.int IntKind.i64 (↑i : Int)), ((16 : Nat), AVal.int IntKind.i64 (↑c : Int)), ((17 : Nat), AVal.int IntKind.i64 (IntKind.i64.wrap ((↑k : Int) + (1 : Int))))] [{ c := BC.cells [AVal.int IntKind.i64 (↑r : Int), AVal.int IntKind.i64 (↑c : Int), AVal.ro (Cont.ints IntKind.i64 xs) xs.length (1 : Nat), AVal.ro (Cont.ints IntKind.i64 ys) ys.length (1 : Nat)], ver := (0 : Nat) }, { c := BC.typ (Cont.ints IntKind.i64 (List.take zs.length zs ++ List.take (1 : Nat) (List.drop (0 : Nat) ((List.replicate (1 : Nat) (0 : Int)).set (0 : Nat) (IntKind.i64.wrap (IntKind.i64.wrap ((↑i : Int) * (↑c : Int)) + (↑k : Int))))))), ver := (0 : Nat) }, { c := BC.typ (Cont.ints IntKind.i64 ta), ver := (0 : Nat) }, { c := BC.typ (Cont.ints IntKind.i64 tb), ver := (0 : Nat) }, { c := BC.cells [AVal.int IntKind.i64 (↑c : Int), AVal.int IntKind.i64 (↑r : Int), AVal.own (2 : Nat) (0 : Nat) q (0 : Nat) (1 : Nat), AVal.own (3 : Nat) (0 : Nat) q (0 : Nat) (1 : Nat)], ver := (0 : Nat) }]) else none else none else L2 f n n2 (mkS (44 : Nat) [((1 : Nat), AVal.ptr (0 : Nat) (0 : Nat) (0 : Nat)), ((3 : Nat), AVal.own (1 : Nat) (0 : Nat) zs.length (0 : Nat) (1 : Nat)), ((4 : Nat), AVal.ptr (4 : Nat) (0 : Nat) (0 : Nat)), ((5 : Nat), AVal.int IntKind.i64 (↑i : Int)), ((11 : Nat), AVal.int IntKind.i64 (↑r : Int)), ((12 : Nat), AVal.int IntKind.i64 (↑i : Int)), ((16 : Nat), AVal.int IntKind.i64 (↑c : Int)), ((17 : Nat), AVal.int IntKind.i64 (IntKind.i64.wrap ((↑k : Int) + (1 : Int))))] [{ c := BC.cells [AVal.int IntKind.i64 (↑r : Int), AVal.int IntKind.i64 (↑c : Int), AVal.ro (Cont.ints IntKind.i64 xs) xs.length (1 : Nat), AVal.ro (Cont.ints IntKind.i64 ys) ys.length (1 : Nat)], ver := (0 : Nat) }, { c := BC.typ (Cont.ints IntKind.i64 zs), ver := (0 : Nat) }, { c := BC.typ (Cont.ints IntKind.i64 ta), ver := (0 : Nat) }, { c := BC.typ (Cont.ints IntKind.i64 tb), ver := (0 : Nat) }, { c := BC.cells [AVal.int IntKind.i64 (↑c : Int), AVal.int IntKind.i64 (↑r : Int), AVal.own (2 : Nat) (0 : Nat) q (0 : Nat) (1 : Nat), AVal.own (3 : Nat) (0 : Nat) q (0 : Nat) (1 : Nat)], ver := (0 : Nat) }]) else none else none else none else L2 f n n2 (mkS (44 : Nat) [((1 : Nat), AVal.ptr (0 : Nat) (0 : Nat) (0 : Nat)), ((3 : Nat), AVal.own (1 : Nat) (0 : Nat) zs.length (0 : Nat) (1 : Nat)), ((4 : Nat), AVal.ptr (4 : Nat) (0 : Nat) (0 : Nat)), ((5 : Nat), AVal.int IntKind.i64 (↑i : Int)), ((11 : Nat), AVal.int IntKind.i64 (↑r : Int)), ((12 : Nat), AVal.int IntKind.i64 (↑i : Int)), ((16 : Nat), AVal.int IntKind.i64 (↑c : Int)), ((17 : Nat), AVal.int IntKind.i64 (IntKind.i64.wrap ((↑k : Int) + (1 : Int))))] [{ c := BC.cells [AVal.int IntKind.i64 (↑r : Int), AVal.int IntKind.i64 (↑c : Int), AVal.ro (Cont.ints IntKind.i64 xs) xs.length (1 : Nat), AVal.ro (Cont.ints IntKind.i64 ys) ys.length (1 : Nat)], ver := (0 : Nat) }, { c := BC.typ (Cont.ints IntKind.i64 zs), ver := (0 : Nat) }, { c := BC.typ (Cont.ints IntKind.i64 ta), ver := (0 : Nat) }, { c := BC.typ (Cont.ints IntKind.i64 tb), ver := (0 : Nat) }, { c := BC.cells [AVal.int IntKind.i64 (↑c : Int), AVal.int IntKind.i64 (↑r : Int), AVal.own (2 : Nat) (0 : Nat) q (0 : Nat) (1 : Nat), AVal.own (3 : Nat) (0 : Nat) q (0 : Nat) (1 : Nat)], ver := (0 : Nat) }]) else none else none else none else L1 f n (mkS (44 : Nat) [((1 : Nat), AVal.ptr (0 : Nat) (0 : Nat) (0 : Nat)), ((3 : Nat), AVal.own (1 : Nat) (0 : Nat) zs.length (0 : Nat) (1 : Nat)), ((4 : Nat), AVal.ptr (4 : Nat) (0 : Nat) (0 : Nat)), ((11 : Nat), AVal.int IntKind.i64 (↑r : Int)), ((12 : Nat), AVal.int IntKind.i64 (IntKind.i64.wrap ((↑i : Int) + (1 : Int))))] [{ c := BC.cells [AVal.int IntKind.i64 (↑r : Int), AVal.int IntKind.i64 (↑c : Int), AVal.ro (Cont.ints IntKind.i64 xs) xs.length (1 : Nat), AVal.ro (Cont.ints IntKind.i64 ys) ys.length (1 : Nat)], ver := (0 : Nat) }, { c := BC.typ (Cont.ints IntKind.i64 zs), ver := (0 : Nat) }, { c := BC.typ (Cont.ints IntKind.i64 ta), ver := (0 : Nat) }, { c := BC.typ (Cont.ints IntKind.i64 tb), ver := (0 : Nat) }, { c := BC.cells [AVal.int IntKind.i64 (↑c : Int), AVal.int IntKind.i64 (↑r : Int), AVal.own (2 : Nat) (0 : Nat) q (0 : Nat) (1 : Nat), AVal.own (3 : Nat) (0 : Nat) q (0 : Nat) (1 : Nat)], ver := (0 : Nat) }])) := by kernel_rfl
theorem inner (r c : Nat) (xs ys : List Int) (f n i : Nat) (hv : gm.sp r c xs ys = true) (hw : gm.sp c r (tn.sv r c ys) (tn.sv r c xs) = true) (hr : 1 ≤ r ∧ r ≤ 6) (hc : 1 ≤ c ∧ c ≤ 6) (hx : xs.length = r * c) (hy : ys.length = r * c) (hi : i < r) : ∀ (d k n2 : Nat), k + d = c → d < n2 →
    L2 f n n2 (mkS 44 [(1, .ptr 0 0 0), (3, .own 1 0 (pu.pre r c xs ys i k).length 0 1), (4, .ptr 4 0 0), (5, .int .i64 i), (11, .int .i64 r), (12, .int .i64 i), (16, .int .i64 c), (17, .int .i64 k)] [⟨.cells [.int .i64 r, .int .i64 c, .ro (.ints .i64 xs) xs.length 1, .ro (.ints .i64 ys) ys.length 1], 0⟩, ⟨.typ (.ints .i64 (pu.pre r c xs ys i k)), 0⟩, ⟨.typ (.ints .i64 (tn.sv r c ys)), 0⟩, ⟨.typ (.ints .i64 (tn.sv r c xs)), 0⟩, ⟨.cells [.int .i64 c, .int .i64 r, .own 2 0 (c * r) 0 1, .own 3 0 (c * r) 0 1], 0⟩]) = L1 f n (mkS 44 [(1, .ptr 0 0 0), (3, .own 1 0 (pu.pre r c xs ys (i + 1) 0).length 0 1), (4, .ptr 4 0 0), (11, .int .i64 r), (12, .int .i64 ((i + 1 : Nat) : Int))] [⟨.cells [.int .i64 r, .int .i64 c, .ro (.ints .i64 xs) xs.length 1, .ro (.ints .i64 ys) ys.length 1], 0⟩, ⟨.typ (.ints .i64 (pu.pre r c xs ys (i + 1) 0)), 0⟩, ⟨.typ (.ints .i64 (tn.sv r c ys)), 0⟩, ⟨.typ (.ints .i64 (tn.sv r c xs)), 0⟩, ⟨.cells [.int .i64 c, .int .i64 r, .own 2 0 (c * r) 0 1, .own 3 0 (c * r) 0 1], 0⟩]) := by
  have t1 : (tn.sv r c ys).length = c * r := tn.sv_length _ _ _
  have t2 : (tn.sv r c xs).length = c * r := tn.sv_length _ _ _
  have t5 : (tn.sv r c ys).take (c * r) = tn.sv r c ys := List.take_of_length_le (by omega)
  have t6 : (tn.sv r c xs).take (c * r) = tn.sv r c xs := List.take_of_length_le (by omega)
  have wi : IntKind.i64.wrap ((i : Int) + 1) = ((i + 1 : Nat) : Int) := wrap_nat i (by omega)
  have i0 : (0 : Int) ≤ (i : Int) := Int.natCast_nonneg _
  have i2 : (i : Int) < (r : Int) := by omega
  have h36 := gm.le_36 hr.2 hc.2
  have h36c := gm.le_36 hc.2 hr.2
  have t4 : c * r ≤ 4611686018427387904 := by omega
  intro d
  induction d with
  | zero =>
    intro k n2 hk hn
    obtain ⟨n2, rfl⟩ : ∃ k, n2 = k + 1 := ⟨n2 - 1, by omega⟩
    obtain rfl : k = c := by omega
    rw [round2]
    simp -implicitDefEqProofs only [pu.pre_next, wi, Int.lt_irrefl, decide_true, decide_false, Bool.and_self, Bool.or_self, Bool.and_true, Bool.true_and, Bool.and_false, Bool.false_and, Bool.or_true, Bool.true_or, Bool.or_false, Bool.false_or, Bool.not_true, Bool.not_false, cond_true, cond_false]
  | succ d ih =>
    intro k n2 hk' hn
    obtain ⟨n2, rfl⟩ : ∃ k, n2 = k + 1 := ⟨n2 - 1, by omega⟩
    have hk : k < c := by omega
    have k0 : (0 : Int) ≤ (k : Int) := Int.natCast_nonneg _
    have k2 : (k : Int) < (c : Int) := by omega
    have wk : IntKind.i64.wrap ((k : Int) + 1) = ((k + 1 : Nat) : Int) := wrap_nat k (by omega)
    have hlt := gm.ix_lt (R := r) (C := c) hi hk
    have em : (i : Int) * (c : Int) = ((i * c : Nat) : Int) := by simp
    have ee : ((i * c : Nat) : Int) + (k : Int) = ((i * c + k : Nat) : Int) := by simp
    have w1 : IntKind.i64.wrap ((i * c : Nat) : Int) = ((i * c : Nat) : Int) := IntWalk.i64_in _ (by omega)
    have w2 : IntKind.i64.wrap ((i * c + k : Nat) : Int) = ((i * c + k : Nat) : Int) := IntWalk.i64_in _ (by omega)
    have hpl := pu.pre_length r c xs ys i k
    have s1 : (pu.pre r c xs ys i k).length + 1 ≤ 4611686018427387904 := by omega
    have s2 : ((pu.pre r c xs ys i k).length + 1) * 8 ≤ 140737488355328 := by omega
    have b1 := br.sv_length r c xs k
    have b2 := br.sv_length c r (tn.sv r c ys) i
    have b3 : (br.sv r c xs k).length ≤ 4611686018427387904 := by omega
    have b4 : (br.sv c r (tn.sv r c ys) i).length ≤ 4611686018427387904 := by omega
    have hih := ih (k + 1) n2 (by omega) (by omega)
    have hp : pu.p.sp r c xs ys i k = (pu.h.sp (br.sv r c xs k) (i : Int) && pu.h.sp (br.sv c r (tn.sv r c ys) i) (k : Int)) := rfl
    rw [pu.pre_succ, hp] at hih
    rw [round2]
    cases h1 : pu.h.sp (br.sv r c xs k) (i : Int)
    · rw [h1, Bool.false_and, cond_false, List.append_nil] at hih
      simp -implicitDefEqProofs only [h1, i0, i2, k0, k2, wk, wi, em, ee, w1, w2, s1, s2, b3, b4, t1, t2, t4, t5, t6, hv, hw, Int.toNat_natCast, one_set, List.length_singleton, List.take_length, Nat.le_refl, Nat.reduceBEq, and_self, eq_self, decide_true, decide_false, Bool.and_self, Bool.or_self, Bool.and_true, Bool.true_and, Bool.and_false, Bool.false_and, Bool.or_true, Bool.true_or, Bool.or_false, Bool.false_or, Bool.not_true, Bool.not_false, cond_true, cond_false]
      exact hih
    · cases h2 : pu.h.sp (br.sv c r (tn.sv r c ys) i) (k : Int)
      · rw [h1, h2, Bool.and_false, cond_false, List.append_nil] at hih
        simp -implicitDefEqProofs only [h1, h2, i0, i2, k0, k2, wk, wi, em, ee, w1, w2, s1, s2, b3, b4, t1, t2, t4, t5, t6, hv, hw, Int.toNat_natCast, one_set, List.length_singleton, List.take_length, Nat.le_refl, Nat.reduceBEq, and_self, eq_self, decide_true, decide_false, Bool.and_self, Bool.or_self, Bool.and_true, Bool.true_and, Bool.and_false, Bool.false_and, Bool.or_true, Bool.true_or, Bool.or_false, Bool.false_or, Bool.not_true, Bool.not_false, cond_true, cond_false]
        exact hih
      · rw [h1, h2, Bool.and_true, cond_true, List.length_append] at hih
        simp -implicitDefEqProofs only [h1, h2, i0, i2, k0, k2, wk, wi, em, ee, w1, w2, s1, s2, b3, b4, t1, t2, t4, t5, t6, hv, hw, Int.toNat_natCast, one_set, List.length_singleton, List.take_length, Nat.le_refl, Nat.reduceBEq, and_self, eq_self, decide_true, decide_false, Bool.and_self, Bool.or_self, Bool.and_true, Bool.true_and, Bool.and_false, Bool.false_and, Bool.or_true, Bool.true_or, Bool.or_false, Bool.false_or, Bool.not_true, Bool.not_false, cond_true, cond_false]
        exact hih
theorem outer (r c : Nat) (xs ys : List Int) (f : Nat) (hv : gm.sp r c xs ys = true) (hw : gm.sp c r (tn.sv r c ys) (tn.sv r c xs) = true) (hr : 1 ≤ r ∧ r ≤ 6) (hc : 1 ≤ c ∧ c ≤ 6) (hx : xs.length = r * c) (hy : ys.length = r * c) (hf : c < f) : ∀ (d i n : Nat), i + d = r → d < n →
    L1 f n (mkS 44 [(1, .ptr 0 0 0), (3, .own 1 0 (pu.pre r c xs ys i 0).length 0 1), (4, .ptr 4 0 0), (11, .int .i64 r), (12, .int .i64 i)] [⟨.cells [.int .i64 r, .int .i64 c, .ro (.ints .i64 xs) xs.length 1, .ro (.ints .i64 ys) ys.length 1], 0⟩, ⟨.typ (.ints .i64 (pu.pre r c xs ys i 0)), 0⟩, ⟨.typ (.ints .i64 (tn.sv r c ys)), 0⟩, ⟨.typ (.ints .i64 (tn.sv r c xs)), 0⟩, ⟨.cells [.int .i64 c, .int .i64 r, .own 2 0 (c * r) 0 1, .own 3 0 (c * r) 0 1], 0⟩]) = some (.own 1 0 (pu.sv r c xs ys).length 0 1, [⟨.cells [.int .i64 r, .int .i64 c, .ro (.ints .i64 xs) xs.length 1, .ro (.ints .i64 ys) ys.length 1], 0⟩, ⟨.typ (.ints .i64 (pu.sv r c xs ys)), 0⟩, ⟨.typ (.ints .i64 (tn.sv r c ys)), 0⟩, ⟨.typ (.ints .i64 (tn.sv r c xs)), 0⟩, ⟨.cells [.int .i64 c, .int .i64 r, .own 2 0 (c * r) 0 1, .own 3 0 (c * r) 0 1], 0⟩]) := by
  intro d
  induction d with
  | zero =>
    intro i n hi hn
    obtain ⟨n, rfl⟩ : ∃ k, n = k + 1 := ⟨n - 1, by omega⟩
    obtain rfl : i = r := by omega
    rw [round1]
    simp -implicitDefEqProofs only [Int.lt_irrefl, decide_true, decide_false, Bool.and_self, Bool.or_self, Bool.and_true, Bool.true_and, Bool.and_false, Bool.false_and, Bool.or_true, Bool.true_or, Bool.or_false, Bool.false_or, Bool.not_true, Bool.not_false, cond_true, cond_false]
    try rfl
  | succ d ih =>
    intro i n hi' hn
    obtain ⟨n, rfl⟩ : ∃ k, n = k + 1 := ⟨n - 1, by omega⟩
    have hi : i < r := by omega
    have hi5 : (i : Int) < (r : Int) := by omega
    have hih := ih (i + 1) n (by omega) (by omega)
    have hin := inner r c xs ys f n i hv hw hr hc hx hy hi c 0 f (by omega) hf
    rw [round1]
    simp -implicitDefEqProofs only [hi5, decide_true, cond_true]
    exact hin.trans hih
theorem run : ∀ args v new, R args = some (true, v, new) → ∃ fuel, regc [1] (runFn Try.prog (orc [⟨70, gTurned.R⟩, ⟨71, gBestRows.R⟩, ⟨58, slContains.R⟩]) hd Dr.std none fuel (bodyOf Try.f53) 44 [2] args []) = some (v, new) := by
  intro args v new h
  unfold R at h
  split at h
  · rename_i r c xs ma ys mb
    simp only [Option.some.injEq, Prod.mk.injEq, Bool.and_eq_true, decide_eq_true_eq, Bool.not_eq_true'] at h
    obtain ⟨⟨⟨rfl, rfl⟩, hv⟩, rfl, rfl⟩ := h
    have hv2 := hv
    obtain ⟨r, c, rfl, rfl, hr, hc, hx, hy, vx, vy⟩ := gm.valid hv2
    obtain ⟨F, hF⟩ : ∃ F : Nat, F = 100 := ⟨100, rfl⟩
    refine ⟨F, ?_⟩
    rw [start]
    have hl := outer r c xs ys F hv (tn.valid hr hc hx hy vx vy) hr hc hx hy (by omega) r 0 F (by omega) (by omega)
    rw [pu.pre_zero] at hl
    have e : ((c : Int) * (r : Int)).toNat = c * r := by
      have : (c : Int) * (r : Int) = ((c * r : Nat) : Int) := by simp
      rw [this]; rfl
    simp -implicitDefEqProofs only [e, hv, eq_self, and_self, decide_true, decide_false, Bool.and_self, Bool.or_self, Bool.and_true, Bool.true_and, Bool.and_false, Bool.false_and, Bool.or_true, Bool.true_or, Bool.or_false, Bool.false_or, Bool.not_true, Bool.not_false, cond_true, cond_false]
    exact (congrArg (regc [1]) hl).trans rfl
  · cases h
theorem ok : EntOk Try.prog ⟨53, R⟩ :=
  ent_okAG (ks := [1]) mixed (A := (orc [⟨70, gTurned.R⟩, ⟨71, gBestRows.R⟩, ⟨58, slContains.R⟩])) (orc_ok (by simp only [List.mem_cons, List.not_mem_nil, or_false, forall_eq_or_imp, forall_eq]; exact ⟨gTurned.ok, gBestRows.ok, slContains.ok⟩)) Try.func53 (by kernel_rfl) (by kernel_rfl) (n := 44) (ts := [2]) (hd := hd) (dr := Dr.std) (cut := none) (by kernel_rfl) (by kernel_rfl) (by kernel_rfl) run
end gPure

namespace l02Pure
def R : List AVal → Option (Bool × AVal × List Blk)
  | [.rom [.int .i64 r, .int .i64 c, .ro (.ints .i64 xs) ma 1, .ro (.ints .i64 ys) mb 1] 0] => some (decide (ma = xs.length ∧ mb = ys.length) && gm.sp r c xs ys, .own 0 0 (pu.sv r.toNat c.toNat xs ys).length 0 1, [⟨.typ (.ints .i64 (pu.sv r.toNat c.toNat xs ys)), 0⟩])
  | _ => none
def hd : Nat → Head := fun i => bif eqN i 2 then ⟨[0, 3, 4, 5], some 1⟩ else ⟨[0, 3, 4], some 1⟩
noncomputable def L1 (f n : Nat) (s : State) := loopAt Try.prog (orc [⟨49, l02BestRows.R⟩, ⟨48, l02Has.R⟩, ⟨50, l02BestColumns.R⟩]) hd Dr.std 0 f (bodyOf Try.f31) 0 [true, true, false, true] (retK Try.prog [2] 0 none) n s
noncomputable def L2 (f n n2 : Nat) (s : State) := loopAt Try.prog (orc [⟨49, l02BestRows.R⟩, ⟨48, l02Has.R⟩, ⟨50, l02BestColumns.R⟩]) hd Dr.std 0 f (bodyAt (bodyOf Try.f31) [true, true, false, true]) (curAt (bodyOf Try.f31) 0 [true, true, false, true]) [true, false, true] (iterK (normE 0 (hd (curAt (bodyOf Try.f31) 0 [true, true, false, true]))) (L1 f n) (contAt Try.prog (orc [⟨49, l02BestRows.R⟩, ⟨48, l02Has.R⟩, ⟨50, l02BestColumns.R⟩]) hd Dr.std 0 f (bodyOf Try.f31) 0 [true, true, false, true] (retK Try.prog [2] 0 none))) n2 s
theorem start (r c : Nat) (xs ys : List Int) (f : Nat) :
  runFn Try.prog (orc [⟨49, l02BestRows.R⟩, ⟨48, l02Has.R⟩, ⟨50, l02BestColumns.R⟩]) hd Dr.std none f (bodyOf Try.f31) 47 [2] [.rom [.int .i64 r, .int .i64 c, .ro (.ints .i64 xs) xs.length 1, .ro (.ints .i64 ys) ys.length 1] 0] []
  = (L1 f f (mkS (47 : Nat) [((0 : Nat), AVal.rom [AVal.int IntKind.i64 (↑r : Int), AVal.int IntKind.i64 (↑c : Int), AVal.ro (Cont.ints IntKind.i64 xs) xs.length (1 : Nat), AVal.ro (Cont.ints IntKind.i64 ys) ys.length (1 : Nat)] (0 : Nat)), ((3 : Nat), AVal.own (0 : Nat) (0 : Nat) (0 : Nat) (0 : Nat) (1 : Nat)), ((4 : Nat), AVal.int IntKind.i64 (0 : Int))] [{ c := BC.typ (Cont.ints IntKind.i64 (List.replicate (0 : Nat) (0 : Int))), ver := (0 : Nat) }])) := by kernel_rfl
theorem round1 (r c : Nat) (xs ys : List Int) (zs : List Int) (i f n : Nat) :
  L1 f (n + 1) (mkS 47 [(0, .rom [.int .i64 r, .int .i64 c, .ro (.ints .i64 xs) xs.length 1, .ro (.ints .i64 ys) ys.length 1] 0), (3, .own 0 0 zs.length 0 1), (4, .int .i64 i)] [⟨.typ (.ints .i64 zs), 0⟩])
  = (bif decide ((↑i : Int) < (↑r : Int)) then L2 f n f (mkS (47 : Nat) [((0 : Nat), AVal.rom [AVal.int IntKind.i64 (↑r : Int), AVal.int IntKind.i64 (↑c : Int), AVal.ro (Cont.ints IntKind.i64 xs) xs.length (1 : Nat), AVal.ro (Cont.ints IntKind.i64 ys) ys.length (1 : Nat)] (0 : Nat)), ((3 : Nat), AVal.own (0 : Nat) (0 : Nat) zs.length (0 : Nat) (1 : Nat)), ((4 : Nat), AVal.int IntKind.i64 (↑i : Int)), ((5 : Nat), AVal.int IntKind.i64 (0 : Int))] [{ c := BC.typ (Cont.ints IntKind.i64 zs), ver := (0 : Nat) }]) else some (AVal.own (0 : Nat) (0 : Nat) zs.length (0 : Nat) (1 : Nat), [{ c := BC.typ (Cont.ints IntKind.i64 zs), ver := (0 : Nat) }])) := by kernel_rfl
theorem round2 (r c : Nat) (xs ys : List Int) (zs : List Int) (i k f n n2 : Nat) :
  L2 f n (n2 + 1) (mkS 47 [(0, .rom [.int .i64 r, .int .i64 c, .ro (.ints .i64 xs) xs.length 1, .ro (.ints .i64 ys) ys.length 1] 0), (3, .own 0 0 zs.length 0 1), (4, .int .i64 i), (5, .int .i64 k)] [⟨.typ (.ints .i64 zs), 0⟩])
  = (bif decide ((↑k : Int) < (↑c : Int)) then bif decide (xs.length = xs.length ∧ ys.length = ys.length ∧ (0 : Int) ≤ (↑k : Int) ∧ (↑k : Int) < (↑c : Int)) && gm.sp (↑r : Int) (↑c : Int) xs ys && (true && (true && (true && (true && true))) && (true && true) || true && (true && true)) then bif decide ((br.sv (↑r : Int).toNat (↑c : Int).toNat xs (↑k : Int).toNat).length ≤ (br.sv (↑r : Int).toNat (↑c : Int).toNat xs (↑k : Int).toNat).length ∧ (br.sv (↑r : Int).toNat (↑c : Int).toNat xs (↑k : Int).toNat).length ≤ (4611686018427387904 : Nat)) && (false && (true && true) || true && true) then bif pu.h.sp (List.take (br.sv (↑r : Int).toNat (↑c : Int).toNat xs (↑k : Int).toNat).length (br.sv (↑r : Int).toNat (↑c : Int).toNat xs (↑k : Int).toNat)) (↑i : Int) then bif decide (xs.length = xs.length ∧ ys.length = ys.length ∧ (0 : Int) ≤ (↑i : Int) ∧ (↑i : Int) < (↑r : Int)) && gm.sp (↑r : Int) (↑c : Int) xs ys && (true && (true && (true && (true && true))) && (true && true) || true && (true && true)) then bif decide ((br.sv (↑c : Int).toNat (↑r : Int).toNat (tn.sv (↑r : Int).toNat (↑c : Int).toNat ys) (↑i : Int).toNat).length ≤ (br.sv (↑c : Int).toNat (↑r : Int).toNat (tn.sv (↑r : Int).toNat (↑c : Int).toNat ys) (↑i : Int).toNat).length ∧ (br.sv (↑c : Int).toNat (↑r : Int).toNat (tn.sv (↑r : Int).toNat (↑c : Int).toNat ys) (↑i : Int).toNat).length ≤ (4611686018427387904 : Nat)) && (false && (true && true) || true && true) then bif pu.h.sp (List.take (br.sv (↑c : Int).toNat (↑r : Int).toNat (tn.sv (↑r : Int).toNat (↑c : Int).toNat ys) (↑i : Int).toNat).length (br.sv (↑c : Int).toNat (↑r : Int).toNat (tn.sv (↑r : Int).toNat (↑c : Int).toNat ys) (↑i : Int).toNat)) (↑k : Int) then bif (1 : Nat) == (1 : Nat) && (1 : Nat) == (1 : Nat) && (true && (true && true) && (true && true && (decide (zs.length + (List.take (1 : Nat) (List.drop (0 : Nat) ((List.replicate (1 : Nat) (0 : Int)).set (0 : Nat) (IntKind.i64.wrap (IntKind.i64.wrap ((↑i : Int) * (↑c : Int)) + (↑k : Int)))))).length ≤ (4611686018427387904 : Nat)) && decide ((zs.length + (List.take (1 : Nat) (List.drop (0 : Nat) ((List.replicate (1 : Nat) (0 : Int)).set (0 : Nat) (IntKind.i64.wrap (IntKind.i64.wrap ((↑i : Int) * (↑c : Int)) + (↑k : Int)))))).length) * (8 : Nat) ≤ (140737488355328 : Nat))))) then L2 f n n2 (mkS (47 : Nat) [((0 : Nat), AVal.rom [AVal.int IntKind.i64 (↑r : Int), AVal.int IntKind.i64 (↑c : Int), AVal.ro (Cont.ints IntKind.i64 xs) xs.length (1 : Nat), AVal.ro (Cont.ints IntKind.i64 ys) ys.length (1 : Nat)] (0 : Nat)), ((3 : Nat), AVal.own (0 : Nat) (0 : Nat) (zs.length + (List.take (1 : Nat) (List.drop (0 : Nat) ((List.replicate (1 : Nat) (0 : Int)).set (0 : Nat) (IntKind.i64.wrap (IntKind.i64.wrap ((↑i : Int) * (↑c : Int)) + (↑k : Int)))))).length) (0 : Nat) (1 : Nat)), ((4 : Nat), AVal.int IntKind.i64 (↑i : Int)), ((5 : Nat), AVal.int IntKind.i64 (IntKind.i64.wrap ((↑k : Int) + (1 : Int))))] [{ c := BC.typ (Cont.ints IntKind.i64 (List.take zs.length zs ++ List.take (1 : Nat) (List.drop (0 : Nat) ((List.replicate (1 : Nat) (0 : Int)).set (0 : Nat) (IntKind.i64.wrap (IntKind.i64.wrap ((↑i : Int) * (↑c : Int)) + (↑k : Int))))))), ver := (0 : Nat) }]) else none else L2 f n n2 (mkS (47 : Nat) [((0 : Nat), AVal.rom [AVal.int IntKind.i64 (↑r : Int), AVal.int IntKind.i64 (↑c : Int), AVal.ro (Cont.ints IntKind.i64 xs) xs.length (1 : Nat), AVal.ro (Cont.ints IntKind.i64 ys) ys.length (1 : Nat)] (0 : Nat)), ((3 : Nat), AVal.own (0 : Nat) (0 : Nat) zs.length (0 : Nat) (1 : Nat)), ((4 : Nat), AVal.int IntKind.i64 (↑i : Int)), ((5 : Nat), AVal.int IntKind.i64 (IntKind.i64.wrap ((↑k : Int) + (1 : Int))))] [{ c := BC.typ (Cont.ints IntKind.i64 zs), ver := (0 : Nat) }]) else none else none else L2 f n n2 (mkS (47 : Nat) [((0 : Nat), AVal.rom [AVal.int IntKind.i64 (↑r : Int), AVal.int IntKind.i64 (↑c : Int), AVal.ro (Cont.ints IntKind.i64 xs) xs.length (1 : Nat), AVal.ro (Cont.ints IntKind.i64 ys) ys.length (1 : Nat)] (0 : Nat)), ((3 : Nat), AVal.own (0 : Nat) (0 : Nat) zs.length (0 : Nat) (1 : Nat)), ((4 : Nat), AVal.int IntKind.i64 (↑i : Int)), ((5 : Nat), AVal.int IntKind.i64 (IntKind.i64.wrap ((↑k : Int) + (1 : Int))))] [{ c := BC.typ (Cont.ints IntKind.i64 zs), ver := (0 : Nat) }]) else none else none else L1 f n (mkS (47 : Nat) [((0 : Nat), AVal.rom [AVal.int IntKind.i64 (↑r : Int), AVal.int IntKind.i64 (↑c : Int), AVal.ro (Cont.ints IntKind.i64 xs) xs.length (1 : Nat), AVal.ro (Cont.ints IntKind.i64 ys) ys.length (1 : Nat)] (0 : Nat)), ((3 : Nat), AVal.own (0 : Nat) (0 : Nat) zs.length (0 : Nat) (1 : Nat)), ((4 : Nat), AVal.int IntKind.i64 (IntKind.i64.wrap ((↑i : Int) + (1 : Int))))] [{ c := BC.typ (Cont.ints IntKind.i64 zs), ver := (0 : Nat) }])) := by kernel_rfl
theorem inner (r c : Nat) (xs ys : List Int) (f n i : Nat) (hv : gm.sp r c xs ys = true) (hw : gm.sp c r (tn.sv r c ys) (tn.sv r c xs) = true) (hr : 1 ≤ r ∧ r ≤ 6) (hc : 1 ≤ c ∧ c ≤ 6) (hx : xs.length = r * c) (hy : ys.length = r * c) (hi : i < r) : ∀ (d k n2 : Nat), k + d = c → d < n2 →
    L2 f n n2 (mkS 47 [(0, .rom [.int .i64 r, .int .i64 c, .ro (.ints .i64 xs) xs.length 1, .ro (.ints .i64 ys) ys.length 1] 0), (3, .own 0 0 (pu.pre r c xs ys i k).length 0 1), (4, .int .i64 i), (5, .int .i64 k)] [⟨.typ (.ints .i64 (pu.pre r c xs ys i k)), 0⟩]) = L1 f n (mkS 47 [(0, .rom [.int .i64 r, .int .i64 c, .ro (.ints .i64 xs) xs.length 1, .ro (.ints .i64 ys) ys.length 1] 0), (3, .own 0 0 (pu.pre r c xs ys (i + 1) 0).length 0 1), (4, .int .i64 ((i + 1 : Nat) : Int))] [⟨.typ (.ints .i64 (pu.pre r c xs ys (i + 1) 0)), 0⟩]) := by
  have t1 : (tn.sv r c ys).length = c * r := tn.sv_length _ _ _
  have t2 : (tn.sv r c xs).length = c * r := tn.sv_length _ _ _
  have t5 : (tn.sv r c ys).take (c * r) = tn.sv r c ys := List.take_of_length_le (by omega)
  have t6 : (tn.sv r c xs).take (c * r) = tn.sv r c xs := List.take_of_length_le (by omega)
  have wi : IntKind.i64.wrap ((i : Int) + 1) = ((i + 1 : Nat) : Int) := wrap_nat i (by omega)
  have i0 : (0 : Int) ≤ (i : Int) := Int.natCast_nonneg _
  have i2 : (i : Int) < (r : Int) := by omega
  have h36 := gm.le_36 hr.2 hc.2
  have h36c := gm.le_36 hc.2 hr.2
  have t4 : c * r ≤ 4611686018427387904 := by omega
  intro d
  induction d with
  | zero =>
    intro k n2 hk hn
    obtain ⟨n2, rfl⟩ : ∃ k, n2 = k + 1 := ⟨n2 - 1, by omega⟩
    obtain rfl : k = c := by omega
    rw [round2]
    simp -implicitDefEqProofs only [pu.pre_next, wi, Int.lt_irrefl, decide_true, decide_false, Bool.and_self, Bool.or_self, Bool.and_true, Bool.true_and, Bool.and_false, Bool.false_and, Bool.or_true, Bool.true_or, Bool.or_false, Bool.false_or, Bool.not_true, Bool.not_false, cond_true, cond_false]
  | succ d ih =>
    intro k n2 hk' hn
    obtain ⟨n2, rfl⟩ : ∃ k, n2 = k + 1 := ⟨n2 - 1, by omega⟩
    have hk : k < c := by omega
    have k0 : (0 : Int) ≤ (k : Int) := Int.natCast_nonneg _
    have k2 : (k : Int) < (c : Int) := by omega
    have wk : IntKind.i64.wrap ((k : Int) + 1) = ((k + 1 : Nat) : Int) := wrap_nat k (by omega)
    have hlt := gm.ix_lt (R := r) (C := c) hi hk
    have em : (i : Int) * (c : Int) = ((i * c : Nat) : Int) := by simp
    have ee : ((i * c : Nat) : Int) + (k : Int) = ((i * c + k : Nat) : Int) := by simp
    have w1 : IntKind.i64.wrap ((i * c : Nat) : Int) = ((i * c : Nat) : Int) := IntWalk.i64_in _ (by omega)
    have w2 : IntKind.i64.wrap ((i * c + k : Nat) : Int) = ((i * c + k : Nat) : Int) := IntWalk.i64_in _ (by omega)
    have hpl := pu.pre_length r c xs ys i k
    have s1 : (pu.pre r c xs ys i k).length + 1 ≤ 4611686018427387904 := by omega
    have s2 : ((pu.pre r c xs ys i k).length + 1) * 8 ≤ 140737488355328 := by omega
    have b1 := br.sv_length r c xs k
    have b2 := br.sv_length c r (tn.sv r c ys) i
    have b3 : (br.sv r c xs k).length ≤ 4611686018427387904 := by omega
    have b4 : (br.sv c r (tn.sv r c ys) i).length ≤ 4611686018427387904 := by omega
    have hih := ih (k + 1) n2 (by omega) (by omega)
    have hp : pu.p.sp r c xs ys i k = (pu.h.sp (br.sv r c xs k) (i : Int) && pu.h.sp (br.sv c r (tn.sv r c ys) i) (k : Int)) := rfl
    rw [pu.pre_succ, hp] at hih
    rw [round2]
    cases h1 : pu.h.sp (br.sv r c xs k) (i : Int)
    · rw [h1, Bool.false_and, cond_false, List.append_nil] at hih
      simp -implicitDefEqProofs only [h1, i0, i2, k0, k2, wk, wi, em, ee, w1, w2, s1, s2, b3, b4, t1, t2, t4, t5, t6, hv, hw, Int.toNat_natCast, one_set, List.length_singleton, List.take_length, Nat.le_refl, Nat.reduceBEq, and_self, eq_self, decide_true, decide_false, Bool.and_self, Bool.or_self, Bool.and_true, Bool.true_and, Bool.and_false, Bool.false_and, Bool.or_true, Bool.true_or, Bool.or_false, Bool.false_or, Bool.not_true, Bool.not_false, cond_true, cond_false]
      exact hih
    · cases h2 : pu.h.sp (br.sv c r (tn.sv r c ys) i) (k : Int)
      · rw [h1, h2, Bool.and_false, cond_false, List.append_nil] at hih
        simp -implicitDefEqProofs only [h1, h2, i0, i2, k0, k2, wk, wi, em, ee, w1, w2, s1, s2, b3, b4, t1, t2, t4, t5, t6, hv, hw, Int.toNat_natCast, one_set, List.length_singleton, List.take_length, Nat.le_refl, Nat.reduceBEq, and_self, eq_self, decide_true, decide_false, Bool.and_self, Bool.or_self, Bool.and_true, Bool.true_and, Bool.and_false, Bool.false_and, Bool.or_true, Bool.true_or, Bool.or_false, Bool.false_or, Bool.not_true, Bool.not_false, cond_true, cond_false]
        exact hih
      · rw [h1, h2, Bool.and_true, cond_true, List.length_append] at hih
        simp -implicitDefEqProofs only [h1, h2, i0, i2, k0, k2, wk, wi, em, ee, w1, w2, s1, s2, b3, b4, t1, t2, t4, t5, t6, hv, hw, Int.toNat_natCast, one_set, List.length_singleton, List.take_length, Nat.le_refl, Nat.reduceBEq, and_self, eq_self, decide_true, decide_false, Bool.and_self, Bool.or_self, Bool.and_true, Bool.true_and, Bool.and_false, Bool.false_and, Bool.or_true, Bool.true_or, Bool.or_false, Bool.false_or, Bool.not_true, Bool.not_false, cond_true, cond_false]
        exact hih
theorem outer (r c : Nat) (xs ys : List Int) (f : Nat) (hv : gm.sp r c xs ys = true) (hw : gm.sp c r (tn.sv r c ys) (tn.sv r c xs) = true) (hr : 1 ≤ r ∧ r ≤ 6) (hc : 1 ≤ c ∧ c ≤ 6) (hx : xs.length = r * c) (hy : ys.length = r * c) (hf : c < f) : ∀ (d i n : Nat), i + d = r → d < n →
    L1 f n (mkS 47 [(0, .rom [.int .i64 r, .int .i64 c, .ro (.ints .i64 xs) xs.length 1, .ro (.ints .i64 ys) ys.length 1] 0), (3, .own 0 0 (pu.pre r c xs ys i 0).length 0 1), (4, .int .i64 i)] [⟨.typ (.ints .i64 (pu.pre r c xs ys i 0)), 0⟩]) = some (.own 0 0 (pu.sv r c xs ys).length 0 1, [⟨.typ (.ints .i64 (pu.sv r c xs ys)), 0⟩]) := by
  intro d
  induction d with
  | zero =>
    intro i n hi hn
    obtain ⟨n, rfl⟩ : ∃ k, n = k + 1 := ⟨n - 1, by omega⟩
    obtain rfl : i = r := by omega
    rw [round1]
    simp -implicitDefEqProofs only [Int.lt_irrefl, decide_true, decide_false, Bool.and_self, Bool.or_self, Bool.and_true, Bool.true_and, Bool.and_false, Bool.false_and, Bool.or_true, Bool.true_or, Bool.or_false, Bool.false_or, Bool.not_true, Bool.not_false, cond_true, cond_false]
    try rfl
  | succ d ih =>
    intro i n hi' hn
    obtain ⟨n, rfl⟩ : ∃ k, n = k + 1 := ⟨n - 1, by omega⟩
    have hi : i < r := by omega
    have hi5 : (i : Int) < (r : Int) := by omega
    have hih := ih (i + 1) n (by omega) (by omega)
    have hin := inner r c xs ys f n i hv hw hr hc hx hy hi c 0 f (by omega) hf
    rw [round1]
    simp -implicitDefEqProofs only [hi5, decide_true, cond_true]
    exact hin.trans hih
theorem run : ∀ args v new, R args = some (true, v, new) → ∃ fuel, runFn Try.prog (orc [⟨49, l02BestRows.R⟩, ⟨48, l02Has.R⟩, ⟨50, l02BestColumns.R⟩]) hd Dr.std none fuel (bodyOf Try.f31) 47 [2] args [] = some (v, new) := by
  intro args v new h
  unfold R at h
  split at h
  · rename_i r c xs ma ys mb
    simp only [Option.some.injEq, Prod.mk.injEq, Bool.and_eq_true, decide_eq_true_eq, Bool.not_eq_true'] at h
    obtain ⟨⟨⟨rfl, rfl⟩, hv⟩, rfl, rfl⟩ := h
    have hv2 := hv
    obtain ⟨r, c, rfl, rfl, hr, hc, hx, hy, vx, vy⟩ := gm.valid hv2
    obtain ⟨F, hF⟩ : ∃ F : Nat, F = 100 := ⟨100, rfl⟩
    refine ⟨F, ?_⟩
    rw [start]
    have hl := outer r c xs ys F hv (tn.valid hr hc hx hy vx vy) hr hc hx hy (by omega) r 0 F (by omega) (by omega)
    rw [pu.pre_zero] at hl
    exact hl
  · cases h
theorem ok : EntOk Try.prog ⟨31, R⟩ :=
  ent_okA mixed (A := (orc [⟨49, l02BestRows.R⟩, ⟨48, l02Has.R⟩, ⟨50, l02BestColumns.R⟩])) (orc_ok (by simp only [List.mem_cons, List.not_mem_nil, or_false, forall_eq_or_imp, forall_eq]; exact ⟨l02BestRows.ok, l02Has.ok, l02BestColumns.ok⟩)) Try.func31 (by kernel_rfl) (by kernel_rfl) (n := 47) (ts := [2]) (hd := hd) (dr := Dr.std) (cut := none) (by kernel_rfl) (by kernel_rfl) (by kernel_rfl) run
end l02Pure

namespace iPureEquilibria_t
def R : List AVal → Option (Bool × AVal × List Blk)
  | [.agg [.int .i64 r, .int .i64 c, .ro (.ints .i64 xs) ma 1, .ro (.ints .i64 ys) mb 1]] => some (decide (ma = xs.length ∧ mb = ys.length ∧ ma ≤ 4611686018427387904 ∧ mb ≤ 4611686018427387904) && gm.sp r c xs ys, .tup [.own 0 0 (pu.sv r.toNat c.toNat xs ys).length 0 1, .bool true], [⟨.typ (.ints .i64 (pu.sv r.toNat c.toNat xs ys)), 0⟩])
  | _ => none
theorem go (r c : Int) (xs ys : List Int) :
  regc [1] (runFn Try.prog (orc [⟨52, iValidGame.R⟩, ⟨53, gPure.R⟩]) hd0 Dr.std none 0 (bodyOf Try.f34) 9 [2, 3] [.agg [.int .i64 r, .int .i64 c, .ro (.ints .i64 xs) xs.length 1, .ro (.ints .i64 ys) ys.length 1]] [])
  = (match bif true && true && (true && true && (true && true && (true && true && true))) then bif decide (xs.length = xs.length ∧ ys.length = ys.length ∧ xs.length ≤ (4611686018427387904 : Nat) ∧ ys.length ≤ (4611686018427387904 : Nat)) && (true && (true && (true && (true && true))) && true || true && true) then bif !gm.sp r c xs ys then some (AVal.tup [AVal.nils, AVal.bool false], [{ c := BC.cells [AVal.int IntKind.i64 r, AVal.int IntKind.i64 c, AVal.ro (Cont.ints IntKind.i64 xs) xs.length (1 : Nat), AVal.ro (Cont.ints IntKind.i64 ys) ys.length (1 : Nat)], ver := (0 : Nat) }]) else bif true && true && (true && true && (true && true && (true && true && true))) then bif decide (xs.length = xs.length ∧ ys.length = ys.length) && gm.sp r c xs ys && (true && (true && (true && (true && true))) && true || true && (true && true)) then some (AVal.tup [AVal.own (1 : Nat) (0 : Nat) (pu.sv r.toNat c.toNat xs ys).length (0 : Nat) (1 : Nat), AVal.bool true], [{ c := BC.cells [AVal.int IntKind.i64 r, AVal.int IntKind.i64 c, AVal.ro (Cont.ints IntKind.i64 xs) xs.length (1 : Nat), AVal.ro (Cont.ints IntKind.i64 ys) ys.length (1 : Nat)], ver := (0 : Nat) }, { c := BC.typ (Cont.ints IntKind.i64 (pu.sv r.toNat c.toNat xs ys)), ver := (0 : Nat) }]) else none else none else none else none with
| some (v, h) =>
  bif true && (ltN (1 : Nat) (hlen h) && true) then
    some
      (AVal.re [(1 : Nat)] h v,
        match nth h (1 : Nat) with
        | some b => { c := BC.re [(1 : Nat)] h b.c, ver := b.ver } :: reB [(1 : Nat)] h []
        | none => { c := BC.cells [], ver := (0 : Nat) } :: reB [(1 : Nat)] h [])
  else none
| none => none) := by kernel_rfl
theorem run : ∀ args v new, R args = some (true, v, new) → ∃ fuel, regc [1] (runFn Try.prog (orc [⟨52, iValidGame.R⟩, ⟨53, gPure.R⟩]) hd0 Dr.std none fuel (bodyOf Try.f34) 9 [2, 3] args []) = some (v, new) := by
  intro args v new h
  unfold R at h
  split at h
  · rename_i r c xs ma ys mb
    simp only [Option.some.injEq, Prod.mk.injEq, Bool.and_eq_true, decide_eq_true_eq, Bool.not_eq_true'] at h
    obtain ⟨⟨⟨rfl, rfl, h3, h4⟩, hv⟩, rfl, rfl⟩ := h
    refine ⟨0, ?_⟩
    rw [go]
    simp only [h3, h4, hv, and_self, eq_self, decide_true, decide_false, Bool.and_self, Bool.or_self, Bool.and_true, Bool.true_and, Bool.and_false, Bool.false_and, Bool.or_true, Bool.true_or, Bool.or_false, Bool.false_or, Bool.not_true, Bool.not_false, cond_true, cond_false]
    try rfl
  · cases h
theorem ok : EntOk Try.prog ⟨34, R⟩ :=
  ent_okAG (ks := [1]) mixed (A := (orc [⟨52, iValidGame.R⟩, ⟨53, gPure.R⟩])) (orc_ok (by simp only [List.mem_cons, List.not_mem_nil, or_false, forall_eq_or_imp, forall_eq]; exact ⟨iValidGame.ok, gPure.ok⟩)) Try.func34 (by kernel_rfl) (by kernel_rfl) (n := 9) (ts := [2, 3]) (hd := hd0) (dr := Dr.std) (cut := none) (by kernel_rfl) (by kernel_rfl) (by kernel_rfl) run
end iPureEquilibria_t

namespace iPureEquilibria_f
def R : List AVal → Option (Bool × AVal × List Blk)
  | [.agg [.int .i64 r, .int .i64 c, .ro (.ints .i64 xs) ma 1, .ro (.ints .i64 ys) mb 1]] => some (decide (ma = xs.length ∧ mb = ys.length ∧ ma ≤ 4611686018427387904 ∧ mb ≤ 4611686018427387904) && !gm.sp r c xs ys, .tup [.nils, .bool false], [])
  | _ => none
theorem go (r c : Int) (xs ys : List Int) :
  runFn Try.prog (orc [⟨52, iValidGame.R⟩]) hd0 Dr.std (some 0) 0 (bodyOf Try.f34) 9 [2, 3] [.agg [.int .i64 r, .int .i64 c, .ro (.ints .i64 xs) xs.length 1, .ro (.ints .i64 ys) ys.length 1]] []
  = (bif true && true && (true && true && (true && true && (true && true && true))) then bif decide (xs.length = xs.length ∧ ys.length = ys.length ∧ xs.length ≤ (4611686018427387904 : Nat) ∧ ys.length ≤ (4611686018427387904 : Nat)) && (true && (true && (true && (true && true))) && true || true && true) then bif !gm.sp r c xs ys then some (AVal.tup [AVal.nils, AVal.bool false], []) else bif true && true && (true && true && (true && true && (true && true && true))) then none else none else none else none) := by kernel_rfl
theorem run : ∀ args v new, R args = some (true, v, new) → ∃ fuel, runFn Try.prog (orc [⟨52, iValidGame.R⟩]) hd0 Dr.std (some 0) fuel (bodyOf Try.f34) 9 [2, 3] args [] = some (v, new) := by
  intro args v new h
  unfold R at h
  split at h
  · rename_i r c xs ma ys mb
    simp only [Option.some.injEq, Prod.mk.injEq, Bool.and_eq_true, decide_eq_true_eq, Bool.not_eq_true'] at h
    obtain ⟨⟨⟨rfl, rfl, h3, h4⟩, hv⟩, rfl, rfl⟩ := h
    refine ⟨0, ?_⟩
    rw [go]
    simp only [h3, h4, hv, and_self, eq_self, decide_true, decide_false, Bool.and_self, Bool.or_self, Bool.and_true, Bool.true_and, Bool.and_false, Bool.false_and, Bool.or_true, Bool.true_or, Bool.or_false, Bool.false_or, Bool.not_true, Bool.not_false, cond_true, cond_false]
    try rfl
  · cases h
theorem ok : EntOk Try.prog ⟨34, R⟩ :=
  ent_okA mixed (A := (orc [⟨52, iValidGame.R⟩])) (orc_ok (by simp only [List.mem_cons, List.not_mem_nil, or_false, forall_eq_or_imp, forall_eq]; exact iValidGame.ok)) Try.func34 (by kernel_rfl) (by kernel_rfl) (n := 9) (ts := [2, 3]) (hd := hd0) (dr := Dr.std) (cut := (some 0)) (by kernel_rfl) (by kernel_rfl) (by kernel_rfl) run
end iPureEquilibria_f

namespace iPureEquilibria
def Rt := iPureEquilibria_t.R
def Rf := iPureEquilibria_f.R
theorem okt : EntOk Try.prog ⟨34, Rt⟩ := iPureEquilibria_t.ok
theorem okf : EntOk Try.prog ⟨34, Rf⟩ := iPureEquilibria_f.ok
end iPureEquilibria







end Go.Proofs.Ythecninmmojkgaa.Ab
