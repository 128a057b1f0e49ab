/-
  Functions: worths and orders that are drawn.
-/
import Derived.Test.YtekadpddilfolaaFnWS
namespace Go.Proofs.Ytekadpddilfolaa.Ab
open Go
set_option linter.unusedVariables false
set_option linter.unusedSimpArgs false
set_option maxRecDepth 100000

namespace wo
def xv.sv (xs : List Int) (c : Int) (k a : Nat) (s : Int) : Int := bif c == 2 then (r8.nx.sv xs (a + 1) (r8.seed.sv xs a s)).tmod 2 else bif c == 1 then ((cnt.sv k * cnt.sv k : Nat) : Int) else (r8.nx.sv xs a s).tmod 13 - 3
def na.sv (c : Int) (a : Nat) : Nat := bif c == 2 then a + 1 + 1 else a + 1
def ns.sv (xs : List Int) (c : Int) (a : Nat) (s : Int) : Int := bif c == 2 then r8.seed.sv xs (a + 1) (r8.seed.sv xs a s) else r8.seed.sv xs a s
def dk.sv (xs : List Int) (c : Int) : Nat → Nat → Nat → Int → List Int
  | 0, _, _, _ => []
  | d + 1, k, a, s => xv.sv xs c k a s :: dk.sv xs c d (k + 1) (na.sv c a) (ns.sv xs c a s)
def da.sv (c : Int) : Nat → Nat → Nat
  | 0, a => a
  | d + 1, a => da.sv c d (na.sv c a)
def ds.sv (xs : List Int) (c : Int) : Nat → Nat → Int → Int
  | 0, _, s => s
  | d + 1, a, s => ds.sv xs c d (na.sv c a) (ns.sv xs c a s)
theorem dk_length (xs : List Int) (c : Int) : ∀ (d k a : Nat) (s : Int), (dk.sv xs c d k a s).length = d
  | 0, _, _, _ => rfl
  | d + 1, k, a, s => by rw [dk.sv, List.length_cons, dk_length xs c d]
theorem xv_in {xs : List Int} (h : r8.bytes.sp xs = true) (c : Int) (k a : Nat) (s : Int) : -3 ≤ xv.sv xs c k a s ∧ xv.sv xs c k a s ≤ 36 := by
  unfold xv.sv
  have h1 := r8.nx_ok h a s
  have h2 := r8.nx_ok h (a + 1) (r8.seed.sv xs a s)
  have t1 := r8.tmod_in (n := 13) h1.1 (by omega)
  have t2 := r8.tmod_in (n := 2) h2.1 (by omega)
  have hc := Nat.mul_le_mul (cnt_le k) (cnt_le k)
  cases c == 2 <;> cases c == 1 <;> simp only [cond_true, cond_false] <;> omega
theorem dk_in {xs : List Int} (h : r8.bytes.sp xs = true) (c : Int) : ∀ (d k a : Nat) (s : Int), ∀ x ∈ dk.sv xs c d k a s, -3 ≤ x ∧ x ≤ 36
  | 0, _, _, _, x, hx => by cases hx
  | d + 1, k, a, s, x, hx => by
    rw [dk.sv] at hx
    rcases List.mem_cons.1 hx with rfl | hx
    · exact xv_in h c k a s
    · exact dk_in h c d _ _ _ x hx
/-- Where votes are drawn, all together win. -/
def fl.sv (c : Int) (l : List Int) : List Int := bif c == 2 then l.set (l.length - 1) 1 else l
theorem fl_length (c : Int) (l : List Int) : (fl.sv c l).length = l.length := by
  unfold fl.sv
  cases c == 2
  · rfl
  · exact List.length_set
def wd.sv (xs : List Int) (p : Nat) (a : Nat) (s : Int) : List Int := fl.sv ((r8.nx.sv xs a s).tmod 3) (0 :: dk.sv xs ((r8.nx.sv xs a s).tmod 3) (2 ^ p - 1) 1 (a + 1) (r8.seed.sv xs a s))
theorem wd_length (xs : List Int) (p a : Nat) (s : Int) : (wd.sv xs p a s).length = 2 ^ p := by
  have := pow_pos p
  rw [wd.sv, fl_length, List.length_cons, dk_length]; omega
theorem wd_sp {xs : List Int} (h : r8.bytes.sp xs = true) {p : Nat} (h1 : 1 ≤ p) (h6 : p ≤ 6) (a : Nat) (s : Int) : wo.sp p (wd.sv xs p a s) = true ∧ ∀ x ∈ wd.sv xs p a s, -3 ≤ x ∧ x ≤ 36 := by
  have hl := wd_length xs p a s
  have hp : 2 ≤ 2 ^ p := by
    have := Nat.pow_le_pow_right (show 1 ≤ 2 by omega) h1
    omega
  have hr : ∀ x ∈ wd.sv xs p a s, -3 ≤ x ∧ x ≤ 36 := by
    intro x hx
    rw [wd.sv, fl.sv] at hx
    have hm : ∀ x ∈ (0 :: dk.sv xs ((r8.nx.sv xs a s).tmod 3) (2 ^ p - 1) 1 (a + 1) (r8.seed.sv xs a s) : List Int), -3 ≤ x ∧ x ≤ 36 := by
      intro x hx
      rcases List.mem_cons.1 hx with rfl | hx
      · omega
      · exact dk_in h _ _ _ _ _ x hx
    revert hx
    cases (r8.nx.sv xs a s).tmod 3 == 2
    · exact hm x
    · intro hx
      rcases List.mem_or_eq_of_mem_set hx with hx | rfl
      · exact hm x hx
      · omega
  refine ⟨?_, hr⟩
  have h0 : gz (wd.sv xs p a s) 0 = 0 := by
    rw [wd.sv, fl.sv]
    have hd := dk_length xs ((r8.nx.sv xs a s).tmod 3) (2 ^ p - 1) 1 (a + 1) (r8.seed.sv xs a s)
    cases (r8.nx.sv xs a s).tmod 3 == 2
    · rfl
    · rw [cond_true, gz_set (by rw [List.length_cons]; omega), if_neg (by rw [List.length_cons]; omega)]
      rfl
  simp only [wo.sp, Int.toNat_natCast, hl, h0, decide_true, Bool.true_and, Bool.and_true, Bool.and_eq_true, decide_eq_true_eq, List.all_eq_true]
  exact ⟨by omega, fun x hx => by have := hr x hx; omega⟩
end wo

namespace l03DrawOk
def R : List AVal → Heap → Option (Bool × AVal × Heap)
  | [.ptr 0 0 0, .int .i64 p], [⟨.cells [.ro (.ints .u8 xs) m 1, .int .i64 a, .int .u64 s], 0⟩] => some (decide (m = xs.length ∧ m ≤ 2000000 ∧ 0 ≤ a ∧ a ≤ 100 ∧ 1 ≤ p ∧ p ≤ 6) && r8.bytes.sp xs, .agg [.int .i64 p, .own 3 0 (2 ^ p.toNat) 0 1], [⟨.cells [.ro (.ints .u8 xs) m 1, .int .i64 ((wo.da.sv ((r8.nx.sv xs a.toNat s).tmod 3) (2 ^ p.toNat - 1) (a.toNat + 1) : Nat) : Int), .int .u64 (wo.ds.sv xs ((r8.nx.sv xs a.toNat s).tmod 3) (2 ^ p.toNat - 1) (a.toNat + 1) (r8.seed.sv xs a.toNat s))], 0⟩, ⟨.cells [.int .i64 p, .own 3 0 (2 ^ p.toNat) 0 1], 0⟩, ⟨.cells [.int .i64 p, .own 3 0 (2 ^ p.toNat) 0 1], 0⟩, ⟨.typ (.ints .i64 (wo.wd.sv xs p.toNat a.toNat s)), 0⟩])
  | _, _ => none
def hd : Nat → Head := fun _ => ⟨[0, 1, 4, 5, 6, 7, 998], none⟩
noncomputable def L (f n : Nat) (s : State) := loopAt Try.prog (orcW [⟨85, bPick.R⟩] [⟨112, l03Count.R⟩]) hd Dr.std 1 f (bodyOf Try.f54) 0 [true, true, true, false, true] (retK Try.prog [.cell 4 27] 1 none) n s
theorem start (xs : List Int) (p a s : Int) (f : Nat) :
  runFn Try.prog (orcW [⟨85, bPick.R⟩] [⟨112, l03Count.R⟩]) hd Dr.std none f (bodyOf Try.f54) 51 [.cell 4 27] [.ptr 0 0 0, .int .i64 p] [⟨.cells [.ro (.ints .u8 xs) xs.length 1, .int .i64 a, .int .u64 s], 0⟩]
  = (bif true && true then bif decide (xs.length = xs.length ∧ xs.length ≤ (2000000 : Nat) ∧ (0 : Int) ≤ a ∧ a ≤ (1000000 : Int) ∧ (1 : Int) ≤ (3 : Int) ∧ (3 : Int) ≤ (200 : Int)) && (true && (true && true)) then L f f (mkS (51 : Nat) [((0 : Nat), AVal.ptr (0 : Nat) (0 : Nat) (0 : Nat)), ((1 : Nat), AVal.int IntKind.i64 p), ((4 : Nat), AVal.ptr (1 : Nat) (0 : Nat) (0 : Nat)), ((5 : Nat), AVal.ptr (2 : Nat) (0 : Nat) (0 : Nat)), ((6 : Nat), AVal.int IntKind.i64 ((r8.nx.sv xs a.toNat s).tmod (3 : Int))), ((7 : Nat), AVal.int IntKind.i64 (1 : Int))] [{ c := BC.cells [AVal.ro (Cont.ints IntKind.u8 xs) xs.length (1 : Nat), AVal.int IntKind.i64 (a + (1 : Int)), AVal.int IntKind.u64 (r8.seed.sv xs a.toNat s)], ver := (0 : Nat) }, { c := BC.cells [AVal.int IntKind.i64 (0 : Int), AVal.nils], ver := (0 : Nat) }, { c := BC.cells [AVal.int IntKind.i64 p, AVal.own (3 : Nat) (0 : Nat) (1 : Nat) (0 : Nat) (1 : Nat)], ver := (0 : Nat) }, { c := BC.typ (Cont.ints IntKind.i64 ((List.replicate (1 : Nat) (0 : Int)).set (0 : Nat) (0 : Int))), ver := (0 : Nat) }]) else none else none) := by kernel_rfl
theorem round (xs os : List Int) (p a s c k : Int) (q f n : Nat) :
  L f (n + 1) (mkS 51 [(0, .ptr 0 0 0), (1, .int .i64 p), (4, .ptr 1 0 0), (5, .ptr 2 0 0), (6, .int .i64 c), (7, .int .i64 k)] [⟨.cells [.ro (.ints .u8 xs) xs.length 1, .int .i64 a, .int .u64 s], 0⟩, ⟨.cells [.int .i64 0, .nils], 0⟩, ⟨.cells [.int .i64 p, .own 3 0 q 0 1], 0⟩, ⟨.typ (.ints .i64 os), 0⟩])
  = (bif decide ((0 : Int) ≤ IntKind.u64.wrap p) then bif decide (k < ishl.sv IntKind.i64 (1 : Int) (IntKind.u64.wrap p)) then bif decide (xs.length = xs.length ∧ xs.length ≤ (2000000 : Nat) ∧ (0 : Int) ≤ a ∧ a ≤ (1000000 : Int) ∧ (1 : Int) ≤ (13 : Int) ∧ (13 : Int) ≤ (200 : Int)) && (true && (true && true)) then bif c == (1 : Int) then bif decide ((0 : Int) ≤ k ∧ k < (64 : Int)) && (true && true || true && true) then bif decide ((0 : Int) ≤ k ∧ k < (64 : Int)) && (true && true || true && true) then bif c == (2 : Int) then bif decide (xs.length = xs.length ∧ xs.length ≤ (2000000 : Nat) ∧ (0 : Int) ≤ a + (1 : Int) ∧ a + (1 : Int) ≤ (1000000 : Int) ∧ (1 : Int) ≤ (2 : Int) ∧ (2 : Int) ≤ (200 : Int)) && (true && (true && true)) then bif true && true then bif (1 : Nat) == (1 : Nat) && (1 : Nat) == (1 : Nat) && (true && (true && true) && (true && true && (decide (q + (List.take (1 : Nat) (List.drop (0 : Nat) ((List.replicate (1 : Nat) (0 : Int)).set (0 : Nat) ((r8.nx.sv xs (a + (1 : Int)).toNat (r8.seed.sv xs a.toNat s)).tmod (2 : Int))))).length ≤ (4611686018427387904 : Nat)) && decide ((q + (List.take (1 : Nat) (List.drop (0 : Nat) ((List.replicate (1 : Nat) (0 : Int)).set (0 : Nat) ((r8.nx.sv xs (a + (1 : Int)).toNat (r8.seed.sv xs a.toNat s)).tmod (2 : Int))))).length) * (8 : Nat) ≤ (140737488355328 : Nat))))) then L f n (mkS (51 : Nat) [((0 : Nat), AVal.ptr (0 : Nat) (0 : Nat) (0 : Nat)), ((1 : Nat), AVal.int IntKind.i64 p), ((4 : Nat), AVal.ptr (1 : Nat) (0 : Nat) (0 : Nat)), ((5 : Nat), AVal.ptr (2 : Nat) (0 : Nat) (0 : Nat)), ((6 : Nat), AVal.int IntKind.i64 c), ((7 : Nat), AVal.int IntKind.i64 (IntKind.i64.wrap (k + (1 : Int))))] [{ c := BC.cells [AVal.ro (Cont.ints IntKind.u8 xs) xs.length (1 : Nat), AVal.int IntKind.i64 (a + (1 : Int) + (1 : Int)), AVal.int IntKind.u64 (r8.seed.sv xs (a + (1 : Int)).toNat (r8.seed.sv xs a.toNat s))], ver := (0 : Nat) }, { c := BC.cells [AVal.int IntKind.i64 (0 : Int), AVal.nils], ver := (0 : Nat) }, { c := BC.cells [AVal.int IntKind.i64 p, AVal.own (3 : Nat) (0 : Nat) (q + (List.take (1 : Nat) (List.drop (0 : Nat) ((List.replicate (1 : Nat) (0 : Int)).set (0 : Nat) ((r8.nx.sv xs (a + (1 : Int)).toNat (r8.seed.sv xs a.toNat s)).tmod (2 : Int))))).length) (0 : Nat) (1 : Nat)], ver := (0 : Nat) }, { c := BC.typ (Cont.ints IntKind.i64 (List.take q os ++ List.take (1 : Nat) (List.drop (0 : Nat) ((List.replicate (1 : Nat) (0 : Int)).set (0 : Nat) ((r8.nx.sv xs (a + (1 : Int)).toNat (r8.seed.sv xs a.toNat s)).tmod (2 : Int)))))), ver := (0 : Nat) }]) else none else none else none else bif true && true then bif (1 : Nat) == (1 : Nat) && (1 : Nat) == (1 : Nat) && (true && (true && true) && (true && true && (decide (q + (List.take (1 : Nat) (List.drop (0 : Nat) ((List.replicate (1 : Nat) (0 : Int)).set (0 : Nat) (IntKind.i64.wrap ((↑(wo.cnt.sv k.toNat) : Int) * (↑(wo.cnt.sv k.toNat) : Int)))))).length ≤ (4611686018427387904 : Nat)) && decide ((q + (List.take (1 : Nat) (List.drop (0 : Nat) ((List.replicate (1 : Nat) (0 : Int)).set (0 : Nat) (IntKind.i64.wrap ((↑(wo.cnt.sv k.toNat) : Int) * (↑(wo.cnt.sv k.toNat) : Int)))))).length) * (8 : Nat) ≤ (140737488355328 : Nat))))) then L f n (mkS (51 : Nat) [((0 : Nat), AVal.ptr (0 : Nat) (0 : Nat) (0 : Nat)), ((1 : Nat), AVal.int IntKind.i64 p), ((4 : Nat), AVal.ptr (1 : Nat) (0 : Nat) (0 : Nat)), ((5 : Nat), AVal.ptr (2 : Nat) (0 : Nat) (0 : Nat)), ((6 : Nat), AVal.int IntKind.i64 c), ((7 : Nat), AVal.int IntKind.i64 (IntKind.i64.wrap (k + (1 : Int))))] [{ c := BC.cells [AVal.ro (Cont.ints IntKind.u8 xs) xs.length (1 : Nat), AVal.int IntKind.i64 (a + (1 : Int)), AVal.int IntKind.u64 (r8.seed.sv xs a.toNat s)], ver := (0 : Nat) }, { c := BC.cells [AVal.int IntKind.i64 (0 : Int), AVal.nils], ver := (0 : Nat) }, { c := BC.cells [AVal.int IntKind.i64 p, AVal.own (3 : Nat) (0 : Nat) (q + (List.take (1 : Nat) (List.drop (0 : Nat) ((List.replicate (1 : Nat) (0 : Int)).set (0 : Nat) (IntKind.i64.wrap ((↑(wo.cnt.sv k.toNat) : Int) * (↑(wo.cnt.sv k.toNat) : Int)))))).length) (0 : Nat) (1 : Nat)], ver := (0 : Nat) }, { c := BC.typ (Cont.ints IntKind.i64 (List.take q os ++ List.take (1 : Nat) (List.drop (0 : Nat) ((List.replicate (1 : Nat) (0 : Int)).set (0 : Nat) (IntKind.i64.wrap ((↑(wo.cnt.sv k.toNat) : Int) * (↑(wo.cnt.sv k.toNat) : Int))))))), ver := (0 : Nat) }]) else none else none else none else none else bif c == (2 : Int) then bif decide (xs.length = xs.length ∧ xs.length ≤ (2000000 : Nat) ∧ (0 : Int) ≤ a + (1 : Int) ∧ a + (1 : Int) ≤ (1000000 : Int) ∧ (1 : Int) ≤ (2 : Int) ∧ (2 : Int) ≤ (200 : Int)) && (true && (true && true)) then bif true && true then bif (1 : Nat) == (1 : Nat) && (1 : Nat) == (1 : Nat) && (true && (true && true) && (true && true && (decide (q + (List.take (1 : Nat) (List.drop (0 : Nat) ((List.replicate (1 : Nat) (0 : Int)).set (0 : Nat) ((r8.nx.sv xs (a + (1 : Int)).toNat (r8.seed.sv xs a.toNat s)).tmod (2 : Int))))).length ≤ (4611686018427387904 : Nat)) && decide ((q + (List.take (1 : Nat) (List.drop (0 : Nat) ((List.replicate (1 : Nat) (0 : Int)).set (0 : Nat) ((r8.nx.sv xs (a + (1 : Int)).toNat (r8.seed.sv xs a.toNat s)).tmod (2 : Int))))).length) * (8 : Nat) ≤ (140737488355328 : Nat))))) then L f n (mkS (51 : Nat) [((0 : Nat), AVal.ptr (0 : Nat) (0 : Nat) (0 : Nat)), ((1 : Nat), AVal.int IntKind.i64 p), ((4 : Nat), AVal.ptr (1 : Nat) (0 : Nat) (0 : Nat)), ((5 : Nat), AVal.ptr (2 : Nat) (0 : Nat) (0 : Nat)), ((6 : Nat), AVal.int IntKind.i64 c), ((7 : Nat), AVal.int IntKind.i64 (IntKind.i64.wrap (k + (1 : Int))))] [{ c := BC.cells [AVal.ro (Cont.ints IntKind.u8 xs) xs.length (1 : Nat), AVal.int IntKind.i64 (a + (1 : Int) + (1 : Int)), AVal.int IntKind.u64 (r8.seed.sv xs (a + (1 : Int)).toNat (r8.seed.sv xs a.toNat s))], ver := (0 : Nat) }, { c := BC.cells [AVal.int IntKind.i64 (0 : Int), AVal.nils], ver := (0 : Nat) }, { c := BC.cells [AVal.int IntKind.i64 p, AVal.own (3 : Nat) (0 : Nat) (q + (List.take (1 : Nat) (List.drop (0 : Nat) ((List.replicate (1 : Nat) (0 : Int)).set (0 : Nat) ((r8.nx.sv xs (a + (1 : Int)).toNat (r8.seed.sv xs a.toNat s)).tmod (2 : Int))))).length) (0 : Nat) (1 : Nat)], ver := (0 : Nat) }, { c := BC.typ (Cont.ints IntKind.i64 (List.take q os ++ List.take (1 : Nat) (List.drop (0 : Nat) ((List.replicate (1 : Nat) (0 : Int)).set (0 : Nat) ((r8.nx.sv xs (a + (1 : Int)).toNat (r8.seed.sv xs a.toNat s)).tmod (2 : Int)))))), ver := (0 : Nat) }]) else none else none else none else bif true && true then bif (1 : Nat) == (1 : Nat) && (1 : Nat) == (1 : Nat) && (true && (true && true) && (true && true && (decide (q + (List.take (1 : Nat) (List.drop (0 : Nat) ((List.replicate (1 : Nat) (0 : Int)).set (0 : Nat) (IntKind.i64.wrap ((r8.nx.sv xs a.toNat s).tmod (13 : Int) - (3 : Int)))))).length ≤ (4611686018427387904 : Nat)) && decide ((q + (List.take (1 : Nat) (List.drop (0 : Nat) ((List.replicate (1 : Nat) (0 : Int)).set (0 : Nat) (IntKind.i64.wrap ((r8.nx.sv xs a.toNat s).tmod (13 : Int) - (3 : Int)))))).length) * (8 : Nat) ≤ (140737488355328 : Nat))))) then L f n (mkS (51 : Nat) [((0 : Nat), AVal.ptr (0 : Nat) (0 : Nat) (0 : Nat)), ((1 : Nat), AVal.int IntKind.i64 p), ((4 : Nat), AVal.ptr (1 : Nat) (0 : Nat) (0 : Nat)), ((5 : Nat), AVal.ptr (2 : Nat) (0 : Nat) (0 : Nat)), ((6 : Nat), AVal.int IntKind.i64 c), ((7 : Nat), AVal.int IntKind.i64 (IntKind.i64.wrap (k + (1 : Int))))] [{ c := BC.cells [AVal.ro (Cont.ints IntKind.u8 xs) xs.length (1 : Nat), AVal.int IntKind.i64 (a + (1 : Int)), AVal.int IntKind.u64 (r8.seed.sv xs a.toNat s)], ver := (0 : Nat) }, { c := BC.cells [AVal.int IntKind.i64 (0 : Int), AVal.nils], ver := (0 : Nat) }, { c := BC.cells [AVal.int IntKind.i64 p, AVal.own (3 : Nat) (0 : Nat) (q + (List.take (1 : Nat) (List.drop (0 : Nat) ((List.replicate (1 : Nat) (0 : Int)).set (0 : Nat) (IntKind.i64.wrap ((r8.nx.sv xs a.toNat s).tmod (13 : Int) - (3 : Int)))))).length) (0 : Nat) (1 : Nat)], ver := (0 : Nat) }, { c := BC.typ (Cont.ints IntKind.i64 (List.take q os ++ List.take (1 : Nat) (List.drop (0 : Nat) ((List.replicate (1 : Nat) (0 : Int)).set (0 : Nat) (IntKind.i64.wrap ((r8.nx.sv xs a.toNat s).tmod (13 : Int) - (3 : Int))))))), ver := (0 : Nat) }]) else none else none else none else bif c == (2 : Int) then bif true && true then bif true && true then bif true && (decide ((0 : Int) ≤ IntKind.i64.wrap ((↑q : Int) - (1 : Int))) && decide (IntKind.i64.wrap ((↑q : Int) - (1 : Int)) < (↑q : Int))) then bif true && (true && (decide ((IntKind.i64.wrap ((↑q : Int) - (1 : Int))).toNat < os.length) && true)) then bif true && true && (true && true && true) then bif true && true && (true && true && true) && true then some (AVal.agg [AVal.int IntKind.i64 p, AVal.own (3 : Nat) (0 : Nat) q (0 : Nat) (1 : Nat)], [{ c := BC.cells [AVal.ro (Cont.ints IntKind.u8 xs) xs.length (1 : Nat), AVal.int IntKind.i64 a, AVal.int IntKind.u64 s], ver := (0 : Nat) }, { c := BC.cells [AVal.int IntKind.i64 p, AVal.own (3 : Nat) (0 : Nat) q (0 : Nat) (1 : Nat)], ver := (0 : Nat) }, { c := BC.cells [AVal.int IntKind.i64 p, AVal.own (3 : Nat) (0 : Nat) q (0 : Nat) (1 : Nat)], ver := (0 : Nat) }, { c := BC.typ (Cont.ints IntKind.i64 (os.set (IntKind.i64.wrap ((↑q : Int) - (1 : Int))).toNat (1 : Int))), ver := (0 : Nat) }]) else none else none else none else none else none else none else bif true && true && (true && true && true) then bif true && true && (true && true && true) && true then some (AVal.agg [AVal.int IntKind.i64 p, AVal.own (3 : Nat) (0 : Nat) q (0 : Nat) (1 : Nat)], [{ c := BC.cells [AVal.ro (Cont.ints IntKind.u8 xs) xs.length (1 : Nat), AVal.int IntKind.i64 a, AVal.int IntKind.u64 s], ver := (0 : Nat) }, { c := BC.cells [AVal.int IntKind.i64 p, AVal.own (3 : Nat) (0 : Nat) q (0 : Nat) (1 : Nat)], ver := (0 : Nat) }, { c := BC.cells [AVal.int IntKind.i64 p, AVal.own (3 : Nat) (0 : Nat) q (0 : Nat) (1 : Nat)], ver := (0 : Nat) }, { c := BC.typ (Cont.ints IntKind.i64 os), ver := (0 : Nat) }]) else none else none else none) := by kernel_rfl
theorem loop (xs : List Int) (p f : Nat) (c : Int) (hp : 1 ≤ p ∧ p ≤ 6) (hx : xs.length ≤ 2000000) (hb : r8.bytes.sp xs = true) (hc : 0 ≤ c ∧ c ≤ 2) : ∀ (d k n a : Nat) (s : Int) (os : List Int), k + d = 2 ^ p → d < n → os.length = k → 1 ≤ k → a + 2 * d ≤ 1000 →
    L f n (mkS 51 [(0, .ptr 0 0 0), (1, .int .i64 ((p : Nat) : Int)), (4, .ptr 1 0 0), (5, .ptr 2 0 0), (6, .int .i64 c), (7, .int .i64 ((k : Nat) : Int))] [⟨.cells [.ro (.ints .u8 xs) xs.length 1, .int .i64 ((a : Nat) : Int), .int .u64 s], 0⟩, ⟨.cells [.int .i64 0, .nils], 0⟩, ⟨.cells [.int .i64 ((p : Nat) : Int), .own 3 0 k 0 1], 0⟩, ⟨.typ (.ints .i64 os), 0⟩]) = some (.agg [.int .i64 ((p : Nat) : Int), .own 3 0 (2 ^ p) 0 1], [⟨.cells [.ro (.ints .u8 xs) xs.length 1, .int .i64 ((wo.da.sv c d a : Nat) : Int), .int .u64 (wo.ds.sv xs c d a s)], 0⟩, ⟨.cells [.int .i64 ((p : Nat) : Int), .own 3 0 (2 ^ p) 0 1], 0⟩, ⟨.cells [.int .i64 ((p : Nat) : Int), .own 3 0 (2 ^ p) 0 1], 0⟩, ⟨.typ (.ints .i64 (wo.fl.sv c (os ++ wo.dk.sv xs c d k a s))), 0⟩]) := by
  have h64 := wo.pow_le hp.2
  have e1 : IntKind.u64.wrap ((p : Nat) : Int) = ((p : Nat) : Int) := wo.u64_nat p (by omega)
  have s1 := wo.shl_one p (by omega)
  intro d
  induction d with
  | zero =>
    intro k n a s os hk hn hl h1 ha
    obtain ⟨n, rfl⟩ : ∃ k, n = k + 1 := ⟨n - 1, by omega⟩
    obtain rfl : k = 2 ^ p := by omega
    have ek : ((2 ^ p : Nat) : Int) - 1 = ((2 ^ p - 1 : Nat) : Int) := by omega
    rw [round]
    simp only [wo.dk.sv, wo.da.sv, wo.ds.sv, List.append_nil, wo.fl.sv, hl]
    by_cases c2 : c = 2
    · simp -implicitDefEqProofs (disch := omega) only [e1, s1, ek, take_one, set_one, decide_eq_true, decide_eq_false, IntWalk.i64_in, beqT, beqF, bneT, bneF, nat_succ, ← Int.natCast_mul, ← Int.natCast_add, Int.toNat_natCast, Int.zero_mul, Int.zero_add, Int.add_zero, Nat.zero_add, Nat.add_zero, Nat.zero_mul, List.length_singleton, List.length_append, List.length_nil, List.length_cons, List.take_length, List.drop_zero, List.replicate_zero, List.take_nil, List.nil_append, Nat.reduceBEq, Nat.reduceMul, Nat.reduceLeDiff, eq_self, and_self, true_and, and_true, decide_true, decide_false, Bool.and_self, Bool.or_self, Bool.and_true, Bool.true_and, Bool.and_false, Bool.false_and, Bool.or_true, Bool.true_or, Bool.or_false, Bool.false_or, Bool.not_true, Bool.not_false, cond_true, cond_false]
    · simp -implicitDefEqProofs (disch := omega) only [e1, s1, ek, take_one, set_one, decide_eq_true, decide_eq_false, IntWalk.i64_in, beqT, beqF, bneT, bneF, nat_succ, ← Int.natCast_mul, ← Int.natCast_add, Int.toNat_natCast, Int.zero_mul, Int.zero_add, Int.add_zero, Nat.zero_add, Nat.add_zero, Nat.zero_mul, List.length_singleton, List.length_append, List.length_nil, List.length_cons, List.take_length, List.drop_zero, List.replicate_zero, List.take_nil, List.nil_append, Nat.reduceBEq, Nat.reduceMul, Nat.reduceLeDiff, eq_self, and_self, true_and, and_true, decide_true, decide_false, Bool.and_self, Bool.or_self, Bool.and_true, Bool.true_and, Bool.and_false, Bool.false_and, Bool.or_true, Bool.true_or, Bool.or_false, Bool.false_or, Bool.not_true, Bool.not_false, cond_true, cond_false]
  | succ d ih =>
    intro k n a s os hk hn hl h1 ha
    obtain ⟨n, rfl⟩ : ∃ k, n = k + 1 := ⟨n - 1, by omega⟩
    have hna : wo.na.sv c a ≤ a + 2 := by unfold wo.na.sv; cases c == 2 <;> simp only [cond_true, cond_false] <;> omega
    have g := ih (k + 1) n (wo.na.sv c a) (wo.ns.sv xs c a s) (os ++ [wo.xv.sv xs c k a s]) (by omega) (by omega) (by rw [List.length_append, List.length_singleton, hl]) (by omega) (by omega)
    rw [List.append_assoc] at g
    have hn1 := r8.nx_ok hb a s
    have t1 := r8.tmod_in (n := 13) hn1.1 (by omega)
    have hcc := Nat.mul_le_mul (wo.cnt_le k) (wo.cnt_le k)
    have tk : List.take k os = os := by rw [← hl, List.take_length]
    rw [round]
    simp only [wo.dk.sv, wo.da.sv, wo.ds.sv]
    by_cases c2 : c = 2
    · have q2 : (c == 2) = true := beqT c2
      have q1 : (c == 1) = false := beqF (by omega)
      rw [show wo.na.sv c a = a + 1 + 1 from by rw [wo.na.sv, q2, cond_true], show wo.ns.sv xs c a s = r8.seed.sv xs (a + 1) (r8.seed.sv xs a s) from by rw [wo.ns.sv, q2, cond_true], show wo.xv.sv xs c k a s = (r8.nx.sv xs (a + 1) (r8.seed.sv xs a s)).tmod 2 from by rw [wo.xv.sv, q2, cond_true]] at g ⊢
      simp -implicitDefEqProofs (disch := omega) only [e1, s1, q1, q2, tk, hl, take_one, set_one, decide_eq_true, decide_eq_false, IntWalk.i64_in, beqT, beqF, bneT, bneF, nat_succ, ← Int.natCast_mul, ← Int.natCast_add, Int.toNat_natCast, Int.zero_mul, Int.zero_add, Int.add_zero, Nat.zero_add, Nat.add_zero, Nat.zero_mul, List.length_singleton, List.length_append, List.length_nil, List.length_cons, List.take_length, List.drop_zero, List.replicate_zero, List.take_nil, List.nil_append, Nat.reduceBEq, Nat.reduceMul, Nat.reduceLeDiff, eq_self, and_self, true_and, and_true, decide_true, decide_false, Bool.and_self, Bool.or_self, Bool.and_true, Bool.true_and, Bool.and_false, Bool.false_and, Bool.or_true, Bool.true_or, Bool.or_false, Bool.false_or, Bool.not_true, Bool.not_false, cond_true, cond_false]
      exact g
    · have q2 : (c == 2) = false := beqF c2
      by_cases c1 : c = 1
      · have q1 : (c == 1) = true := beqT c1
        rw [show wo.na.sv c a = a + 1 from by rw [wo.na.sv, q2, cond_false], show wo.ns.sv xs c a s = r8.seed.sv xs a s from by rw [wo.ns.sv, q2, cond_false], show wo.xv.sv xs c k a s = ((wo.cnt.sv k * wo.cnt.sv k : Nat) : Int) from by rw [wo.xv.sv, q2, q1, cond_true, cond_false]] at g ⊢
        simp -implicitDefEqProofs (disch := omega) only [e1, s1, q1, q2, tk, hl, take_one, set_one, decide_eq_true, decide_eq_false, IntWalk.i64_in, beqT, beqF, bneT, bneF, nat_succ, ← Int.natCast_mul, ← Int.natCast_add, Int.toNat_natCast, Int.zero_mul, Int.zero_add, Int.add_zero, Nat.zero_add, Nat.add_zero, Nat.zero_mul, List.length_singleton, List.length_append, List.length_nil, List.length_cons, List.take_length, List.drop_zero, List.replicate_zero, List.take_nil, List.nil_append, Nat.reduceBEq, Nat.reduceMul, Nat.reduceLeDiff, eq_self, and_self, true_and, and_true, decide_true, decide_false, Bool.and_self, Bool.or_self, Bool.and_true, Bool.true_and, Bool.and_false, Bool.false_and, Bool.or_true, Bool.true_or, Bool.or_false, Bool.false_or, Bool.not_true, Bool.not_false, cond_true, cond_false]
        exact g
      · have q1 : (c == 1) = false := beqF c1
        rw [show wo.na.sv c a = a + 1 from by rw [wo.na.sv, q2, cond_false], show wo.ns.sv xs c a s = r8.seed.sv xs a s from by rw [wo.ns.sv, q2, cond_false], show wo.xv.sv xs c k a s = (r8.nx.sv xs a s).tmod 13 - 3 from by rw [wo.xv.sv, q2, q1, cond_false, cond_false]] at g ⊢
        simp -implicitDefEqProofs (disch := omega) only [e1, s1, q1, q2, tk, hl, take_one, set_one, decide_eq_true, decide_eq_false, IntWalk.i64_in, beqT, beqF, bneT, bneF, nat_succ, ← Int.natCast_mul, ← Int.natCast_add, Int.toNat_natCast, Int.zero_mul, Int.zero_add, Int.add_zero, Nat.zero_add, Nat.add_zero, Nat.zero_mul, List.length_singleton, List.length_append, List.length_nil, List.length_cons, List.take_length, List.drop_zero, List.replicate_zero, List.take_nil, List.nil_append, Nat.reduceBEq, Nat.reduceMul, Nat.reduceLeDiff, eq_self, and_self, true_and, and_true, decide_true, decide_false, Bool.and_self, Bool.or_self, Bool.and_true, Bool.true_and, Bool.and_false, Bool.false_and, Bool.or_true, Bool.true_or, Bool.or_false, Bool.false_or, Bool.not_true, Bool.not_false, cond_true, cond_false]
        exact g
theorem run : ∀ args H v new, R args H = some (true, v, new) → ∃ fuel, runFn Try.prog (orcW [⟨85, bPick.R⟩] [⟨112, l03Count.R⟩]) hd Dr.std none fuel (bodyOf Try.f54) 51 [.cell 4 27] args H = some (v, new) := by
  intro args H v new h
  unfold R at h
  split at h
  · rename_i p xs m a s
    simp only [Option.some.injEq, Prod.mk.injEq, Bool.and_eq_true, decide_eq_true_eq] at h
    obtain ⟨⟨⟨rfl, h1, h2, h3, h4, h5⟩, hb⟩, rfl, rfl⟩ := h
    obtain ⟨p, rfl⟩ : ∃ q : Nat, p = q := ⟨p.toNat, by omega⟩
    obtain ⟨a, rfl⟩ : ∃ q : Nat, a = q := ⟨a.toNat, by omega⟩
    have h64 := wo.pow_le (show p ≤ 6 by omega)
    have h1p := wo.pow_pos p
    have hn1 := r8.nx_ok hb a s
    have t1 := r8.tmod_in (n := 3) hn1.1 (by omega)
    obtain ⟨F, hF⟩ : ∃ F : Nat, F = 100 := ⟨100, rfl⟩
    refine ⟨F, ?_⟩
    have g := loop xs p F ((r8.nx.sv xs a s).tmod 3) (by omega) h1 hb (by omega) (2 ^ p - 1) 1 F (a + 1) (r8.seed.sv xs a s) [0] (by omega) (by omega) rfl (by omega) (by omega)
    rw [start]
    simp -implicitDefEqProofs (disch := omega) only [take_one, set_one, decide_eq_true, decide_eq_false, IntWalk.i64_in, beqT, beqF, bneT, bneF, nat_succ, ← Int.natCast_mul, ← Int.natCast_add, Int.toNat_natCast, Int.zero_mul, Int.zero_add, Int.add_zero, Nat.zero_add, Nat.add_zero, Nat.zero_mul, List.length_singleton, List.length_append, List.length_nil, List.length_cons, List.take_length, List.drop_zero, List.replicate_zero, List.take_nil, List.nil_append, Nat.reduceBEq, Nat.reduceMul, Nat.reduceLeDiff, eq_self, and_self, true_and, and_true, decide_true, decide_false, Bool.and_self, Bool.or_self, Bool.and_true, Bool.true_and, Bool.and_false, Bool.false_and, Bool.or_true, Bool.true_or, Bool.or_false, Bool.false_or, Bool.not_true, Bool.not_false, cond_true, cond_false]
    exact g
  · cases h
theorem ok : EntWOk Try.prog ⟨54, R⟩ :=
  entw_ok mixed (A := (orcW [⟨85, bPick.R⟩] [⟨112, l03Count.R⟩])) (orcW_ok (by simp only [List.mem_cons, List.not_mem_nil, or_false, forall_eq_or_imp, forall_eq]; exact bPick.ok) (by simp only [List.mem_cons, List.not_mem_nil, or_false, forall_eq_or_imp, forall_eq]; exact l03Count.ok)) Try.func54 (by kernel_rfl) (by kernel_rfl) (n := 51) (ts := [.cell 4 27]) (hd := hd) (dr := Dr.std) (cut := none) (by kernel_rfl) (by kernel_rfl) (by kernel_rfl) run
end l03DrawOk

namespace B10Worths
def R : List AVal → Option (Bool × AVal × List Blk)
  | [.ro (.ints .u8 xs) m 1, .int .i64 p] => some (decide (m = xs.length ∧ m ≤ 2000000 ∧ 1 ≤ p ∧ p ≤ 6) && r8.bytes.sp xs, .agg [.int .i64 p, .ro (.ints .i64 (wo.wd.sv xs p.toNat 0 0)) (2 ^ p.toNat) 1], [])
  | _ => none
theorem go (xs : List Int) (p : Int) :
  runFn Try.prog (orcW [⟨54, l03DrawOk.R⟩] [⟨53, l00From.R⟩]) hd0 Dr.std (some 0) 0 (bodyOf Try.f9) 11 [.cell 4 27] [.ro (.ints .u8 xs) xs.length 1, .int .i64 p] []
  = (bif true && (true && true || true && (false && true && true)) then bif decide (xs.length = xs.length ∧ xs.length ≤ (2000000 : Nat) ∧ (0 : Int) ≤ (0 : Int) ∧ (0 : Int) ≤ (100 : Int) ∧ (1 : Int) ≤ p ∧ p ≤ (6 : Int)) && r8.bytes.sp xs && (true && (true && true)) then bif true && true && (true && true && true) && true then some (AVal.agg [AVal.int IntKind.i64 p, AVal.ro (Cont.ints IntKind.i64 (wo.wd.sv xs p.toNat (0 : Nat) (0 : Int))) ((2 : Nat) ^ p.toNat) (1 : Nat)], []) else none else none else none) := by kernel_rfl
theorem run : ∀ args v new, R args = some (true, v, new) → ∃ fuel, runFn Try.prog (orcW [⟨54, l03DrawOk.R⟩] [⟨53, l00From.R⟩]) hd0 Dr.std (some 0) fuel (bodyOf Try.f9) 11 [.cell 4 27] args [] = some (v, new) := by
  intro args v new h
  unfold R at h
  split at h
  · rename_i xs m p
    simp only [Option.some.injEq, Prod.mk.injEq, Bool.and_eq_true, decide_eq_true_eq] at h
    obtain ⟨⟨⟨rfl, h1, h2, h3⟩, hb⟩, rfl, rfl⟩ := h
    refine ⟨0, ?_⟩
    rw [go]
    simp -implicitDefEqProofs (disch := omega) only [hb, take_one, set_one, decide_eq_true, decide_eq_false, IntWalk.i64_in, beqT, beqF, bneT, bneF, nat_succ, ← Int.natCast_mul, ← Int.natCast_add, Int.toNat_natCast, Int.zero_mul, Int.zero_add, Int.add_zero, Nat.zero_add, Nat.add_zero, Nat.zero_mul, List.length_singleton, List.length_append, List.length_nil, List.length_cons, List.take_length, List.drop_zero, List.replicate_zero, List.take_nil, List.nil_append, Nat.reduceBEq, Nat.reduceMul, Nat.reduceLeDiff, eq_self, and_self, true_and, and_true, decide_true, decide_false, Bool.and_self, Bool.or_self, Bool.and_true, Bool.true_and, Bool.and_false, Bool.false_and, Bool.or_true, Bool.true_or, Bool.or_false, Bool.false_or, Bool.not_true, Bool.not_false, cond_true, cond_false]
    try rfl
  · cases h
theorem ok : EntOk Try.prog ⟨9, R⟩ :=
  ent_okA mixed (A := (orcW [⟨54, l03DrawOk.R⟩] [⟨53, l00From.R⟩])) (orcW_ok (by simp only [List.mem_cons, List.not_mem_nil, or_false, forall_eq_or_imp, forall_eq]; exact l03DrawOk.ok) (by simp only [List.mem_cons, List.not_mem_nil, or_false, forall_eq_or_imp, forall_eq]; exact l00From.ok)) Try.func9 (by kernel_rfl) (by kernel_rfl) (n := 11) (ts := [.cell 4 27]) (hd := hd0) (dr := Dr.std) (cut := (some 0)) (by kernel_rfl) (by kernel_rfl) (by kernel_rfl) run
end B10Worths

namespace wo
def ins.sv (os : List Int) (y : Nat) (v : Int) : List Int := os.take y ++ ([v] ++ os.drop y)
theorem ins_perm (os : List Int) (y : Nat) (v : Int) : List.Perm (ins.sv os y v) (v :: os) := by
  have h : List.Perm (os.take y ++ v :: os.drop y) (v :: (os.take y ++ os.drop y)) := List.perm_middle
  rw [List.take_append_drop] at h
  exact h
def yo.sv (xs : List Int) (k a : Nat) (s : Int) : Nat := ((r8.nx.sv xs a s).tmod ((k : Int) + 1)).toNat
def ka.sv (k a : Nat) : Nat := bif decide (k = 0) then a else a + 1
def kx.sv (xs : List Int) (k a : Nat) (s : Int) : Int := bif decide (k = 0) then s else r8.seed.sv xs a s
def od.sv (xs : List Int) : Nat → Nat → Nat → Int → List Int → List Int
  | 0, _, _, _, os => os
  | d + 1, k, a, s, os => od.sv xs d (k + 1) (ka.sv k a) (kx.sv xs k a s) (ins.sv os (yo.sv xs k a s) k)
def oa.sv : Nat → Nat → Nat → Nat
  | 0, _, a => a
  | d + 1, k, a => oa.sv d (k + 1) (ka.sv k a)
def ox.sv (xs : List Int) : Nat → Nat → Nat → Int → Int
  | 0, _, _, s => s
  | d + 1, k, a, s => ox.sv xs d (k + 1) (ka.sv k a) (kx.sv xs k a s)
/-- An order of the first k. -/
structure Ord (k : Nat) (os : List Int) : Prop where
  len : os.length = k
  ran : ∀ x ∈ os, 0 ≤ x ∧ x < (k : Int)
  nd : os.Nodup
  all : ∀ j : Nat, j < k → (j : Int) ∈ os
theorem ord_ins {k : Nat} {os : List Int} (h : Ord k os) (y : Nat) : Ord (k + 1) (ins.sv os y k) := by
  have p := ins_perm os y k
  refine ⟨?_, ?_, ?_, ?_⟩
  · rw [p.length_eq, List.length_cons, h.len]
  · intro x hx
    rcases List.mem_cons.1 (p.mem_iff.1 hx) with rfl | hx
    · omega
    · have := h.ran x hx; omega
  · rw [p.nodup_iff, List.nodup_cons]
    exact ⟨fun hm => by have := h.ran _ hm; omega, h.nd⟩
  · intro j hj
    rw [p.mem_iff, List.mem_cons]
    by_cases e : j = k
    · left; rw [e]
    · right; exact h.all j (by omega)
theorem od_ord (xs : List Int) : ∀ (d k a : Nat) (s : Int) (os : List Int), Ord k os → Ord (k + d) (od.sv xs d k a s os)
  | 0, k, _, _, os, h => h
  | d + 1, k, a, s, os, h => by
    rw [od.sv, show k + (d + 1) = k + 1 + d by omega]
    exact od_ord xs d (k + 1) _ _ _ (ord_ins h _)
theorem uniq_ord {n : Int} : ∀ {xs pre : List Int}, (∀ x ∈ xs, 0 ≤ x ∧ x < n) → xs.Nodup → (∀ x ∈ xs, x ∉ pre) → uniq.sq n pre xs = true
  | [], _, _, _, _ => rfl
  | y :: r, pre, h, nd, dj => by
    have hy := h y (List.mem_cons_self ..)
    rw [List.nodup_cons] at nd
    have hn : pre.any (has.sp y) = false := by
      rw [List.any_eq_false]
      intro z hz e
      simp only [has.sp, beq_iff_eq] at e
      subst e
      exact dj _ (List.mem_cons_self ..) hz
    simp only [uniq.sq, hn, Bool.not_false, Bool.and_true, Bool.and_eq_true, decide_eq_true_eq]
    refine ⟨by omega, uniq_ord (fun x hx => h x (List.mem_cons_of_mem _ hx)) nd.2 fun x hx hm => ?_⟩
    rcases List.mem_append.1 hm with hm | hm
    · exact dj x (List.mem_cons_of_mem _ hx) hm
    · rw [List.mem_singleton] at hm; subst hm; exact nd.1 hx
end wo

namespace l07DrawOrder
def R : List AVal → Heap → Option (Bool × AVal × Heap)
  | [.ptr 0 0 0, .int .i64 m], [⟨.cells [.ro (.ints .u8 xs) l 1, .int .i64 a, .int .u64 s], 0⟩] => some (decide (l = xs.length ∧ l ≤ 2000000 ∧ 0 ≤ a ∧ a ≤ 100 ∧ 0 ≤ m ∧ m ≤ 8) && r8.bytes.sp xs, .ro (.ints .i64 (wo.od.sv xs m.toNat 0 a.toNat s [])) m.toNat 1, [⟨.cells [.ro (.ints .u8 xs) l 1, .int .i64 ((wo.oa.sv m.toNat 0 a.toNat : Nat) : Int), .int .u64 (wo.ox.sv xs m.toNat 0 a.toNat s)], 0⟩])
  | _, _ => none
def hd : Nat → Head := fun _ => ⟨[0, 1, 5, 6], some 0⟩
noncomputable def L (f n : Nat) (s : State) := loopAt Try.prog (orcW [⟨85, bPick.R⟩] []) hd Dr.std 1 f (bodyOf Try.f61) 0 [true, true, false, true] (retK Try.prog [4] 1 (some 0)) n s
theorem start (xs : List Int) (m a s : Int) (f : Nat) :
  runFn Try.prog (orcW [⟨85, bPick.R⟩] []) hd Dr.std (some 0) f (bodyOf Try.f61) 34 [4] [.ptr 0 0 0, .int .i64 m] [⟨.cells [.ro (.ints .u8 xs) xs.length 1, .int .i64 a, .int .u64 s], 0⟩]
  = (bif true && true then L f f (mkS (34 : Nat) [((0 : Nat), AVal.ptr (0 : Nat) (0 : Nat) (0 : Nat)), ((1 : Nat), AVal.int IntKind.i64 m), ((5 : Nat), AVal.ro (Cont.ints IntKind.i64 (List.replicate (0 : Nat) (0 : Int))) (0 : Nat) (1 : Nat)), ((6 : Nat), AVal.int IntKind.i64 (0 : Int))] [{ c := BC.cells [AVal.ro (Cont.ints IntKind.u8 xs) xs.length (1 : Nat), AVal.int IntKind.i64 a, AVal.int IntKind.u64 s], ver := (0 : Nat) }]) else none) := by kernel_rfl
theorem round (xs os : List Int) (m a s k : Int) (q f n : Nat) :
  L f (n + 1) (mkS 34 [(0, .ptr 0 0 0), (1, .int .i64 m), (5, .ro (.ints .i64 os) q 1), (6, .int .i64 k)] [⟨.cells [.ro (.ints .u8 xs) xs.length 1, .int .i64 a, .int .u64 s], 0⟩])
  = (bif decide (k < m) then bif decide (xs.length = xs.length ∧ xs.length ≤ (2000000 : Nat) ∧ (0 : Int) ≤ a ∧ a ≤ (1000000 : Int) ∧ (1 : Int) ≤ IntKind.i64.wrap (k + (1 : Int)) ∧ IntKind.i64.wrap (k + (1 : Int)) ≤ (200 : Int)) && (true && (true && true)) then bif true && (decide ((0 : Int) ≤ (r8.nx.sv xs a.toNat s).tmod (IntKind.i64.wrap (k + (1 : Int)))) && decide ((r8.nx.sv xs a.toNat s).tmod (IntKind.i64.wrap (k + (1 : Int))) ≤ (↑q : Int)) && true) then bif (1 : Nat) == (1 : Nat) && (1 : Nat) == (1 : Nat) && (true && (true && true) && (true && (decide ((0 : Nat) + (List.take (((r8.nx.sv xs a.toNat s).tmod (IntKind.i64.wrap (k + (1 : Int)))).toNat - (0 : Nat)) (List.take (((r8.nx.sv xs a.toNat s).tmod (IntKind.i64.wrap (k + (1 : Int)))).toNat - (0 : Nat)) (List.drop (0 : Nat) os))).length ≤ (4611686018427387904 : Nat)) && decide (((0 : Nat) + (List.take (((r8.nx.sv xs a.toNat s).tmod (IntKind.i64.wrap (k + (1 : Int)))).toNat - (0 : Nat)) (List.take (((r8.nx.sv xs a.toNat s).tmod (IntKind.i64.wrap (k + (1 : Int)))).toNat - (0 : Nat)) (List.drop (0 : Nat) os))).length) * (8 : Nat) ≤ (140737488355328 : Nat))))) then bif (1 : Nat) == (1 : Nat) && (1 : Nat) == (1 : Nat) && (true && (true && true) && (true && true && (decide ((0 : Nat) + (List.take (((r8.nx.sv xs a.toNat s).tmod (IntKind.i64.wrap (k + (1 : Int)))).toNat - (0 : Nat)) (List.take (((r8.nx.sv xs a.toNat s).tmod (IntKind.i64.wrap (k + (1 : Int)))).toNat - (0 : Nat)) (List.drop (0 : Nat) os))).length + (List.take (1 : Nat) (List.drop (0 : Nat) ((List.replicate (1 : Nat) (0 : Int)).set (0 : Nat) k))).length ≤ (4611686018427387904 : Nat)) && decide (((0 : Nat) + (List.take (((r8.nx.sv xs a.toNat s).tmod (IntKind.i64.wrap (k + (1 : Int)))).toNat - (0 : Nat)) (List.take (((r8.nx.sv xs a.toNat s).tmod (IntKind.i64.wrap (k + (1 : Int)))).toNat - (0 : Nat)) (List.drop (0 : Nat) os))).length + (List.take (1 : Nat) (List.drop (0 : Nat) ((List.replicate (1 : Nat) (0 : Int)).set (0 : Nat) k))).length) * (8 : Nat) ≤ (140737488355328 : Nat))))) then bif true && (true && (decide ((0 : Int) ≤ (r8.nx.sv xs a.toNat s).tmod (IntKind.i64.wrap (k + (1 : Int)))) && decide ((r8.nx.sv xs a.toNat s).tmod (IntKind.i64.wrap (k + (1 : Int))) ≤ (↑q : Int)))) then bif (1 : Nat) == (1 : Nat) && (1 : Nat) == (1 : Nat) && (true && (true && true) && (true && (decide ((0 : Nat) + (List.take (((r8.nx.sv xs a.toNat s).tmod (IntKind.i64.wrap (k + (1 : Int)))).toNat - (0 : Nat)) (List.take (((r8.nx.sv xs a.toNat s).tmod (IntKind.i64.wrap (k + (1 : Int)))).toNat - (0 : Nat)) (List.drop (0 : Nat) os))).length + (List.take (1 : Nat) (List.drop (0 : Nat) ((List.replicate (1 : Nat) (0 : Int)).set (0 : Nat) k))).length + (List.take (q - ((r8.nx.sv xs a.toNat s).tmod (IntKind.i64.wrap (k + (1 : Int)))).toNat) (List.take (q - ((r8.nx.sv xs a.toNat s).tmod (IntKind.i64.wrap (k + (1 : Int)))).toNat) (List.drop ((r8.nx.sv xs a.toNat s).tmod (IntKind.i64.wrap (k + (1 : Int)))).toNat os))).length ≤ (4611686018427387904 : Nat)) && decide (((0 : Nat) + (List.take (((r8.nx.sv xs a.toNat s).tmod (IntKind.i64.wrap (k + (1 : Int)))).toNat - (0 : Nat)) (List.take (((r8.nx.sv xs a.toNat s).tmod (IntKind.i64.wrap (k + (1 : Int)))).toNat - (0 : Nat)) (List.drop (0 : Nat) os))).length + (List.take (1 : Nat) (List.drop (0 : Nat) ((List.replicate (1 : Nat) (0 : Int)).set (0 : Nat) k))).length + (List.take (q - ((r8.nx.sv xs a.toNat s).tmod (IntKind.i64.wrap (k + (1 : Int)))).toNat) (List.take (q - ((r8.nx.sv xs a.toNat s).tmod (IntKind.i64.wrap (k + (1 : Int)))).toNat) (List.drop ((r8.nx.sv xs a.toNat s).tmod (IntKind.i64.wrap (k + (1 : Int)))).toNat os))).length) * (8 : Nat) ≤ (140737488355328 : Nat))))) then L f n (mkS (34 : Nat) [((0 : Nat), AVal.ptr (0 : Nat) (0 : Nat) (0 : Nat)), ((1 : Nat), AVal.int IntKind.i64 m), ((5 : Nat), AVal.ro (Cont.ints IntKind.i64 (List.take ((0 : Nat) + (List.take (((r8.nx.sv xs a.toNat s).tmod (IntKind.i64.wrap (k + (1 : Int)))).toNat - (0 : Nat)) (List.take (((r8.nx.sv xs a.toNat s).tmod (IntKind.i64.wrap (k + (1 : Int)))).toNat - (0 : Nat)) (List.drop (0 : Nat) os))).length + (List.take (1 : Nat) (List.drop (0 : Nat) ((List.replicate (1 : Nat) (0 : Int)).set (0 : Nat) k))).length) (List.take ((0 : Nat) + (List.take (((r8.nx.sv xs a.toNat s).tmod (IntKind.i64.wrap (k + (1 : Int)))).toNat - (0 : Nat)) (List.take (((r8.nx.sv xs a.toNat s).tmod (IntKind.i64.wrap (k + (1 : Int)))).toNat - (0 : Nat)) (List.drop (0 : Nat) os))).length) (List.take (0 : Nat) (List.replicate (0 : Nat) (0 : Int)) ++ List.take (((r8.nx.sv xs a.toNat s).tmod (IntKind.i64.wrap (k + (1 : Int)))).toNat - (0 : Nat)) (List.take (((r8.nx.sv xs a.toNat s).tmod (IntKind.i64.wrap (k + (1 : Int)))).toNat - (0 : Nat)) (List.drop (0 : Nat) os))) ++ List.take (1 : Nat) (List.drop (0 : Nat) ((List.replicate (1 : Nat) (0 : Int)).set (0 : Nat) k))) ++ List.take (q - ((r8.nx.sv xs a.toNat s).tmod (IntKind.i64.wrap (k + (1 : Int)))).toNat) (List.take (q - ((r8.nx.sv xs a.toNat s).tmod (IntKind.i64.wrap (k + (1 : Int)))).toNat) (List.drop ((r8.nx.sv xs a.toNat s).tmod (IntKind.i64.wrap (k + (1 : Int)))).toNat os)))) ((0 : Nat) + (List.take (((r8.nx.sv xs a.toNat s).tmod (IntKind.i64.wrap (k + (1 : Int)))).toNat - (0 : Nat)) (List.take (((r8.nx.sv xs a.toNat s).tmod (IntKind.i64.wrap (k + (1 : Int)))).toNat - (0 : Nat)) (List.drop (0 : Nat) os))).length + (List.take (1 : Nat) (List.drop (0 : Nat) ((List.replicate (1 : Nat) (0 : Int)).set (0 : Nat) k))).length + (List.take (q - ((r8.nx.sv xs a.toNat s).tmod (IntKind.i64.wrap (k + (1 : Int)))).toNat) (List.take (q - ((r8.nx.sv xs a.toNat s).tmod (IntKind.i64.wrap (k + (1 : Int)))).toNat) (List.drop ((r8.nx.sv xs a.toNat s).tmod (IntKind.i64.wrap (k + (1 : Int)))).toNat os))).length) (1 : Nat)), ((6 : Nat), AVal.int IntKind.i64 (IntKind.i64.wrap (k + (1 : Int))))] [{ c := BC.cells [AVal.ro (Cont.ints IntKind.u8 xs) xs.length (1 : Nat), AVal.int IntKind.i64 (bif decide (IntKind.i64.wrap (k + (1 : Int)) ≤ (1 : Int)) then a else a + (1 : Int)), AVal.int IntKind.u64 (bif decide (IntKind.i64.wrap (k + (1 : Int)) ≤ (1 : Int)) then s else r8.seed.sv xs a.toNat s)], ver := (0 : Nat) }]) else none else none else none else none else none else none else some (AVal.ro (Cont.ints IntKind.i64 os) q (1 : Nat), [{ c := BC.cells [AVal.ro (Cont.ints IntKind.u8 xs) xs.length (1 : Nat), AVal.int IntKind.i64 a, AVal.int IntKind.u64 s], ver := (0 : Nat) }])) := by kernel_rfl
theorem loop (xs : List Int) (m f : Nat) (hm : m ≤ 8) (hx : xs.length ≤ 2000000) (hb : r8.bytes.sp xs = true) : ∀ (d k n a : Nat) (s : Int) (os : List Int), k + d = m → d < n → os.length = k → a + d ≤ 1000 →
    L f n (mkS 34 [(0, .ptr 0 0 0), (1, .int .i64 ((m : Nat) : Int)), (5, .ro (.ints .i64 os) k 1), (6, .int .i64 ((k : Nat) : Int))] [⟨.cells [.ro (.ints .u8 xs) xs.length 1, .int .i64 ((a : Nat) : Int), .int .u64 s], 0⟩]) = some (.ro (.ints .i64 (wo.od.sv xs d k a s os)) m 1, [⟨.cells [.ro (.ints .u8 xs) xs.length 1, .int .i64 ((wo.oa.sv d k a : Nat) : Int), .int .u64 (wo.ox.sv xs d k a s)], 0⟩]) := by
  intro d
  induction d with
  | zero =>
    intro k n a s os hk hn hl ha
    obtain ⟨n, rfl⟩ : ∃ k, n = k + 1 := ⟨n - 1, by omega⟩
    obtain rfl : k = m := by omega
    rw [round]
    simp only [wo.od.sv, wo.oa.sv, wo.ox.sv]
    simp -implicitDefEqProofs (disch := omega) only [take_one, set_one, decide_eq_true, decide_eq_false, IntWalk.i64_in, beqT, beqF, bneT, bneF, nat_succ, ← Int.natCast_mul, ← Int.natCast_add, Int.toNat_natCast, Int.zero_mul, Int.zero_add, Int.add_zero, Nat.zero_add, Nat.add_zero, Nat.zero_mul, List.length_singleton, List.length_append, List.length_nil, List.length_cons, List.take_length, List.drop_zero, List.replicate_zero, List.take_nil, List.nil_append, Nat.reduceBEq, Nat.reduceMul, Nat.reduceLeDiff, eq_self, and_self, true_and, and_true, decide_true, decide_false, Bool.and_self, Bool.or_self, Bool.and_true, Bool.true_and, Bool.and_false, Bool.false_and, Bool.or_true, Bool.true_or, Bool.or_false, Bool.false_or, Bool.not_true, Bool.not_false, cond_true, cond_false]
  | succ d ih =>
    intro k n a s os hk hn hl ha
    obtain ⟨n, rfl⟩ : ∃ k, n = k + 1 := ⟨n - 1, by omega⟩
    have hka : wo.ka.sv k a ≤ a + 1 := by unfold wo.ka.sv; cases decide (k = 0) <;> simp only [cond_true, cond_false] <;> omega
    have hn1 := r8.nx_ok hb a s
    have t1 := r8.tmod_in (n := (k : Int) + 1) hn1.1 (by omega)
    have hy : ((wo.yo.sv xs k a s : Nat) : Int) = (r8.nx.sv xs a s).tmod ((k : Int) + 1) := by unfold wo.yo.sv; omega
    have hy2 : (r8.nx.sv xs a s).tmod (((k + 1 : Nat) : Nat) : Int) = ((wo.yo.sv xs k a s : Nat) : Int) := by rw [hy]; rfl
    have g := ih (k + 1) n (wo.ka.sv k a) (wo.kx.sv xs k a s) (wo.ins.sv os (wo.yo.sv xs k a s) k) (by omega) (by omega) (by rw [(wo.ins_perm _ _ _).length_eq, List.length_cons, hl]) (by omega)
    obtain ⟨y, hyy⟩ : ∃ y, wo.yo.sv xs k a s = y := ⟨_, rfl⟩
    simp only [wo.od.sv, wo.oa.sv, wo.ox.sv]
    rw [hyy] at hy2 hy g ⊢
    have ly : y ≤ k := by omega
    have lA : (List.take y os).length = y := by rw [List.length_take]; omega
    have tA : List.take y (List.take y os) = List.take y os := by rw [List.take_take, Nat.min_self]
    have tB : List.take (y + 1) (List.take y os ++ [(k : Int)]) = List.take y os ++ [(k : Int)] := List.take_of_length_le (by rw [List.length_append, List.length_singleton]; omega)
    have lC : (List.drop y os).length = k - y := by rw [List.length_drop]; omega
    have tC : List.take (k - y) (List.drop y os) = List.drop y os := List.take_of_length_le (by omega)
    have eC : y + 1 + (k - y) = k + 1 := by omega
    rw [round]
    by_cases h0 : k = 0
    · rw [show wo.ka.sv k a = a from by rw [wo.ka.sv, decide_eq_true h0, cond_true], show wo.kx.sv xs k a s = s from by rw [wo.kx.sv, decide_eq_true h0, cond_true]] at g ⊢
      simp only [wo.ins.sv] at g ⊢
      simp -implicitDefEqProofs (disch := omega) only [hy2, Nat.sub_zero, List.append_assoc, lA, tA, tB, lC, tC, eC, take_one, set_one, decide_eq_true, decide_eq_false, IntWalk.i64_in, beqT, beqF, bneT, bneF, nat_succ, ← Int.natCast_mul, ← Int.natCast_add, Int.toNat_natCast, Int.zero_mul, Int.zero_add, Int.add_zero, Nat.zero_add, Nat.add_zero, Nat.zero_mul, List.length_singleton, List.length_append, List.length_nil, List.length_cons, List.take_length, List.drop_zero, List.replicate_zero, List.take_nil, List.nil_append, Nat.reduceBEq, Nat.reduceMul, Nat.reduceLeDiff, eq_self, and_self, true_and, and_true, decide_true, decide_false, Bool.and_self, Bool.or_self, Bool.and_true, Bool.true_and, Bool.and_false, Bool.false_and, Bool.or_true, Bool.true_or, Bool.or_false, Bool.false_or, Bool.not_true, Bool.not_false, cond_true, cond_false]
      exact g
    · rw [show wo.ka.sv k a = a + 1 from by rw [wo.ka.sv, decide_eq_false h0, cond_false], show wo.kx.sv xs k a s = r8.seed.sv xs a s from by rw [wo.kx.sv, decide_eq_false h0, cond_false]] at g ⊢
      simp only [wo.ins.sv] at g ⊢
      simp -implicitDefEqProofs (disch := omega) only [hy2, Nat.sub_zero, List.append_assoc, lA, tA, tB, lC, tC, eC, take_one, set_one, decide_eq_true, decide_eq_false, IntWalk.i64_in, beqT, beqF, bneT, bneF, nat_succ, ← Int.natCast_mul, ← Int.natCast_add, Int.toNat_natCast, Int.zero_mul, Int.zero_add, Int.add_zero, Nat.zero_add, Nat.add_zero, Nat.zero_mul, List.length_singleton, List.length_append, List.length_nil, List.length_cons, List.take_length, List.drop_zero, List.replicate_zero, List.take_nil, List.nil_append, Nat.reduceBEq, Nat.reduceMul, Nat.reduceLeDiff, eq_self, and_self, true_and, and_true, decide_true, decide_false, Bool.and_self, Bool.or_self, Bool.and_true, Bool.true_and, Bool.and_false, Bool.false_and, Bool.or_true, Bool.true_or, Bool.or_false, Bool.false_or, Bool.not_true, Bool.not_false, cond_true, cond_false]
      exact g
theorem run : ∀ args H v new, R args H = some (true, v, new) → ∃ fuel, runFn Try.prog (orcW [⟨85, bPick.R⟩] []) hd Dr.std (some 0) fuel (bodyOf Try.f61) 34 [4] args H = some (v, new) := by
  intro args H v new h
  unfold R at h
  split at h
  · rename_i m xs l a s
    simp only [Option.some.injEq, Prod.mk.injEq, Bool.and_eq_true, decide_eq_true_eq] at h
    obtain ⟨⟨⟨rfl, h1, h2, h3, h4, h5⟩, hb⟩, rfl, rfl⟩ := h
    obtain ⟨m, rfl⟩ : ∃ q : Nat, m = q := ⟨m.toNat, by omega⟩
    obtain ⟨a, rfl⟩ : ∃ q : Nat, a = q := ⟨a.toNat, by omega⟩
    obtain ⟨F, hF⟩ : ∃ F : Nat, F = 100 := ⟨100, rfl⟩
    refine ⟨F, ?_⟩
    have g := loop xs m F (by omega) h1 hb m 0 F a s [] (by omega) (by omega) rfl (by omega)
    rw [start]
    exact g
  · cases h
theorem ok : EntWOk Try.prog ⟨61, R⟩ :=
  entw_ok mixed (A := (orcW [⟨85, bPick.R⟩] [])) (orcW_ok (by simp only [List.mem_cons, List.not_mem_nil, or_false, forall_eq_or_imp, forall_eq]; exact bPick.ok) (by simp)) Try.func61 (by kernel_rfl) (by kernel_rfl) (n := 34) (ts := [4]) (hd := hd) (dr := Dr.std) (cut := (some 0)) (by kernel_rfl) (by kernel_rfl) (by kernel_rfl) run
end l07DrawOrder

namespace B10Order
def R : List AVal → Option (Bool × AVal × List Blk)
  | [.ro (.ints .u8 xs) m 1, .int .i64 p] => some (decide (m = xs.length ∧ m ≤ 2000000 ∧ 0 ≤ p ∧ p ≤ 8) && r8.bytes.sp xs, .ro (.ints .i64 (wo.od.sv xs p.toNat 0 0 0 [])) p.toNat 1, [])
  | _ => none
theorem go (xs : List Int) (p : Int) :
  runFn Try.prog (orcW [⟨61, l07DrawOrder.R⟩] [⟨53, l00From.R⟩]) hd0 Dr.std (some 0) 0 (bodyOf Try.f16) 11 [4] [.ro (.ints .u8 xs) xs.length 1, .int .i64 p] []
  = (bif true && (true && true || true && (false && true && true)) then bif decide (xs.length = xs.length ∧ xs.length ≤ (2000000 : Nat) ∧ (0 : Int) ≤ (0 : Int) ∧ (0 : Int) ≤ (100 : Int) ∧ (0 : Int) ≤ p ∧ p ≤ (8 : Int)) && r8.bytes.sp xs && (true && (true && true)) then some (AVal.ro (Cont.ints IntKind.i64 (wo.od.sv xs p.toNat (0 : Nat) (0 : Nat) (0 : Int) [])) p.toNat (1 : Nat), []) else none else none) := by kernel_rfl
theorem run : ∀ args v new, R args = some (true, v, new) → ∃ fuel, runFn Try.prog (orcW [⟨61, l07DrawOrder.R⟩] [⟨53, l00From.R⟩]) hd0 Dr.std (some 0) fuel (bodyOf Try.f16) 11 [4] args [] = some (v, new) := by
  intro args v new h
  unfold R at h
  split at h
  · rename_i xs m p
    simp only [Option.some.injEq, Prod.mk.injEq, Bool.and_eq_true, decide_eq_true_eq] at h
    obtain ⟨⟨⟨rfl, h1, h2, h3⟩, hb⟩, rfl, rfl⟩ := h
    refine ⟨0, ?_⟩
    rw [go]
    simp -implicitDefEqProofs (disch := omega) only [hb, take_one, set_one, decide_eq_true, decide_eq_false, IntWalk.i64_in, beqT, beqF, bneT, bneF, nat_succ, ← Int.natCast_mul, ← Int.natCast_add, Int.toNat_natCast, Int.zero_mul, Int.zero_add, Int.add_zero, Nat.zero_add, Nat.add_zero, Nat.zero_mul, List.length_singleton, List.length_append, List.length_nil, List.length_cons, List.take_length, List.drop_zero, List.replicate_zero, List.take_nil, List.nil_append, Nat.reduceBEq, Nat.reduceMul, Nat.reduceLeDiff, eq_self, and_self, true_and, and_true, decide_true, decide_false, Bool.and_self, Bool.or_self, Bool.and_true, Bool.true_and, Bool.and_false, Bool.false_and, Bool.or_true, Bool.true_or, Bool.or_false, Bool.false_or, Bool.not_true, Bool.not_false, cond_true, cond_false]
    try rfl
  · cases h
theorem ok : EntOk Try.prog ⟨16, R⟩ :=
  ent_okA mixed (A := (orcW [⟨61, l07DrawOrder.R⟩] [⟨53, l00From.R⟩])) (orcW_ok (by simp only [List.mem_cons, List.not_mem_nil, or_false, forall_eq_or_imp, forall_eq]; exact l07DrawOrder.ok) (by simp only [List.mem_cons, List.not_mem_nil, or_false, forall_eq_or_imp, forall_eq]; exact l00From.ok)) Try.func16 (by kernel_rfl) (by kernel_rfl) (n := 11) (ts := [4]) (hd := hd0) (dr := Dr.std) (cut := (some 0)) (by kernel_rfl) (by kernel_rfl) (by kernel_rfl) run
end B10Order

end Go.Proofs.Ytekadpddilfolaa.Ab
