/-
  Functions: plans of the core, by a recursion.
-/
import Derived.Test.YtekadpddilfolaaFnC2
import Derived.Test.YtekadpddilfolaaFnC1
import Derived.Test.YtekadpddilfolaaAbFrz
import Derived.Test.YtekadpddilfolaaAbReW
namespace Go.Proofs.Ytekadpddilfolaa.Ab
open Go
set_option linter.unusedVariables false
set_option linter.unusedSimpArgs false
set_option maxRecDepth 100000

/-! A contract for versions that begin at nought serves for all. -/
def gadd (H : Heap) (l v : Nat) : Nat := (match nth H l with | some blk => blk.ver | none => 0) + v
def zinR (R : List AVal → Heap → Option (Bool × AVal × Heap)) (args : List AVal) (H : Heap) : Option (Bool × AVal × Heap) :=
  match R (AVal.zer.zers 0 H args) (zerB 0 H 0 H) with
  | some (b, v, H') => some (b, v.bmp (gadd H) H', bmpB (gadd H) H' 0 H')
  | none => none
theorem EntWOk.zin {P : Program} {f : FuncId} {R : List AVal → Heap → Option (Bool × AVal × Heap)} (h1 : EntWOk P ⟨f, R⟩) : EntWOk P ⟨f, zinR R⟩ := by
  refine ⟨h1.1, fun args H v H' h => ?_⟩
  simp only [Ab.zinR] at h
  split at h
  · rename_i b v0 H0 hr
    simp only [Option.some.injEq, Prod.mk.injEq] at h
    obtain ⟨rfl, rfl, rfl⟩ := h
    intro Fb ρ w cargs S hv
    have hz : VRs ρ (zerB 0 H 0 H) w (AVal.zer.zers 0 H args) cargs.toList := by
      rw [zers_eq]
      refine ⟨by simp [hv.1], fun i v c hi hc => ?_⟩
      simp only [List.getElem?_map, Option.map_eq_some_iff] at hi
      obtain ⟨u, hu, rfl⟩ := hi
      exact (hv.2 i u c hu hc).zer 0
    refine (h1.2 _ _ v0 H0 hr ρ w cargs (S.zer 0) hz).mono fun e w' ⟨c, he, ρ', g1, g2, g3⟩ => ⟨c, he, ρ', g1.bmp _, g2.bmp _, ?_⟩
    refine ⟨g3.os, g3.tape, g3.output, g3.size, g3.frame, fun l blk hl => ?_⟩
    have hat := zerB_at 0 H (l := 0) hl
    rw [Nat.zero_add] at hat
    obtain ⟨blk', q1, q2, q3⟩ := g3.keep l _ hat
    have hb := bmpB_at (gadd H) H0 (l := 0) q1
    rw [Nat.zero_add] at hb
    have e0 : gadd H l blk'.ver = blk.ver + blk'.ver := by simp only [gadd, nth_eq, hl]
    refine ⟨_, hb, by simp only [e0]; omega, fun e => ?_⟩
    simp only [e0] at e
    have e1 : blk'.ver = 0 := by omega
    obtain ⟨r1, r2, r3⟩ := q3 (by simp only [nver, ltN_eq, e1]; rfl)
    exact ⟨r1, by simpa only [BC.bmp_len, BC.zer_len] using r2, r3⟩
  · cases h
namespace pl
/-- Rows found so far, behind those that were there. -/
def on.sv (ws : List Int) (p : Nat) (xs : List Int) (i : Nat) (os : List (List Int)) (n : Nat) : List (List Int) := os ++ nn.sv ws p xs i n
theorem on_zero (ws : List Int) (p : Nat) (xs : List Int) (i : Nat) (os : List (List Int)) : on.sv ws p xs i os 0 = os := by
  rw [on.sv, nn.sv, Nat.zero_mul, go.sv, List.append_nil]
theorem on_next {ws : List Int} {p : Nat} {xs : List Int} (hl : xs.length = p) {i : Nat} (h : i < p) (os : List (List Int)) (n : Nat) :
    on.sv ws p xs i os n ++ sub.sv ws p ((xn.sv p xs i n).set i (n : Int)) (i + 1) = on.sv ws p xs i os (n + 1) := by
  rw [on.sv, on.sv, nn_next hl h, List.append_assoc]
theorem on_len (ws : List Int) {p : Nat} (xs : List Int) {i : Nat} (h : i < p) (os : List (List Int)) {n : Nat} (hn : n < 5) :
    (on.sv ws p xs i os n).length + 5 ^ (p - (i + 1)) ≤ os.length + 5 ^ (p - i) := by
  have e : 5 ^ (p - i) = 5 * 5 ^ (p - i - 1) := by rw [show p - i = (p - i - 1) + 1 by omega, Nat.pow_succ, Nat.mul_comm]; rfl
  have h1 := go_length ws p (vl.sv xs i * 5 ^ (p - i)) (n * 5 ^ (p - i - 1))
  rw [on.sv, List.length_append, nn.sv, e, show p - (i + 1) = p - i - 1 by omega]
  have h2 : n * 5 ^ (p - i - 1) ≤ 4 * 5 ^ (p - i - 1) := Nat.mul_le_mul_right _ (by omega)
  rw [e] at h1
  omega
theorem ok_rng {p : Nat} {xs : List Int} (h : ok.sp p xs = true) : (xs.all fun x => decide (-1000000 ≤ x) && decide (x ≤ 1000000)) = true := by
  obtain ⟨_, h2⟩ := ok_spec.1 h
  rw [List.all_eq_true]
  intro x hx
  have := h2 x hx
  rw [decide_eq_true (by omega), decide_eq_true (by omega)]; rfl
theorem xe_full {p : Nat} {xs : List Int} (h : xs.length = p) : xe.sv p xs p = xs := by
  rw [xe.sv, Nat.sub_self, List.replicate_zero, List.append_nil, List.take_of_length_le (by omega)]
end pl
namespace plPut
def Ra (N : Nat) : List AVal → Heap → Option (Bool × AVal × Heap)
  | [.int .i64 i, .ptr 0 0 0, .ptr 2 0 0, .ptr 3 0 0, .ptr 5 0 0, .ptr 6 0 0], [⟨.cells [.own 1 0 n 0 1], 0⟩, ⟨.typ (.ints .i64 xs), 0⟩, ⟨.cells [.int .i64 p, .ro (.ints .i64 ws) m 1], 0⟩, ⟨.cells [.own 4 0 q 0 1], 0⟩, ⟨.typ (.rows .i64 os), 0⟩, ⟨.cells [.int .i64 mo], 0⟩, ⟨.cells [.fn ff [.ptr 0 0 0, .ptr 2 0 0, .ptr 3 0 0, .ptr 5 0 0, .ptr 6 0 0]], 0⟩] => some (decide (m = ws.length ∧ n = xs.length ∧ q = os.length ∧ mo = 4 ∧ ff = 75 ∧ 0 ≤ i ∧ i ≤ p ∧ i + (N : Int) = p + 1 ∧ p ≤ 4 ∧ q + 5 ^ (p.toNat - i.toNat) ≤ 1000) && ((wo.sp p ws && pl.ok.sp p.toNat xs) && (decide (i = p) && !co.core.sp ws xs 1 p.toNat)), .tup [], [⟨.cells [.own 1 0 n 0 1], 0⟩, ⟨.typ (.ints .i64 (pl.xe.sv p.toNat xs i.toNat)), 0⟩, ⟨.cells [.int .i64 p, .ro (.ints .i64 ws) m 1], 0⟩, ⟨.cells [.own 4 0 (os ++ pl.sub.sv ws p.toNat xs i.toNat).length 0 1], 0⟩, ⟨.typ (.rows .i64 (os ++ pl.sub.sv ws p.toNat xs i.toNat)), 0⟩, ⟨.cells [.int .i64 mo], 0⟩, ⟨.cells [.fn ff [.ptr 0 0 0, .ptr 2 0 0, .ptr 3 0 0, .ptr 5 0 0, .ptr 6 0 0]], 0⟩])
  | _, _ => none
def Rb (N : Nat) : List AVal → Heap → Option (Bool × AVal × Heap)
  | [.int .i64 i, .ptr 0 0 0, .ptr 2 0 0, .ptr 3 0 0, .ptr 5 0 0, .ptr 6 0 0], [⟨.cells [.own 1 0 n 0 1], 0⟩, ⟨.typ (.ints .i64 xs), 0⟩, ⟨.cells [.int .i64 p, .ro (.ints .i64 ws) m 1], 0⟩, ⟨.cells [.own 4 0 q 0 1], 0⟩, ⟨.typ (.rows .i64 os), 0⟩, ⟨.cells [.int .i64 mo], 0⟩, ⟨.cells [.fn ff [.ptr 0 0 0, .ptr 2 0 0, .ptr 3 0 0, .ptr 5 0 0, .ptr 6 0 0]], 0⟩] => some (decide (m = ws.length ∧ n = xs.length ∧ q = os.length ∧ mo = 4 ∧ ff = 75 ∧ 0 ≤ i ∧ i ≤ p ∧ i + (N : Int) = p + 1 ∧ p ≤ 4 ∧ q + 5 ^ (p.toNat - i.toNat) ≤ 1000) && ((wo.sp p ws && pl.ok.sp p.toNat xs) && !(decide (i = p) && !co.core.sp ws xs 1 p.toNat)), .tup [], [⟨.cells [.own 1 0 n 0 1], 0⟩, ⟨.typ (.ints .i64 (pl.xe.sv p.toNat xs i.toNat)), 0⟩, ⟨.cells [.int .i64 p, .ro (.ints .i64 ws) m 1], 0⟩, ⟨.cells [.own 4 0 (os ++ pl.sub.sv ws p.toNat xs i.toNat).length 1 1], 0⟩, ⟨.typ (.rows .i64 (os ++ pl.sub.sv ws p.toNat xs i.toNat)), 1⟩, ⟨.cells [.int .i64 mo], 0⟩, ⟨.cells [.fn ff [.ptr 0 0 0, .ptr 2 0 0, .ptr 3 0 0, .ptr 5 0 0, .ptr 6 0 0]], 0⟩])
  | _, _ => none
def R0 (N : Nat) : List AVal → Heap → Option (Bool × AVal × Heap)
  | [.int .i64 i, .ptr 0 0 0, .ptr 2 0 0, .ptr 3 0 0, .ptr 5 0 0, .ptr 6 0 0], [⟨.cells [.own 1 0 n 0 1], 0⟩, ⟨.typ (.ints .i64 xs), 0⟩, ⟨.cells [.int .i64 p, .ro (.ints .i64 ws) m 1], 0⟩, ⟨.cells [.own 4 0 q 0 1], 0⟩, ⟨.typ (.rows .i64 os), 0⟩, ⟨.cells [.int .i64 mo], 0⟩, ⟨.cells [.fn ff [.ptr 0 0 0, .ptr 2 0 0, .ptr 3 0 0, .ptr 5 0 0, .ptr 6 0 0]], 0⟩] => some (decide (m = ws.length ∧ n = xs.length ∧ q = os.length ∧ mo = 4 ∧ ff = 75 ∧ 0 ≤ i ∧ i ≤ p ∧ i + (N : Int) = p + 1 ∧ p ≤ 4 ∧ q + 5 ^ (p.toNat - i.toNat) ≤ 1000) && (wo.sp p ws && pl.ok.sp p.toNat xs), .tup [], [⟨.cells [.own 1 0 n 0 1], 0⟩, ⟨.typ (.ints .i64 (pl.xe.sv p.toNat xs i.toNat)), 0⟩, ⟨.cells [.int .i64 p, .ro (.ints .i64 ws) m 1], 0⟩, ⟨.cells [.own 4 0 (os ++ pl.sub.sv ws p.toNat xs i.toNat).length 1 1], 0⟩, ⟨.typ (.rows .i64 (os ++ pl.sub.sv ws p.toNat xs i.toNat)), 1⟩, ⟨.cells [.int .i64 mo], 0⟩, ⟨.cells [.fn ff [.ptr 0 0 0, .ptr 2 0 0, .ptr 3 0 0, .ptr 5 0 0, .ptr 6 0 0]], 0⟩])
  | _, _ => none
def R (N : Nat) : List AVal → Heap → Option (Bool × AVal × Heap)
  | [.int .i64 i, .ptr 0 0 0, .ptr 2 0 0, .ptr 3 0 0, .ptr 5 0 0, .ptr 6 0 0], [⟨.cells [.own 1 0 n 0 1], 0⟩, ⟨.typ (.ints .i64 xs), 0⟩, ⟨.cells [.int .i64 p, .ro (.ints .i64 ws) m 1], 0⟩, ⟨.cells [.own 4 0 q 0 1], 0⟩, ⟨.typ (.rows .i64 os), 0⟩, ⟨.cells [.int .i64 mo], 0⟩, ⟨.cells [.fn ff [.ptr 0 0 0, .ptr 2 0 0, .ptr 3 0 0, .ptr 5 0 0, .ptr 6 0 0]], 0⟩] => some (decide (m = ws.length ∧ n = xs.length ∧ q = os.length ∧ mo = 4 ∧ ff = 75 ∧ 0 ≤ i ∧ i ≤ p ∧ i + (N : Int) = p + 1 ∧ p ≤ 4 ∧ q + 5 ^ (p.toNat - i.toNat) ≤ 1000) && (wo.sp p ws && pl.ok.sp p.toNat xs), .tup [], [⟨.cells [.own 1 0 n 0 1], 0⟩, ⟨.typ (.ints .i64 (pl.xe.sv p.toNat xs i.toNat)), 0⟩, ⟨.cells [.int .i64 p, .ro (.ints .i64 ws) m 1], 0⟩, ⟨.cells [.own 4 0 (os ++ pl.sub.sv ws p.toNat xs i.toNat).length 1 1], 0⟩, ⟨.typ (.rows .i64 (os ++ pl.sub.sv ws p.toNat xs i.toNat)), 1⟩, ⟨.cells [.int .i64 mo], 0⟩, ⟨.cells [.fn ff [.ptr 0 0 0, .ptr 2 0 0, .ptr 3 0 0, .ptr 5 0 0, .ptr 6 0 0]], 0⟩])
  | [.int .i64 i, .ptr 0 0 0, .ptr 2 0 0, .ptr 3 0 0, .ptr 5 0 0, .ptr 6 0 0], [⟨.cells [.own 1 0 n 0 1], 0⟩, ⟨.typ (.ints .i64 xs), 0⟩, ⟨.cells [.int .i64 p, .ro (.ints .i64 ws) m 1], 0⟩, ⟨.cells [.own 4 0 q 1 1], 0⟩, ⟨.typ (.rows .i64 os), 1⟩, ⟨.cells [.int .i64 mo], 0⟩, ⟨.cells [.fn ff [.ptr 0 0 0, .ptr 2 0 0, .ptr 3 0 0, .ptr 5 0 0, .ptr 6 0 0]], 0⟩] => some (decide (m = ws.length ∧ n = xs.length ∧ q = os.length ∧ mo = 4 ∧ ff = 75 ∧ 0 ≤ i ∧ i ≤ p ∧ i + (N : Int) = p + 1 ∧ p ≤ 4 ∧ q + 5 ^ (p.toNat - i.toNat) ≤ 1000) && (wo.sp p ws && pl.ok.sp p.toNat xs), .tup [], [⟨.cells [.own 1 0 n 0 1], 0⟩, ⟨.typ (.ints .i64 (pl.xe.sv p.toNat xs i.toNat)), 0⟩, ⟨.cells [.int .i64 p, .ro (.ints .i64 ws) m 1], 0⟩, ⟨.cells [.own 4 0 (os ++ pl.sub.sv ws p.toNat xs i.toNat).length 2 1], 0⟩, ⟨.typ (.rows .i64 (os ++ pl.sub.sv ws p.toNat xs i.toNat)), 2⟩, ⟨.cells [.int .i64 mo], 0⟩, ⟨.cells [.fn ff [.ptr 0 0 0, .ptr 2 0 0, .ptr 3 0 0, .ptr 5 0 0, .ptr 6 0 0]], 0⟩])
  | _, _ => none
def hd : Nat → Head := fun _ => ⟨[0, 1, 5, 21, 22], none⟩
noncomputable def L (N f n : Nat) (s : State) := loopAt Try.prog (orcF [⟨76, layF clone.R⟩] (orcW [⟨75, R N⟩] [⟨66, inCore.R⟩])) hd Dr.std 7 f (bodyOf Try.f75) 0 [true, true] (retK Try.prog [] 7 (some 0)) n s
theorem start (i p mo : Int) (ws xs : List Int) (os : List (List Int)) (n q N : Nat) (f : Nat) :
  runFn Try.prog (orcF [⟨76, layF clone.R⟩] (orcW [⟨75, R N⟩] [⟨66, inCore.R⟩])) hd Dr.std (some 0) f (bodyOf Try.f75) 34 [] [.int .i64 i, .ptr 0 0 0, .ptr 2 0 0, .ptr 3 0 0, .ptr 5 0 0, .ptr 6 0 0] [⟨.cells [.own 1 0 n 0 1], 0⟩, ⟨.typ (.ints .i64 xs), 0⟩, ⟨.cells [.int .i64 p, .ro (.ints .i64 ws) ws.length 1], 0⟩, ⟨.cells [.own 4 0 q 0 1], 0⟩, ⟨.typ (.rows .i64 os), 0⟩, ⟨.cells [.int .i64 mo], 0⟩, ⟨.cells [.fn (75 : Nat) [.ptr 0 0 0, .ptr 2 0 0, .ptr 3 0 0, .ptr 5 0 0, .ptr 6 0 0]], 0⟩]
  = (bif true && (true && (true && (true && (true && (true && true))))) then bif true && true then bif i == (↑n : Int) then bif true && true && (true && true && true) then bif true && true then bif decide (ws.length = ws.length ∧ n = xs.length ∧ (↑n : Int) = p ∧ (1 : Int) ≤ (1 : Int) ∧ (1 : Int) ≤ (1000 : Int)) && (wo.sp p ws && xs.all fun x => decide ((-1000000 : Int) ≤ x) && decide (x ≤ (1000000 : Int))) && (true && (true && true) && (false && true) || true && true) then bif co.core.sp ws xs (1 : Int) p.toNat then bif true && true then bif true && true then bif decide (n = xs.length ∧ (1 : Nat) ≤ n ∧ n ≤ (100 : Nat)) && (true && (true && true)) then bif (1 : Nat) == (1 : Nat) && (1 : Nat) == (1 : Nat) && (true && (true && true) && (true && true && (decide (q + (List.take (1 : Nat) (List.drop (0 : Nat) ((List.replicate (1 : Nat) []).set (0 : Nat) (List.take xs.length xs)))).length ≤ (4611686018427387904 : Nat)) && decide ((q + (List.take (1 : Nat) (List.drop (0 : Nat) ((List.replicate (1 : Nat) []).set (0 : Nat) (List.take xs.length xs)))).length) * (24 : Nat) ≤ (140737488355328 : Nat))))) then some (AVal.tup [], [{ c := BC.cells [AVal.own (1 : Nat) (0 : Nat) n (0 : Nat) (1 : Nat)], ver := (0 : Nat) }, { c := BC.typ (Cont.ints IntKind.i64 xs), ver := (0 : Nat) }, { c := BC.cells [AVal.int IntKind.i64 p, AVal.ro (Cont.ints IntKind.i64 ws) ws.length (1 : Nat)], ver := (0 : Nat) }, { c := BC.cells [AVal.own (4 : Nat) (0 : Nat) (q + (List.take (1 : Nat) (List.drop (0 : Nat) ((List.replicate (1 : Nat) []).set (0 : Nat) (List.take xs.length xs)))).length) (1 : Nat) (1 : Nat)], ver := (0 : Nat) }, { c := BC.typ (Cont.rows IntKind.i64 (List.take q os ++ List.take (1 : Nat) (List.drop (0 : Nat) ((List.replicate (1 : Nat) []).set (0 : Nat) (List.take xs.length xs))))), ver := (1 : Nat) }, { c := BC.cells [AVal.int IntKind.i64 mo], ver := (0 : Nat) }, { c := BC.cells [AVal.fn (75 : Nat) [AVal.ptr (0 : Nat) (0 : Nat) (0 : Nat), AVal.ptr (2 : Nat) (0 : Nat) (0 : Nat), AVal.ptr (3 : Nat) (0 : Nat) (0 : Nat), AVal.ptr (5 : Nat) (0 : Nat) (0 : Nat), AVal.ptr (6 : Nat) (0 : Nat) (0 : Nat)]], ver := (0 : Nat) }]) else none else none else none else none else some (AVal.tup [], [{ c := BC.cells [AVal.own (1 : Nat) (0 : Nat) n (0 : Nat) (1 : Nat)], ver := (0 : Nat) }, { c := BC.typ (Cont.ints IntKind.i64 xs), ver := (0 : Nat) }, { c := BC.cells [AVal.int IntKind.i64 p, AVal.ro (Cont.ints IntKind.i64 ws) ws.length (1 : Nat)], ver := (0 : Nat) }, { c := BC.cells [AVal.own (4 : Nat) (0 : Nat) q (0 : Nat) (1 : Nat)], ver := (0 : Nat) }, { c := BC.typ (Cont.rows IntKind.i64 os), ver := (0 : Nat) }, { c := BC.cells [AVal.int IntKind.i64 mo], ver := (0 : Nat) }, { c := BC.cells [AVal.fn (75 : Nat) [AVal.ptr (0 : Nat) (0 : Nat) (0 : Nat), AVal.ptr (2 : Nat) (0 : Nat) (0 : Nat), AVal.ptr (3 : Nat) (0 : Nat) (0 : Nat), AVal.ptr (5 : Nat) (0 : Nat) (0 : Nat), AVal.ptr (6 : Nat) (0 : Nat) (0 : Nat)]], ver := (0 : Nat) }]) else none else none else none else bif true && true then L N f f (mkS (34 : Nat) [((0 : Nat), AVal.int IntKind.i64 i), ((1 : Nat), AVal.ptr (0 : Nat) (0 : Nat) (0 : Nat)), ((5 : Nat), AVal.ptr (6 : Nat) (0 : Nat) (0 : Nat)), ((21 : Nat), AVal.int IntKind.i64 (IntKind.i64.wrap (mo + (1 : Int)))), ((22 : Nat), AVal.int IntKind.i64 (0 : Int))] [{ c := BC.cells [AVal.own (1 : Nat) (0 : Nat) n (0 : Nat) (1 : Nat)], ver := (0 : Nat) }, { c := BC.typ (Cont.ints IntKind.i64 xs), ver := (0 : Nat) }, { c := BC.cells [AVal.int IntKind.i64 p, AVal.ro (Cont.ints IntKind.i64 ws) ws.length (1 : Nat)], ver := (0 : Nat) }, { c := BC.cells [AVal.own (4 : Nat) (0 : Nat) q (0 : Nat) (1 : Nat)], ver := (0 : Nat) }, { c := BC.typ (Cont.rows IntKind.i64 os), ver := (0 : Nat) }, { c := BC.cells [AVal.int IntKind.i64 mo], ver := (0 : Nat) }, { c := BC.cells [AVal.fn (75 : Nat) [AVal.ptr (0 : Nat) (0 : Nat) (0 : Nat), AVal.ptr (2 : Nat) (0 : Nat) (0 : Nat), AVal.ptr (3 : Nat) (0 : Nat) (0 : Nat), AVal.ptr (5 : Nat) (0 : Nat) (0 : Nat), AVal.ptr (6 : Nat) (0 : Nat) (0 : Nat)]], ver := (0 : Nat) }]) else none else none else none) := by kernel_rfl
theorem round0 (i p mo : Int) (ws xs : List Int) (os : List (List Int)) (n q N : Nat) (l k : Int) (f n2 : Nat) :
  L N f (n2 + 1) (mkS 34 [(0, .int .i64 i), (1, .ptr 0 0 0), (5, .ptr 6 0 0), (21, .int .i64 l), (22, .int .i64 k)] [⟨.cells [.own 1 0 n 0 1], 0⟩, ⟨.typ (.ints .i64 xs), 0⟩, ⟨.cells [.int .i64 p, .ro (.ints .i64 ws) ws.length 1], 0⟩, ⟨.cells [.own 4 0 q 0 1], 0⟩, ⟨.typ (.rows .i64 os), 0⟩, ⟨.cells [.int .i64 mo], 0⟩, ⟨.cells [.fn (75 : Nat) [.ptr 0 0 0, .ptr 2 0 0, .ptr 3 0 0, .ptr 5 0 0, .ptr 6 0 0]], 0⟩])
  = (bif decide (k < l) then bif true && true then bif true && (decide ((0 : Int) ≤ i) && decide (i < (↑n : Int))) then bif true && (true && (decide (i.toNat < xs.length) && true)) then bif decide (ws.length = ws.length ∧ n = (xs.set i.toNat k).length ∧ q = os.length ∧ mo = (4 : Int) ∧ (75 : Nat) = (75 : FuncId) ∧ (0 : Int) ≤ IntKind.i64.wrap (i + (1 : Int)) ∧ IntKind.i64.wrap (i + (1 : Int)) ≤ p ∧ IntKind.i64.wrap (i + (1 : Int)) + (↑N : Int) = p + (1 : Int) ∧ p ≤ (4 : Int) ∧ q + (5 : Nat) ^ (p.toNat - (IntKind.i64.wrap (i + (1 : Int))).toNat) ≤ (1000 : Nat)) && (wo.sp p ws && pl.ok.sp p.toNat (xs.set i.toNat k)) && (true && (true && (true && (true && (true && (true && (true && (true && true)))))))) then L N f n2 (mkS (34 : Nat) [((0 : Nat), AVal.int IntKind.i64 i), ((1 : Nat), AVal.ptr (0 : Nat) (0 : Nat) (0 : Nat)), ((5 : Nat), AVal.ptr (6 : Nat) (0 : Nat) (0 : Nat)), ((21 : Nat), AVal.int IntKind.i64 l), ((22 : Nat), AVal.int IntKind.i64 (IntKind.i64.wrap (k + (1 : Int))))] [{ c := BC.cells [AVal.own (1 : Nat) (0 : Nat) n (0 : Nat) (1 : Nat)], ver := (0 : Nat) }, { c := BC.typ (Cont.ints IntKind.i64 (pl.xe.sv p.toNat (xs.set i.toNat k) (IntKind.i64.wrap (i + (1 : Int))).toNat)), ver := (0 : Nat) }, { c := BC.cells [AVal.int IntKind.i64 p, AVal.ro (Cont.ints IntKind.i64 ws) ws.length (1 : Nat)], ver := (0 : Nat) }, { c := BC.cells [AVal.own (4 : Nat) (0 : Nat) (os ++ pl.sub.sv ws p.toNat (xs.set i.toNat k) (IntKind.i64.wrap (i + (1 : Int))).toNat).length (1 : Nat) (1 : Nat)], ver := (0 : Nat) }, { c := BC.typ (Cont.rows IntKind.i64 (os ++ pl.sub.sv ws p.toNat (xs.set i.toNat k) (IntKind.i64.wrap (i + (1 : Int))).toNat)), ver := (1 : Nat) }, { c := BC.cells [AVal.int IntKind.i64 mo], ver := (0 : Nat) }, { c := BC.cells [AVal.fn (75 : Nat) [AVal.ptr (0 : Nat) (0 : Nat) (0 : Nat), AVal.ptr (2 : Nat) (0 : Nat) (0 : Nat), AVal.ptr (3 : Nat) (0 : Nat) (0 : Nat), AVal.ptr (5 : Nat) (0 : Nat) (0 : Nat), AVal.ptr (6 : Nat) (0 : Nat) (0 : Nat)]], ver := (0 : Nat) }]) else none else none else none else none else some (AVal.tup [], [{ c := BC.cells [AVal.own (1 : Nat) (0 : Nat) n (0 : Nat) (1 : Nat)], ver := (0 : Nat) }, { c := BC.typ (Cont.ints IntKind.i64 xs), ver := (0 : Nat) }, { c := BC.cells [AVal.int IntKind.i64 p, AVal.ro (Cont.ints IntKind.i64 ws) ws.length (1 : Nat)], ver := (0 : Nat) }, { c := BC.cells [AVal.own (4 : Nat) (0 : Nat) q (0 : Nat) (1 : Nat)], ver := (0 : Nat) }, { c := BC.typ (Cont.rows IntKind.i64 os), ver := (0 : Nat) }, { c := BC.cells [AVal.int IntKind.i64 mo], ver := (0 : Nat) }, { c := BC.cells [AVal.fn (75 : Nat) [AVal.ptr (0 : Nat) (0 : Nat) (0 : Nat), AVal.ptr (2 : Nat) (0 : Nat) (0 : Nat), AVal.ptr (3 : Nat) (0 : Nat) (0 : Nat), AVal.ptr (5 : Nat) (0 : Nat) (0 : Nat), AVal.ptr (6 : Nat) (0 : Nat) (0 : Nat)]], ver := (0 : Nat) }])) := by kernel_rfl
theorem round1 (i p mo : Int) (ws xs : List Int) (os : List (List Int)) (n q N : Nat) (l k : Int) (f n2 : Nat) :
  L N f (n2 + 1) (mkS 34 [(0, .int .i64 i), (1, .ptr 0 0 0), (5, .ptr 6 0 0), (21, .int .i64 l), (22, .int .i64 k)] [⟨.cells [.own 1 0 n 0 1], 0⟩, ⟨.typ (.ints .i64 xs), 0⟩, ⟨.cells [.int .i64 p, .ro (.ints .i64 ws) ws.length 1], 0⟩, ⟨.cells [.own 4 0 q 1 1], 0⟩, ⟨.typ (.rows .i64 os), 1⟩, ⟨.cells [.int .i64 mo], 0⟩, ⟨.cells [.fn (75 : Nat) [.ptr 0 0 0, .ptr 2 0 0, .ptr 3 0 0, .ptr 5 0 0, .ptr 6 0 0]], 0⟩])
  = (bif decide (k < l) then bif true && true then bif true && (decide ((0 : Int) ≤ i) && decide (i < (↑n : Int))) then bif true && (true && (decide (i.toNat < xs.length) && true)) then bif decide (ws.length = ws.length ∧ n = (xs.set i.toNat k).length ∧ q = os.length ∧ mo = (4 : Int) ∧ (75 : Nat) = (75 : FuncId) ∧ (0 : Int) ≤ IntKind.i64.wrap (i + (1 : Int)) ∧ IntKind.i64.wrap (i + (1 : Int)) ≤ p ∧ IntKind.i64.wrap (i + (1 : Int)) + (↑N : Int) = p + (1 : Int) ∧ p ≤ (4 : Int) ∧ q + (5 : Nat) ^ (p.toNat - (IntKind.i64.wrap (i + (1 : Int))).toNat) ≤ (1000 : Nat)) && (wo.sp p ws && pl.ok.sp p.toNat (xs.set i.toNat k)) && (true && (true && (true && (true && (true && (true && (true && (true && true)))))))) then L N f n2 (mkS (34 : Nat) [((0 : Nat), AVal.int IntKind.i64 i), ((1 : Nat), AVal.ptr (0 : Nat) (0 : Nat) (0 : Nat)), ((5 : Nat), AVal.ptr (6 : Nat) (0 : Nat) (0 : Nat)), ((21 : Nat), AVal.int IntKind.i64 l), ((22 : Nat), AVal.int IntKind.i64 (IntKind.i64.wrap (k + (1 : Int))))] [{ c := BC.cells [AVal.own (1 : Nat) (0 : Nat) n (0 : Nat) (1 : Nat)], ver := (0 : Nat) }, { c := BC.typ (Cont.ints IntKind.i64 (pl.xe.sv p.toNat (xs.set i.toNat k) (IntKind.i64.wrap (i + (1 : Int))).toNat)), ver := (0 : Nat) }, { c := BC.cells [AVal.int IntKind.i64 p, AVal.ro (Cont.ints IntKind.i64 ws) ws.length (1 : Nat)], ver := (0 : Nat) }, { c := BC.cells [AVal.own (4 : Nat) (0 : Nat) (os ++ pl.sub.sv ws p.toNat (xs.set i.toNat k) (IntKind.i64.wrap (i + (1 : Int))).toNat).length (1 : Nat) (1 : Nat)], ver := (0 : Nat) }, { c := BC.typ (Cont.rows IntKind.i64 (os ++ pl.sub.sv ws p.toNat (xs.set i.toNat k) (IntKind.i64.wrap (i + (1 : Int))).toNat)), ver := (1 : Nat) }, { c := BC.cells [AVal.int IntKind.i64 mo], ver := (0 : Nat) }, { c := BC.cells [AVal.fn (75 : Nat) [AVal.ptr (0 : Nat) (0 : Nat) (0 : Nat), AVal.ptr (2 : Nat) (0 : Nat) (0 : Nat), AVal.ptr (3 : Nat) (0 : Nat) (0 : Nat), AVal.ptr (5 : Nat) (0 : Nat) (0 : Nat), AVal.ptr (6 : Nat) (0 : Nat) (0 : Nat)]], ver := (0 : Nat) }]) else none else none else none else none else some (AVal.tup [], [{ c := BC.cells [AVal.own (1 : Nat) (0 : Nat) n (0 : Nat) (1 : Nat)], ver := (0 : Nat) }, { c := BC.typ (Cont.ints IntKind.i64 xs), ver := (0 : Nat) }, { c := BC.cells [AVal.int IntKind.i64 p, AVal.ro (Cont.ints IntKind.i64 ws) ws.length (1 : Nat)], ver := (0 : Nat) }, { c := BC.cells [AVal.own (4 : Nat) (0 : Nat) q (1 : Nat) (1 : Nat)], ver := (0 : Nat) }, { c := BC.typ (Cont.rows IntKind.i64 os), ver := (1 : Nat) }, { c := BC.cells [AVal.int IntKind.i64 mo], ver := (0 : Nat) }, { c := BC.cells [AVal.fn (75 : Nat) [AVal.ptr (0 : Nat) (0 : Nat) (0 : Nat), AVal.ptr (2 : Nat) (0 : Nat) (0 : Nat), AVal.ptr (3 : Nat) (0 : Nat) (0 : Nat), AVal.ptr (5 : Nat) (0 : Nat) (0 : Nat), AVal.ptr (6 : Nat) (0 : Nat) (0 : Nat)]], ver := (0 : Nat) }])) := by kernel_rfl
theorem loop (p i : Nat) (ws xs : List Int) (os : List (List Int)) (n N f : Nat) (hi : i < p) (hp : p ≤ 4) (hN : i + N = p) (hw : wo.sp (p : Int) ws = true) (ho : pl.ok.sp p xs = true) (hn : n = xs.length) (hq : os.length + 5 ^ (p - i) ≤ 1000) : ∀ (d k n2 : Nat), k + d = 5 → d < n2 →
    L N f n2 (mkS 34 [(0, .int .i64 ((i : Nat) : Int)), (1, .ptr 0 0 0), (5, .ptr 6 0 0), (21, .int .i64 5), (22, .int .i64 ((k : Nat) : Int))] [⟨.cells [.own 1 0 n 0 1], 0⟩, ⟨.typ (.ints .i64 (pl.xn.sv p xs i k)), 0⟩, ⟨.cells [.int .i64 ((p : Nat) : Int), .ro (.ints .i64 ws) ws.length 1], 0⟩, ⟨.cells [.own 4 0 (pl.on.sv ws p xs i os k).length 1 1], 0⟩, ⟨.typ (.rows .i64 (pl.on.sv ws p xs i os k)), 1⟩, ⟨.cells [.int .i64 4], 0⟩, ⟨.cells [.fn (75 : Nat) [.ptr 0 0 0, .ptr 2 0 0, .ptr 3 0 0, .ptr 5 0 0, .ptr 6 0 0]], 0⟩]) = some (.tup [], [⟨.cells [.own 1 0 n 0 1], 0⟩, ⟨.typ (.ints .i64 (pl.xe.sv p xs i)), 0⟩, ⟨.cells [.int .i64 ((p : Nat) : Int), .ro (.ints .i64 ws) ws.length 1], 0⟩, ⟨.cells [.own 4 0 (os ++ pl.sub.sv ws p xs i).length 1 1], 0⟩, ⟨.typ (.rows .i64 (os ++ pl.sub.sv ws p xs i)), 1⟩, ⟨.cells [.int .i64 4], 0⟩, ⟨.cells [.fn (75 : Nat) [.ptr 0 0 0, .ptr 2 0 0, .ptr 3 0 0, .ptr 5 0 0, .ptr 6 0 0]], 0⟩]) := by
  intro d
  induction d with
  | zero =>
    intro k n2 hk hn
    obtain ⟨n2, rfl⟩ : ∃ k, n2 = k + 1 := ⟨n2 - 1, by omega⟩
    obtain rfl : k = 5 := by omega
    have hl := (pl.ok_spec.1 ho).1
    have e1 := pl.xn_end (p := p) xs hi
    have e2 : pl.on.sv ws p xs i os 5 = os ++ pl.sub.sv ws p xs i := by rw [pl.on.sv, pl.nn_end hi]
    rw [e1, e2]
    rw [round1]
    simp -implicitDefEqProofs (disch := omega) only [take_one, set_one, decide_eq_true, decide_eq_false, IntWalk.i64_in, beqT, beqF, bneT, bneF, nat_succ, ← Int.natCast_mul, ← Int.natCast_add, Int.toNat_natCast, Int.zero_mul, Int.zero_add, Int.add_zero, Nat.zero_add, Nat.add_zero, Nat.zero_mul, List.length_singleton, List.length_append, List.length_nil, List.length_cons, List.take_length, List.drop_zero, List.replicate_zero, List.take_nil, List.nil_append, Nat.reduceBEq, Nat.reduceMul, Nat.reduceLeDiff, eq_self, and_self, true_and, and_true, decide_true, decide_false, Bool.and_self, Bool.or_self, Bool.and_true, Bool.true_and, Bool.and_false, Bool.false_and, Bool.or_true, Bool.true_or, Bool.or_false, Bool.false_or, Bool.not_true, Bool.not_false, cond_true, cond_false]
  | succ d ih =>
    intro k n2 hk hn
    obtain ⟨n2, rfl⟩ : ∃ k, n2 = k + 1 := ⟨n2 - 1, by omega⟩
    have g := ih (k + 1) n2 (by omega) (by omega)
    have hl := (pl.ok_spec.1 ho).1
    have hx := pl.xn_length hl hi k
    have wi : IntKind.i64.wrap ((i : Int) + 1) = ((i + 1 : Nat) : Int) := wrap_nat i (by omega)
    have hol := pl.on_len ws xs hi os (n := k) (by omega)
    have ho2 := pl.ok_set (pl.ok_xn ho hi k (by omega)) (i := i) (n := (k : Int)) (by omega) (by omega)
    have nx := pl.xn_next hl hi k
    have no := pl.on_next (ws := ws) hl hi os k
    have hx2 : n = (pl.xn.sv p xs i k).length := by omega
    have hx3 : n = ((pl.xn.sv p xs i k).set i (k : Int)).length := by rw [List.length_set]; exact hx2
    have hq2 : (pl.on.sv ws p xs i os k).length + 5 ^ (p - (i + 1)) ≤ 1000 := by omega
    have y1 := eq_true hx3
    have y2 := eq_true (show (0 : Int) ≤ ((i + 1 : Nat) : Int) by omega)
    have y3 := eq_true (show ((i + 1 : Nat) : Int) ≤ (p : Int) by omega)
    have y4 := eq_true (show ((i + 1 : Nat) : Int) + (N : Int) = (p : Int) + 1 by omega)
    have y5 := eq_true (show (p : Int) ≤ 4 by omega)
    have y6 := eq_true hq2
    have x1 : (0 : Int) ≤ (i : Int) := Int.natCast_nonneg _
    have x2 : (i : Int) < (n : Int) := by omega
    have x3 : i < (pl.xn.sv p xs i k).length := by omega
    have c : (k : Int) < 5 := by omega
    have wk : IntKind.i64.wrap ((k : Int) + 1) = ((k + 1 : Nat) : Int) := wrap_nat k (by omega)
    rw [round1]
    rw [wi]
    simp only [Int.toNat_natCast, y1, y2, y3, y4, y5, y6, and_self, decide_true, hw, ho2, nx, no, decide_eq_true c, decide_eq_true x1, decide_eq_true x2, decide_eq_true x3, Bool.and_self, Bool.and_true, Bool.true_and, cond_true]
    rw [wk]
    exact g
theorem first (p i : Nat) (ws xs : List Int) (os : List (List Int)) (n N f : Nat) (hi : i < p) (hp : p ≤ 4) (hN : i + N = p) (hw : wo.sp (p : Int) ws = true) (ho : pl.ok.sp p xs = true) (hn : n = xs.length) (hq : os.length + 5 ^ (p - i) ≤ 1000) (k : Nat) (hk : k = 0) (z : Int) (hz : z = (k : Int)) (n2 : Nat) (hn2 : 5 < n2) :
    L N f (n2 + 1) (mkS 34 [(0, .int .i64 ((i : Nat) : Int)), (1, .ptr 0 0 0), (5, .ptr 6 0 0), (21, .int .i64 5), (22, .int .i64 z)] [⟨.cells [.own 1 0 n 0 1], 0⟩, ⟨.typ (.ints .i64 (pl.xn.sv p xs i k)), 0⟩, ⟨.cells [.int .i64 ((p : Nat) : Int), .ro (.ints .i64 ws) ws.length 1], 0⟩, ⟨.cells [.own 4 0 (pl.on.sv ws p xs i os k).length 0 1], 0⟩, ⟨.typ (.rows .i64 (pl.on.sv ws p xs i os k)), 0⟩, ⟨.cells [.int .i64 4], 0⟩, ⟨.cells [.fn (75 : Nat) [.ptr 0 0 0, .ptr 2 0 0, .ptr 3 0 0, .ptr 5 0 0, .ptr 6 0 0]], 0⟩]) = some (.tup [], [⟨.cells [.own 1 0 n 0 1], 0⟩, ⟨.typ (.ints .i64 (pl.xe.sv p xs i)), 0⟩, ⟨.cells [.int .i64 ((p : Nat) : Int), .ro (.ints .i64 ws) ws.length 1], 0⟩, ⟨.cells [.own 4 0 (os ++ pl.sub.sv ws p xs i).length 1 1], 0⟩, ⟨.typ (.rows .i64 (os ++ pl.sub.sv ws p xs i)), 1⟩, ⟨.cells [.int .i64 4], 0⟩, ⟨.cells [.fn (75 : Nat) [.ptr 0 0 0, .ptr 2 0 0, .ptr 3 0 0, .ptr 5 0 0, .ptr 6 0 0]], 0⟩]) := by
  have g := loop p i ws xs os n N f hi hp hN hw ho hn hq 4 (k + 1) n2 (by omega) (by omega)
  rw [hz]
  have hl := (pl.ok_spec.1 ho).1
  have hx := pl.xn_length hl hi k
  have wi : IntKind.i64.wrap ((i : Int) + 1) = ((i + 1 : Nat) : Int) := wrap_nat i (by omega)
  have hol := pl.on_len ws xs hi os (n := k) (by omega)
  have ho2 := pl.ok_set (pl.ok_xn ho hi k (by omega)) (i := i) (n := (k : Int)) (by omega) (by omega)
  have nx := pl.xn_next hl hi k
  have no := pl.on_next (ws := ws) hl hi os k
  have hx2 : n = (pl.xn.sv p xs i k).length := by omega
  have hx3 : n = ((pl.xn.sv p xs i k).set i (k : Int)).length := by rw [List.length_set]; exact hx2
  have hq2 : (pl.on.sv ws p xs i os k).length + 5 ^ (p - (i + 1)) ≤ 1000 := by omega
  have y1 := eq_true hx3
  have y2 := eq_true (show (0 : Int) ≤ ((i + 1 : Nat) : Int) by omega)
  have y3 := eq_true (show ((i + 1 : Nat) : Int) ≤ (p : Int) by omega)
  have y4 := eq_true (show ((i + 1 : Nat) : Int) + (N : Int) = (p : Int) + 1 by omega)
  have y5 := eq_true (show (p : Int) ≤ 4 by omega)
  have y6 := eq_true hq2
  have x1 : (0 : Int) ≤ (i : Int) := Int.natCast_nonneg _
  have x2 : (i : Int) < (n : Int) := by omega
  have x3 : i < (pl.xn.sv p xs i k).length := by omega
  have c : (k : Int) < 5 := by omega
  have wk : IntKind.i64.wrap ((k : Int) + 1) = ((k + 1 : Nat) : Int) := wrap_nat k (by omega)
  rw [round0]
  rw [wi]
  simp only [Int.toNat_natCast, y1, y2, y3, y4, y5, y6, and_self, decide_true, hw, ho2, nx, no, decide_eq_true c, decide_eq_true x1, decide_eq_true x2, decide_eq_true x3, Bool.and_self, Bool.and_true, Bool.true_and, cond_true]
  rw [wk]
  exact g
theorem runa (N : Nat) : ∀ args H v new, Ra (N + 1) args H = some (true, v, new) → ∃ fuel, runFn Try.prog (orcF [⟨76, layF clone.R⟩] (orcW [⟨75, R N⟩] [⟨66, inCore.R⟩])) hd Dr.std (some 0) fuel (bodyOf Try.f75) 34 [] args H = some (v, new) := by
  intro args H v new h
  unfold Ra at h
  split at h
  · rename_i i n xs p ws m q os mo ff
    simp only [Option.some.injEq, Prod.mk.injEq, decide_eq_true_eq, Bool.and_eq_true] at h
    obtain ⟨⟨⟨rfl, hn, rfl, rfl, rfl, h0, h1, hN, hp, hq⟩, ⟨hw, ho⟩, hc⟩, rfl, rfl⟩ := h
    obtain ⟨i, rfl⟩ : ∃ x : Nat, i = x := ⟨i.toNat, by omega⟩
    obtain ⟨p, rfl⟩ : ∃ x : Nat, p = x := ⟨p.toNat, by omega⟩
    simp only [Int.toNat_natCast] at hq ho hc ⊢
    have hl := (pl.ok_spec.1 ho).1
    obtain ⟨F, hF⟩ : ∃ F : Nat, F = 100 := ⟨100, rfl⟩
    refine ⟨F + 1, ?_⟩
    have c : i = p := by have := hc.1; omega
    have hc := hc.2
    rw [Bool.not_eq_true'] at hc
    subst c
    have hr := pl.ok_rng ho
    have cb : ((i : Int) == (n : Int)) = true := by rw [beq_iff_eq]; omega
    have hq1 : os.length + 1 ≤ 1000 := by rw [Nat.sub_self, Nat.pow_zero] at hq; exact hq
    have p1 : 1 ≤ i := by
      obtain ⟨q, e, hp, _⟩ := wo.valid hw
      omega
    rw [start, pl.sub_leaf ho, pl.xe_full hl]
    simp -implicitDefEqProofs (disch := omega) only [hc, hw, hr, cb, hn, Int.toNat_natCast, List.append_nil, take_one, set_one, decide_eq_true, decide_eq_false, IntWalk.i64_in, beqT, beqF, bneT, bneF, nat_succ, ← Int.natCast_mul, ← Int.natCast_add, Int.toNat_natCast, Int.zero_mul, Int.zero_add, Int.add_zero, Nat.zero_add, Nat.add_zero, Nat.zero_mul, List.length_singleton, List.length_append, List.length_nil, List.length_cons, List.take_length, List.drop_zero, List.replicate_zero, List.take_nil, List.nil_append, Nat.reduceBEq, Nat.reduceMul, Nat.reduceLeDiff, eq_self, and_self, true_and, and_true, decide_true, decide_false, Bool.and_self, Bool.or_self, Bool.and_true, Bool.true_and, Bool.and_false, Bool.false_and, Bool.or_true, Bool.true_or, Bool.or_false, Bool.false_or, Bool.not_true, Bool.not_false, cond_true, cond_false]
  · cases h
theorem leafb (i N F : Nat) (ws xs : List Int) (os : List (List Int)) (hp : i ≤ 4) (hw : wo.sp (i : Int) ws = true) (ho : pl.ok.sp i xs = true) (hq : os.length + 1 ≤ 1000) (hc : co.core.sp ws xs 1 i = true) :
    runFn Try.prog (orcF [⟨76, layF clone.R⟩] (orcW [⟨75, R N⟩] [⟨66, inCore.R⟩])) hd Dr.std (some 0) F (bodyOf Try.f75) 34 [] [.int .i64 (i : Int), .ptr 0 0 0, .ptr 2 0 0, .ptr 3 0 0, .ptr 5 0 0, .ptr 6 0 0] [⟨.cells [.own 1 0 xs.length 0 1], 0⟩, ⟨.typ (.ints .i64 xs), 0⟩, ⟨.cells [.int .i64 (i : Int), .ro (.ints .i64 ws) ws.length 1], 0⟩, ⟨.cells [.own 4 0 os.length 0 1], 0⟩, ⟨.typ (.rows .i64 os), 0⟩, ⟨.cells [.int .i64 4], 0⟩, ⟨.cells [.fn (75 : Nat) [.ptr 0 0 0, .ptr 2 0 0, .ptr 3 0 0, .ptr 5 0 0, .ptr 6 0 0]], 0⟩] = some (.tup [], [⟨.cells [.own 1 0 xs.length 0 1], 0⟩, ⟨.typ (.ints .i64 xs), 0⟩, ⟨.cells [.int .i64 ((i : Nat) : Int), .ro (.ints .i64 ws) ws.length 1], 0⟩, ⟨.cells [.own 4 0 (os ++ [xs]).length 1 1], 0⟩, ⟨.typ (.rows .i64 (os ++ [xs])), 1⟩, ⟨.cells [.int .i64 4], 0⟩, ⟨.cells [.fn (75 : Nat) [.ptr 0 0 0, .ptr 2 0 0, .ptr 3 0 0, .ptr 5 0 0, .ptr 6 0 0]], 0⟩]) := by
  have hl := (pl.ok_spec.1 ho).1
  have hr := pl.ok_rng ho
  have cb : ((i : Int) == (xs.length : Int)) = true := by rw [beq_iff_eq]; omega
  have p1 : 1 ≤ i := by
    obtain ⟨q, e, hp, _⟩ := wo.valid hw
    omega
  have e0 : (List.take 1 (List.drop 0 ((List.replicate 1 ([] : List Int)).set 0 (List.take xs.length xs)))) = [xs] := by
    rw [List.take_length]; rfl
  have eo : List.take os.length os = os := List.take_length
  rw [start, e0, eo]
  simp -implicitDefEqProofs (disch := omega) only [hc, hw, hr, cb, Int.toNat_natCast, List.length_append, List.length_singleton, take_one, set_one, decide_eq_true, decide_eq_false, IntWalk.i64_in, beqT, beqF, bneT, bneF, nat_succ, ← Int.natCast_mul, ← Int.natCast_add, Int.toNat_natCast, Int.zero_mul, Int.zero_add, Int.add_zero, Nat.zero_add, Nat.add_zero, Nat.zero_mul, List.length_singleton, List.length_append, List.length_nil, List.length_cons, List.take_length, List.drop_zero, List.replicate_zero, List.take_nil, List.nil_append, Nat.reduceBEq, Nat.reduceMul, Nat.reduceLeDiff, eq_self, and_self, true_and, and_true, decide_true, decide_false, Bool.and_self, Bool.or_self, Bool.and_true, Bool.true_and, Bool.and_false, Bool.false_and, Bool.or_true, Bool.true_or, Bool.or_false, Bool.false_or, Bool.not_true, Bool.not_false, cond_true, cond_false]
theorem nodeS (p i N F : Nat) (ws xs : List Int) (os : List (List Int)) (hi : i < p) (hl : xs.length = p) :
    runFn Try.prog (orcF [⟨76, layF clone.R⟩] (orcW [⟨75, R N⟩] [⟨66, inCore.R⟩])) hd Dr.std (some 0) (F + 1) (bodyOf Try.f75) 34 [] [.int .i64 (i : Int), .ptr 0 0 0, .ptr 2 0 0, .ptr 3 0 0, .ptr 5 0 0, .ptr 6 0 0] [⟨.cells [.own 1 0 xs.length 0 1], 0⟩, ⟨.typ (.ints .i64 xs), 0⟩, ⟨.cells [.int .i64 (p : Int), .ro (.ints .i64 ws) ws.length 1], 0⟩, ⟨.cells [.own 4 0 os.length 0 1], 0⟩, ⟨.typ (.rows .i64 os), 0⟩, ⟨.cells [.int .i64 4], 0⟩, ⟨.cells [.fn (75 : Nat) [.ptr 0 0 0, .ptr 2 0 0, .ptr 3 0 0, .ptr 5 0 0, .ptr 6 0 0]], 0⟩] = L N (F + 1) (F + 1) (mkS 34 [(0, .int .i64 ((i : Nat) : Int)), (1, .ptr 0 0 0), (5, .ptr 6 0 0), (21, .int .i64 5), (22, .int .i64 0)] [⟨.cells [.own 1 0 xs.length 0 1], 0⟩, ⟨.typ (.ints .i64 xs), 0⟩, ⟨.cells [.int .i64 ((p : Nat) : Int), .ro (.ints .i64 ws) ws.length 1], 0⟩, ⟨.cells [.own 4 0 os.length 0 1], 0⟩, ⟨.typ (.rows .i64 os), 0⟩, ⟨.cells [.int .i64 4], 0⟩, ⟨.cells [.fn (75 : Nat) [.ptr 0 0 0, .ptr 2 0 0, .ptr 3 0 0, .ptr 5 0 0, .ptr 6 0 0]], 0⟩]) := by
  have cb : ((i : Int) == (xs.length : Int)) = false := by rw [beq_eq_false_iff_ne]; omega
  have w5 : IntKind.i64.wrap ((4 : Int) + 1) = 5 := IntWalk.i64_in _ (by omega)
  rw [start, w5, cb, cond_false]
  simp -implicitDefEqProofs only [cond_true, Bool.and_self, Bool.true_and, Bool.and_true]
theorem nodeG (p i N F : Nat) (ws xs : List Int) (os : List (List Int)) (hi : i < p) (hp : p ≤ 4) (hN : i + N = p) (hw : wo.sp (p : Int) ws = true) (ho : pl.ok.sp p xs = true) (hq : os.length + 5 ^ (p - i) ≤ 1000) (hF : 10 ≤ F) :
    L N (F + 1) (F + 1) (mkS 34 [(0, .int .i64 ((i : Nat) : Int)), (1, .ptr 0 0 0), (5, .ptr 6 0 0), (21, .int .i64 5), (22, .int .i64 0)] [⟨.cells [.own 1 0 xs.length 0 1], 0⟩, ⟨.typ (.ints .i64 xs), 0⟩, ⟨.cells [.int .i64 ((p : Nat) : Int), .ro (.ints .i64 ws) ws.length 1], 0⟩, ⟨.cells [.own 4 0 os.length 0 1], 0⟩, ⟨.typ (.rows .i64 os), 0⟩, ⟨.cells [.int .i64 4], 0⟩, ⟨.cells [.fn (75 : Nat) [.ptr 0 0 0, .ptr 2 0 0, .ptr 3 0 0, .ptr 5 0 0, .ptr 6 0 0]], 0⟩]) = some (.tup [], [⟨.cells [.own 1 0 xs.length 0 1], 0⟩, ⟨.typ (.ints .i64 (pl.xe.sv p xs i)), 0⟩, ⟨.cells [.int .i64 ((p : Nat) : Int), .ro (.ints .i64 ws) ws.length 1], 0⟩, ⟨.cells [.own 4 0 (os ++ pl.sub.sv ws p xs i).length 1 1], 0⟩, ⟨.typ (.rows .i64 (os ++ pl.sub.sv ws p xs i)), 1⟩, ⟨.cells [.int .i64 4], 0⟩, ⟨.cells [.fn (75 : Nat) [.ptr 0 0 0, .ptr 2 0 0, .ptr 3 0 0, .ptr 5 0 0, .ptr 6 0 0]], 0⟩]) := by
  have g := first p i ws xs os xs.length N (F + 1) hi hp hN hw ho rfl hq 0 rfl 0 rfl F (by omega)
  have xz : pl.xn.sv p xs i 0 = xs := by rw [pl.xn.sv]
  rw [pl.on_zero, xz] at g
  exact g
theorem nodeb (p i N F : Nat) (ws xs : List Int) (os : List (List Int)) (hi : i < p) (hp : p ≤ 4) (hN : i + N = p) (hw : wo.sp (p : Int) ws = true) (ho : pl.ok.sp p xs = true) (hq : os.length + 5 ^ (p - i) ≤ 1000) (hF : 10 ≤ F) :
    runFn Try.prog (orcF [⟨76, layF clone.R⟩] (orcW [⟨75, R N⟩] [⟨66, inCore.R⟩])) hd Dr.std (some 0) (F + 1) (bodyOf Try.f75) 34 [] [.int .i64 (i : Int), .ptr 0 0 0, .ptr 2 0 0, .ptr 3 0 0, .ptr 5 0 0, .ptr 6 0 0] [⟨.cells [.own 1 0 xs.length 0 1], 0⟩, ⟨.typ (.ints .i64 xs), 0⟩, ⟨.cells [.int .i64 (p : Int), .ro (.ints .i64 ws) ws.length 1], 0⟩, ⟨.cells [.own 4 0 os.length 0 1], 0⟩, ⟨.typ (.rows .i64 os), 0⟩, ⟨.cells [.int .i64 4], 0⟩, ⟨.cells [.fn (75 : Nat) [.ptr 0 0 0, .ptr 2 0 0, .ptr 3 0 0, .ptr 5 0 0, .ptr 6 0 0]], 0⟩] = some (.tup [], [⟨.cells [.own 1 0 xs.length 0 1], 0⟩, ⟨.typ (.ints .i64 (pl.xe.sv p xs i)), 0⟩, ⟨.cells [.int .i64 ((p : Nat) : Int), .ro (.ints .i64 ws) ws.length 1], 0⟩, ⟨.cells [.own 4 0 (os ++ pl.sub.sv ws p xs i).length 1 1], 0⟩, ⟨.typ (.rows .i64 (os ++ pl.sub.sv ws p xs i)), 1⟩, ⟨.cells [.int .i64 4], 0⟩, ⟨.cells [.fn (75 : Nat) [.ptr 0 0 0, .ptr 2 0 0, .ptr 3 0 0, .ptr 5 0 0, .ptr 6 0 0]], 0⟩]) := by
  rw [nodeS p i N F ws xs os hi (pl.ok_spec.1 ho).1, nodeG p i N F ws xs os hi hp hN hw ho hq hF]
theorem runb (N : Nat) : ∀ args H v new, Rb (N + 1) args H = some (true, v, new) → ∃ fuel, runFn Try.prog (orcF [⟨76, layF clone.R⟩] (orcW [⟨75, R N⟩] [⟨66, inCore.R⟩])) hd Dr.std (some 0) fuel (bodyOf Try.f75) 34 [] args H = some (v, new) := by
  intro args H v new h
  unfold Rb at h
  split at h
  · rename_i i n xs p ws m q os mo ff
    simp only [Option.some.injEq, Prod.mk.injEq, decide_eq_true_eq, Bool.and_eq_true] at h
    obtain ⟨⟨⟨rfl, hn, rfl, rfl, rfl, h0, h1, hN, hp, hq⟩, ⟨hw, ho⟩, hc⟩, rfl, rfl⟩ := h
    obtain ⟨i, rfl⟩ : ∃ x : Nat, i = x := ⟨i.toNat, by omega⟩
    obtain ⟨p, rfl⟩ : ∃ x : Nat, p = x := ⟨p.toNat, by omega⟩
    simp only [Int.toNat_natCast] at hq ho hc ⊢
    have hl := (pl.ok_spec.1 ho).1
    obtain ⟨F, hF⟩ : ∃ F : Nat, F = 100 := ⟨100, rfl⟩
    refine ⟨F + 1, ?_⟩
    subst hn
    by_cases c : i = p
    · subst c
      have hc : co.core.sp ws xs 1 i = true := by
        simp only [decide_true, Bool.true_and, Bool.not_not] at hc
        exact hc
      rw [pl.sub_leaf ho, pl.xe_full hl, hc, cond_true]
      exact leafb i N (F + 1) ws xs os (by omega) hw ho (by rw [Nat.sub_self, Nat.pow_zero] at hq; exact hq) hc
    · exact nodeb p i N F ws xs os (by omega) (by omega) (by omega) hw ho hq (by omega)
  · cases h
def Sa (N : Nat) := reWR [0, 1, 2, 3, 4, 5, 6] (fun l ver => bif eqN l 4 then 1 else ver) (Ra N)
theorem join {N : Nat} (ha : EntWOk Try.prog ⟨75, Ra N⟩) (hb : EntWOk Try.prog ⟨75, Rb N⟩) : EntWOk Try.prog ⟨75, R0 N⟩ := by
  refine EntWOk.cases (R1 := Sa N) (R2 := Rb N) (ha.reW _ _) hb fun args H v H' h => ?_
  unfold R0 at h
  split at h
  · rename_i i n xs p ws m q os mo ff
    simp only [Option.some.injEq, Prod.mk.injEq, Bool.and_eq_true, decide_eq_true_eq] at h
    obtain ⟨⟨h1, h2⟩, rfl, rfl⟩ := h
    cases hc : (decide (i = p) && !co.core.sp ws xs 1 p.toNat) with
    | true =>
      left
      have hs : Ra N [.int .i64 i, .ptr 0 0 0, .ptr 2 0 0, .ptr 3 0 0, .ptr 5 0 0, .ptr 6 0 0] [⟨.cells [.own 1 0 n 0 1], 0⟩, ⟨.typ (.ints .i64 xs), 0⟩, ⟨.cells [.int .i64 p, .ro (.ints .i64 ws) m 1], 0⟩, ⟨.cells [.own 4 0 q 0 1], 0⟩, ⟨.typ (.rows .i64 os), 0⟩, ⟨.cells [.int .i64 mo], 0⟩, ⟨.cells [.fn ff [.ptr 0 0 0, .ptr 2 0 0, .ptr 3 0 0, .ptr 5 0 0, .ptr 6 0 0]], 0⟩] = some (true, .tup [], [⟨.cells [.own 1 0 n 0 1], 0⟩, ⟨.typ (.ints .i64 (pl.xe.sv p.toNat xs i.toNat)), 0⟩, ⟨.cells [.int .i64 p, .ro (.ints .i64 ws) m 1], 0⟩, ⟨.cells [.own 4 0 (os ++ pl.sub.sv ws p.toNat xs i.toNat).length 0 1], 0⟩, ⟨.typ (.rows .i64 (os ++ pl.sub.sv ws p.toNat xs i.toNat)), 0⟩, ⟨.cells [.int .i64 mo], 0⟩, ⟨.cells [.fn ff [.ptr 0 0 0, .ptr 2 0 0, .ptr 3 0 0, .ptr 5 0 0, .ptr 6 0 0]], 0⟩]) := by
        simp only [Ra, decide_eq_true h1, h2.1, h2.2, hc, Bool.and_self]
      unfold Sa reWR
      rw [hs]
      rfl
    | false =>
      right
      simp only [Rb, decide_eq_true h1, h2.1, h2.2, hc, Bool.and_self, Bool.not_false]
  · cases h
theorem widen {N : Nat} (h0 : EntWOk Try.prog ⟨75, R0 N⟩) : EntWOk Try.prog ⟨75, R N⟩ := by
  refine EntWOk.cases (R1 := R0 N) (R2 := zinR (R0 N)) h0 h0.zin fun args H v H' h => ?_
  unfold R at h
  split at h
  · rename_i i n xs p ws m q os mo ff
    simp only [Option.some.injEq, Prod.mk.injEq, Bool.and_eq_true, decide_eq_true_eq] at h
    obtain ⟨⟨h1, h2⟩, rfl, rfl⟩ := h
    left
    simp only [R0, decide_eq_true h1, h2.1, h2.2, Bool.and_self]
  · rename_i i n xs p ws m q os mo ff
    simp only [Option.some.injEq, Prod.mk.injEq, Bool.and_eq_true, decide_eq_true_eq] at h
    obtain ⟨⟨h1, h2⟩, rfl, rfl⟩ := h
    right
    have hs : R0 N [.int .i64 i, .ptr 0 0 0, .ptr 2 0 0, .ptr 3 0 0, .ptr 5 0 0, .ptr 6 0 0] [⟨.cells [.own 1 0 n 0 1], 0⟩, ⟨.typ (.ints .i64 xs), 0⟩, ⟨.cells [.int .i64 p, .ro (.ints .i64 ws) m 1], 0⟩, ⟨.cells [.own 4 0 q 0 1], 0⟩, ⟨.typ (.rows .i64 os), 0⟩, ⟨.cells [.int .i64 mo], 0⟩, ⟨.cells [.fn ff [.ptr 0 0 0, .ptr 2 0 0, .ptr 3 0 0, .ptr 5 0 0, .ptr 6 0 0]], 0⟩] = some (true, .tup [], [⟨.cells [.own 1 0 n 0 1], 0⟩, ⟨.typ (.ints .i64 (pl.xe.sv p.toNat xs i.toNat)), 0⟩, ⟨.cells [.int .i64 p, .ro (.ints .i64 ws) m 1], 0⟩, ⟨.cells [.own 4 0 (os ++ pl.sub.sv ws p.toNat xs i.toNat).length 1 1], 0⟩, ⟨.typ (.rows .i64 (os ++ pl.sub.sv ws p.toNat xs i.toNat)), 1⟩, ⟨.cells [.int .i64 mo], 0⟩, ⟨.cells [.fn ff [.ptr 0 0 0, .ptr 2 0 0, .ptr 3 0 0, .ptr 5 0 0, .ptr 6 0 0]], 0⟩]) := by
      simp only [R0, decide_eq_true h1, h2.1, h2.2, Bool.and_self]
    have e1 : AVal.zer.zers 0 [⟨.cells [.own 1 0 n 0 1], 0⟩, ⟨.typ (.ints .i64 xs), 0⟩, ⟨.cells [.int .i64 p, .ro (.ints .i64 ws) m 1], 0⟩, ⟨.cells [.own 4 0 q 1 1], 0⟩, ⟨.typ (.rows .i64 os), 1⟩, ⟨.cells [.int .i64 mo], 0⟩, ⟨.cells [.fn ff [.ptr 0 0 0, .ptr 2 0 0, .ptr 3 0 0, .ptr 5 0 0, .ptr 6 0 0]], 0⟩] [.int .i64 i, .ptr 0 0 0, .ptr 2 0 0, .ptr 3 0 0, .ptr 5 0 0, .ptr 6 0 0] = [.int .i64 i, .ptr 0 0 0, .ptr 2 0 0, .ptr 3 0 0, .ptr 5 0 0, .ptr 6 0 0] := rfl
    have e2 : zerB 0 [⟨.cells [.own 1 0 n 0 1], 0⟩, ⟨.typ (.ints .i64 xs), 0⟩, ⟨.cells [.int .i64 p, .ro (.ints .i64 ws) m 1], 0⟩, ⟨.cells [.own 4 0 q 1 1], 0⟩, ⟨.typ (.rows .i64 os), 1⟩, ⟨.cells [.int .i64 mo], 0⟩, ⟨.cells [.fn ff [.ptr 0 0 0, .ptr 2 0 0, .ptr 3 0 0, .ptr 5 0 0, .ptr 6 0 0]], 0⟩] 0 [⟨.cells [.own 1 0 n 0 1], 0⟩, ⟨.typ (.ints .i64 xs), 0⟩, ⟨.cells [.int .i64 p, .ro (.ints .i64 ws) m 1], 0⟩, ⟨.cells [.own 4 0 q 1 1], 0⟩, ⟨.typ (.rows .i64 os), 1⟩, ⟨.cells [.int .i64 mo], 0⟩, ⟨.cells [.fn ff [.ptr 0 0 0, .ptr 2 0 0, .ptr 3 0 0, .ptr 5 0 0, .ptr 6 0 0]], 0⟩] = [⟨.cells [.own 1 0 n 0 1], 0⟩, ⟨.typ (.ints .i64 xs), 0⟩, ⟨.cells [.int .i64 p, .ro (.ints .i64 ws) m 1], 0⟩, ⟨.cells [.own 4 0 q 0 1], 0⟩, ⟨.typ (.rows .i64 os), 0⟩, ⟨.cells [.int .i64 mo], 0⟩, ⟨.cells [.fn ff [.ptr 0 0 0, .ptr 2 0 0, .ptr 3 0 0, .ptr 5 0 0, .ptr 6 0 0]], 0⟩] := rfl
    unfold zinR
    rw [e1, e2, hs]
    rfl
  · cases h
theorem ok : ∀ N, EntWOk Try.prog ⟨75, R N⟩ := by
  intro N
  induction N with
  | zero =>
    refine ⟨⟨_, Try.func75, by kernel_rfl, by kernel_rfl⟩, fun args H v H' h => ?_⟩
    exfalso
    change R 0 args H = _ at h
    unfold R at h
    split at h
    · simp only [Option.some.injEq, Prod.mk.injEq, Bool.and_eq_true, decide_eq_true_eq] at h
      omega
    · simp only [Option.some.injEq, Prod.mk.injEq, Bool.and_eq_true, decide_eq_true_eq] at h
      omega
    · cases h
  | succ N ih => exact widen (join (entw_ok mixed (A := (orcF [⟨76, layF clone.R⟩] (orcW [⟨75, R N⟩] [⟨66, inCore.R⟩]))) (orcF_ok (by simp only [List.mem_cons, List.not_mem_nil, or_false, forall_eq_or_imp, forall_eq]; exact clone.ok.frz) (orcW_ok (by simp only [List.mem_cons, List.not_mem_nil, or_false, forall_eq_or_imp, forall_eq]; exact ih) (by simp only [List.mem_cons, List.not_mem_nil, or_false, forall_eq_or_imp, forall_eq]; exact inCore.ok))) Try.func75 (by kernel_rfl) (by kernel_rfl) (n := 34) (ts := []) (hd := hd) (dr := Dr.std) (cut := (some 0)) (by kernel_rfl) (by kernel_rfl) (by kernel_rfl) (runa N)) (entw_ok mixed (A := (orcF [⟨76, layF clone.R⟩] (orcW [⟨75, R N⟩] [⟨66, inCore.R⟩]))) (orcF_ok (by simp only [List.mem_cons, List.not_mem_nil, or_false, forall_eq_or_imp, forall_eq]; exact clone.ok.frz) (orcW_ok (by simp only [List.mem_cons, List.not_mem_nil, or_false, forall_eq_or_imp, forall_eq]; exact ih) (by simp only [List.mem_cons, List.not_mem_nil, or_false, forall_eq_or_imp, forall_eq]; exact inCore.ok))) Try.func75 (by kernel_rfl) (by kernel_rfl) (n := 34) (ts := []) (hd := hd) (dr := Dr.std) (cut := (some 0)) (by kernel_rfl) (by kernel_rfl) (by kernel_rfl) (runb N)))
end plPut

def nr.sq (os : List (List Int)) : Nat := os.length
theorem entw_of {P : Program} {f : FuncId} {R : List AVal → Heap → Option (Bool × AVal × Heap)} (he : Enters P f) (h : ∀ args H v H', R args H = some (true, v, H') → ∃ R1, EntWOk P ⟨f, R1⟩ ∧ R1 args H = some (true, v, H')) : EntWOk P ⟨f, R⟩ :=
  ⟨he, fun args H v H' hR => by obtain ⟨R1, h1, h2⟩ := h args H v H' hR; exact h1.2 args H v H' h2⟩
namespace plPut
def R00 : List AVal → Heap → Option (Bool × AVal × Heap)
  | [.int .i64 i, .ptr 0 0 0, .ptr 2 0 0, .ptr 3 0 0, .ptr 5 0 0, .ptr 6 0 0], [⟨.cells [.own 1 0 n 0 1], 0⟩, ⟨.typ (.ints .i64 xs), 0⟩, ⟨.cells [.int .i64 p, .ro (.ints .i64 ws) m 1], 0⟩, ⟨.cells [.own 4 0 q 0 1], 0⟩, ⟨.typ (.rows .i64 os), 0⟩, ⟨.cells [.int .i64 mo], 0⟩, ⟨.cells [.fn ff [.ptr 0 0 0, .ptr 2 0 0, .ptr 3 0 0, .ptr 5 0 0, .ptr 6 0 0]], 0⟩] => some (decide (m = ws.length ∧ n = xs.length ∧ q = nr.sq os ∧ mo = 4 ∧ ff = 75 ∧ i = 0 ∧ 0 ≤ p ∧ p ≤ 4 ∧ q = 0) && (wo.sp p ws && pl.ok.sp p.toNat xs), .tup [], [⟨.cells [.own 1 0 n 0 1], 0⟩, ⟨.typ (.ints .i64 (pl.xe.sv p.toNat xs 0)), 0⟩, ⟨.cells [.int .i64 p, .ro (.ints .i64 ws) m 1], 0⟩, ⟨.cells [.own 4 0 (pl.all.sv ws p.toNat).length 1 1], 0⟩, ⟨.typ (.rows .i64 (pl.all.sv ws p.toNat)), 1⟩, ⟨.cells [.int .i64 mo], 0⟩, ⟨.cells [.fn ff [.ptr 0 0 0, .ptr 2 0 0, .ptr 3 0 0, .ptr 5 0 0, .ptr 6 0 0]], 0⟩])
  | _, _ => none
theorem ok0 : EntWOk Try.prog ⟨75, R00⟩ := by
  refine entw_of (ok 0).1 fun args H v H' h => ?_
  unfold R00 at h
  split at h
  · rename_i i n xs p ws m q os mo ff
    simp only [Option.some.injEq, Prod.mk.injEq, Bool.and_eq_true, decide_eq_true_eq] at h
    obtain ⟨⟨⟨h1, h2, h3, h4, h5, rfl, h7, h8, h9⟩, hw, ho⟩, rfl, rfl⟩ := h
    obtain rfl : os = [] := List.length_eq_zero_iff.1 (show nr.sq os = 0 by omega)
    have h5l := pl.pow625 (p := p.toNat) (by omega)
    have hq : q + 5 ^ (p.toNat - (0 : Int).toNat) ≤ 1000 := by
      rw [show p.toNat - (0 : Int).toNat = p.toNat from rfl]; omega
    refine ⟨_, ok (p.toNat + 1), ?_⟩
    have hd : decide (m = ws.length ∧ n = xs.length ∧ q = ([] : List (List Int)).length ∧ mo = 4 ∧ ff = 75 ∧ 0 ≤ (0 : Int) ∧ (0 : Int) ≤ p ∧ (0 : Int) + ((p.toNat + 1 : Nat) : Int) = p + 1 ∧ p ≤ 4 ∧ q + 5 ^ (p.toNat - (0 : Int).toNat) ≤ 1000) = true := decide_eq_true ⟨h1, h2, h3, h4, h5, by omega, h7, by omega, h8, hq⟩
    have e0 : (0 : Int).toNat = 0 := rfl
    have e1 : ([] : List (List Int)) ++ pl.sub.sv ws p.toNat xs 0 = pl.all.sv ws p.toNat := by rw [List.nil_append, pl.sub_zero]
    simp only [R, hd, hw, ho, Bool.and_self]
    rw [e0, e1]
  · cases h
end plPut
namespace iCorePlans
def R : List AVal → Option (Bool × AVal × List Blk)
  | [.agg [.int .i64 p, .ro (.ints .i64 ws) m 1], .int .i64 mo] => some (decide (m = ws.length ∧ mo = 4 ∧ 0 ≤ p ∧ p ≤ 4) && wo.sp p ws, .tup [.ro (.rows .i64 (pl.all.sv ws p.toNat)) (pl.all.sv ws p.toNat).length 1, .bool true], [])
  | _ => none
theorem go (p : Int) (ws : List Int) :
  runFn Try.prog (orcW [⟨75, plPut.R00⟩] [⟨62, iValidWorths.R⟩, ⟨74, within.R⟩]) hd0 Dr.std (some 0) 0 (bodyOf Try.f23) 30 [4, 5] [.agg [.int .i64 p, .ro (.ints .i64 ws) ws.length 1], .int .i64 4] []
  = (bif true && true && (true && true && true) then bif decide (ws.length = ws.length) && wo.sp p ws && (true && (true && true) && true || true && true) then bif true && true then bif decide ((4 : Int) < p) then some (AVal.tup [AVal.nils, AVal.bool false], []) else bif true && true then bif (1 : Nat) == (1 : Nat) && (p == p && (decide ((0 : Int) ≤ p) && (decide (p * (8 : Int) ≤ (140737488355328 : Int)) && decide (p ≤ (4611686018427387904 : Int))))) then bif true && true then bif decide (ws.length = ws.length ∧ p.toNat = (List.replicate p.toNat (0 : Int)).length ∧ (0 : Nat) = nr.sq (List.replicate (0 : Nat) []) ∧ (4 : Int) = (4 : Int) ∧ (75 : Nat) = (75 : FuncId) ∧ (0 : Int) = (0 : Int) ∧ (0 : Int) ≤ p ∧ p ≤ (4 : Int) ∧ (0 : Nat) = (0 : Nat)) && (wo.sp p ws && pl.ok.sp p.toNat (List.replicate p.toNat (0 : Int))) && (true && (true && (true && (true && (true && (true && (true && true)))))) && (true && (true && (true && (true && (true && (true && (true && true)))))))) then bif true && true then some (AVal.tup [AVal.ro (Cont.rows IntKind.i64 (pl.all.sv ws p.toNat)) (pl.all.sv ws p.toNat).length (1 : Nat), AVal.bool true], []) else none else none else none else none else none else none else none else none) := by kernel_rfl
theorem run : ∀ args v new, R args = some (true, v, new) → ∃ fuel, runFn Try.prog (orcW [⟨75, plPut.R00⟩] [⟨62, iValidWorths.R⟩, ⟨74, within.R⟩]) hd0 Dr.std (some 0) fuel (bodyOf Try.f23) 30 [4, 5] args [] = some (v, new) := by
  intro args v new h
  unfold R at h
  split at h
  · rename_i p ws m mo
    simp only [Option.some.injEq, Prod.mk.injEq, Bool.and_eq_true, decide_eq_true_eq] at h
    obtain ⟨⟨⟨rfl, rfl, h1, h2⟩, hs⟩, rfl, rfl⟩ := h
    obtain ⟨p, rfl, hp, hw, h0, v⟩ := wo.valid hs
    refine ⟨0, ?_⟩
    have ho : pl.ok.sp p (List.replicate p 0) = true := pl.ok_spec.2 ⟨List.length_replicate, fun x hx => by have := List.eq_of_mem_replicate hx; omega⟩
    have z : nr.sq [] = 0 := rfl
    rw [go]
    simp -implicitDefEqProofs (disch := omega) only [hs, ho, z, Int.toNat_natCast, List.length_replicate, take_one, set_one, decide_eq_true, decide_eq_false, IntWalk.i64_in, beqT, beqF, bneT, bneF, nat_succ, ← Int.natCast_mul, ← Int.natCast_add, Int.toNat_natCast, Int.zero_mul, Int.zero_add, Int.add_zero, Nat.zero_add, Nat.add_zero, Nat.zero_mul, List.length_singleton, List.length_append, List.length_nil, List.length_cons, List.take_length, List.drop_zero, List.replicate_zero, List.take_nil, List.nil_append, Nat.reduceBEq, Nat.reduceMul, Nat.reduceLeDiff, eq_self, and_self, true_and, and_true, decide_true, decide_false, Bool.and_self, Bool.or_self, Bool.and_true, Bool.true_and, Bool.and_false, Bool.false_and, Bool.or_true, Bool.true_or, Bool.or_false, Bool.false_or, Bool.not_true, Bool.not_false, cond_true, cond_false]
  · cases h
theorem ok : EntOk Try.prog ⟨23, R⟩ :=
  ent_okA mixed (A := (orcW [⟨75, plPut.R00⟩] [⟨62, iValidWorths.R⟩, ⟨74, within.R⟩])) (orcW_ok (by simp only [List.mem_cons, List.not_mem_nil, or_false, forall_eq_or_imp, forall_eq]; exact plPut.ok0) (by simp only [List.mem_cons, List.not_mem_nil, or_false, forall_eq_or_imp, forall_eq]; exact ⟨iValidWorths.ok, within.ok⟩)) Try.func23 (by kernel_rfl) (by kernel_rfl) (n := 30) (ts := [4, 5]) (hd := hd0) (dr := Dr.std) (cut := (some 0)) (by kernel_rfl) (by kernel_rfl) (by kernel_rfl) run
end iCorePlans


namespace sCorePlans
def dr : Nat → Dr := fun i => bif eqN i 8 then ⟨some [997, 4], false⟩ else ⟨none, false⟩
def R : List AVal → Option (Bool × AVal × List Blk)
  | [.agg [.int .i64 p, .ro (.ints .i64 ws) m 1], .int .i64 mo] => some (decide (m = ws.length ∧ mo = 4 ∧ 0 ≤ p ∧ p ≤ 4) && wo.sp p ws, .tup [.ro (.rows .i64 (pl.all.sv ws p.toNat)) (pl.all.sv ws p.toNat).length 1, .bool true], [])
  | _ => none
def hd : Nat → Head := fun i => bif eqN i 0 then ⟨[1, 2, 6, 7, 8, 998], none⟩ else ⟨[1, 2, 6, 7, 8, 9, 998], none⟩
noncomputable def L0 (f n : Nat) (s : State) := loopAt Try.prog (orc [⟨59, l03Is.R⟩, ⟨77, l00In.R⟩, ⟨78, l03Core.R⟩]) hd dr 0 f (bodyOf Try.f24) 0 [true, true, true, true, false, true] (retK Try.prog [4, 5] 0 (some 0)) n s
noncomputable def L2 (f n n2 : Nat) (s : State) := loopAt Try.prog (orc [⟨59, l03Is.R⟩, ⟨77, l00In.R⟩, ⟨78, l03Core.R⟩]) hd dr 0 f (bodyAt (bodyOf Try.f24) [true, true, true, true, false, true]) (curAt (bodyOf Try.f24) 0 [true, true, true, true, false, true]) [true, true, true, true] (iterK (normE 0 (hd (curAt (bodyOf Try.f24) 0 [true, true, true, true, false, true]))) (L0 f n) (contAt Try.prog (orc [⟨59, l03Is.R⟩, ⟨77, l00In.R⟩, ⟨78, l03Core.R⟩]) hd dr 0 f (bodyOf Try.f24) 0 [true, true, true, true, false, true] (retK Try.prog [4, 5] 0 (some 0)))) n2 s
theorem start (p : Int) (ws : List Int) (f : Nat) :
  runFn Try.prog (orc [⟨59, l03Is.R⟩, ⟨77, l00In.R⟩, ⟨78, l03Core.R⟩]) hd dr (some 0) f (bodyOf Try.f24) 64 [4, 5] [.agg [.int .i64 p, .ro (.ints .i64 ws) ws.length 1], .int .i64 4] []
  = (bif decide (ws.length = ws.length) && wo.sp p ws && (false && true || true && true) then bif true && true then bif decide ((4 : Int) < p) then some (AVal.tup [AVal.nils, AVal.bool false], []) else bif true && (true && true || true && true) then bif true && true then bif (1 : Nat) == (1 : Nat) && (p == p && (decide ((0 : Int) ≤ p) && (decide (p * (8 : Int) ≤ (140737488355328 : Int)) && decide (p ≤ (4611686018427387904 : Int))))) then L0 f f (mkS (64 : Nat) [((1 : Nat), AVal.int IntKind.i64 (4 : Int)), ((2 : Nat), AVal.ptr (0 : Nat) (0 : Nat) (0 : Nat)), ((6 : Nat), AVal.own (1 : Nat) (0 : Nat) (0 : Nat) (0 : Nat) (1 : Nat)), ((7 : Nat), AVal.own (2 : Nat) (0 : Nat) p.toNat (0 : Nat) (1 : Nat)), ((8 : Nat), AVal.bool true)] [{ c := BC.cells [AVal.int IntKind.i64 p, AVal.ro (Cont.ints IntKind.i64 ws) ws.length (1 : Nat)], ver := (0 : Nat) }, { c := BC.typ (Cont.rows IntKind.i64 (List.replicate (0 : Nat) [])), ver := (0 : Nat) }, { c := BC.typ (Cont.ints IntKind.i64 (List.replicate p.toNat (0 : Int))), ver := (0 : Nat) }]) else none else none else none else none else none) := by kernel_rfl
theorem round0t (p : Int) (ws xs : List Int) (os : List (List Int)) (q n0 : Nat) (f n : Nat) :
  L0 f (n + 1) (mkS 64 [(1, .int .i64 4), (2, .ptr 0 0 0), (6, .own 1 0 q 0 1), (7, .own 2 0 n0 0 1), (8, .bool true)] [⟨.cells [.int .i64 p, .ro (.ints .i64 ws) ws.length 1], 0⟩, ⟨.typ (.rows .i64 os), 0⟩, ⟨.typ (.ints .i64 xs), 0⟩])
  = (bif decide (ws.length = ws.length ∧ n0 = xs.length ∧ (↑n0 : Int) = p ∧ (1 : Int) ≤ (1 : Int) ∧ (1 : Int) ≤ (1000 : Int)) && (wo.sp p ws && xs.all fun x => decide ((-1000000 : Int) ≤ x) && decide (x ≤ (1000000 : Int))) && (false && (false && true) || true && true) then bif co.core.sp ws xs (1 : Int) p.toNat then bif (1 : Nat) == (1 : Nat) && (1 : Nat) == (1 : Nat) && (true && (true && true) && (true && true && (decide ((0 : Nat) + (List.take n0 (List.drop (0 : Nat) xs)).length ≤ (4611686018427387904 : Nat)) && decide (((0 : Nat) + (List.take n0 (List.drop (0 : Nat) xs)).length) * (8 : Nat) ≤ (140737488355328 : Nat))))) then bif (1 : Nat) == (1 : Nat) && (1 : Nat) == (1 : Nat) && (true && (true && true) && (true && true && (decide (q + (List.take (1 : Nat) (List.drop (0 : Nat) ((List.replicate (1 : Nat) []).set (0 : Nat) (List.take ((0 : Nat) + (List.take n0 (List.drop (0 : Nat) xs)).length) (List.take (0 : Nat) (List.replicate (0 : Nat) (0 : Int)) ++ List.take n0 (List.drop (0 : Nat) xs)))))).length ≤ (4611686018427387904 : Nat)) && decide ((q + (List.take (1 : Nat) (List.drop (0 : Nat) ((List.replicate (1 : Nat) []).set (0 : Nat) (List.take ((0 : Nat) + (List.take n0 (List.drop (0 : Nat) xs)).length) (List.take (0 : Nat) (List.replicate (0 : Nat) (0 : Int)) ++ List.take n0 (List.drop (0 : Nat) xs)))))).length) * (24 : Nat) ≤ (140737488355328 : Nat))))) then L2 f n f (mkS (64 : Nat) [((1 : Nat), AVal.int IntKind.i64 (4 : Int)), ((2 : Nat), AVal.ptr (0 : Nat) (0 : Nat) (0 : Nat)), ((6 : Nat), AVal.own (1 : Nat) (0 : Nat) (q + (List.take (1 : Nat) (List.drop (0 : Nat) ((List.replicate (1 : Nat) []).set (0 : Nat) (List.take ((0 : Nat) + (List.take n0 (List.drop (0 : Nat) xs)).length) (List.take (0 : Nat) (List.replicate (0 : Nat) (0 : Int)) ++ List.take n0 (List.drop (0 : Nat) xs)))))).length) (0 : Nat) (1 : Nat)), ((7 : Nat), AVal.own (2 : Nat) (0 : Nat) n0 (0 : Nat) (1 : Nat)), ((8 : Nat), AVal.bool false), ((9 : Nat), AVal.int IntKind.i64 (IntKind.i64.wrap ((↑n0 : Int) - (1 : Int))))] [{ c := BC.cells [AVal.int IntKind.i64 p, AVal.ro (Cont.ints IntKind.i64 ws) ws.length (1 : Nat)], ver := (0 : Nat) }, { c := BC.typ (Cont.rows IntKind.i64 (List.take q os ++ List.take (1 : Nat) (List.drop (0 : Nat) ((List.replicate (1 : Nat) []).set (0 : Nat) (List.take ((0 : Nat) + (List.take n0 (List.drop (0 : Nat) xs)).length) (List.take (0 : Nat) (List.replicate (0 : Nat) (0 : Int)) ++ List.take n0 (List.drop (0 : Nat) xs))))))), ver := (0 : Nat) }, { c := BC.typ (Cont.ints IntKind.i64 xs), ver := (0 : Nat) }]) else none else none else L2 f n f (mkS (64 : Nat) [((1 : Nat), AVal.int IntKind.i64 (4 : Int)), ((2 : Nat), AVal.ptr (0 : Nat) (0 : Nat) (0 : Nat)), ((6 : Nat), AVal.own (1 : Nat) (0 : Nat) q (0 : Nat) (1 : Nat)), ((7 : Nat), AVal.own (2 : Nat) (0 : Nat) n0 (0 : Nat) (1 : Nat)), ((8 : Nat), AVal.bool false), ((9 : Nat), AVal.int IntKind.i64 (IntKind.i64.wrap ((↑n0 : Int) - (1 : Int))))] [{ c := BC.cells [AVal.int IntKind.i64 p, AVal.ro (Cont.ints IntKind.i64 ws) ws.length (1 : Nat)], ver := (0 : Nat) }, { c := BC.typ (Cont.rows IntKind.i64 os), ver := (0 : Nat) }, { c := BC.typ (Cont.ints IntKind.i64 xs), ver := (0 : Nat) }]) else none) := by kernel_rfl
theorem round0f (p : Int) (ws xs : List Int) (os : List (List Int)) (q n0 : Nat) (f n : Nat) :
  L0 f (n + 1) (mkS 64 [(1, .int .i64 4), (2, .ptr 0 0 0), (6, .own 1 0 q 0 1), (7, .own 2 0 n0 0 1), (8, .bool false)] [⟨.cells [.int .i64 p, .ro (.ints .i64 ws) ws.length 1], 0⟩, ⟨.typ (.rows .i64 os), 0⟩, ⟨.typ (.ints .i64 xs), 0⟩])
  = (some (AVal.tup [AVal.ro (Cont.rows IntKind.i64 os) q (1 : Nat), AVal.bool true], [])) := by kernel_rfl
theorem round2t (p : Int) (ws xs : List Int) (os : List (List Int)) (q n0 : Nat) (j : Int) (f n n2 : Nat) :
  L2 f n (n2 + 1) (mkS 64 [(1, .int .i64 4), (2, .ptr 0 0 0), (6, .own 1 0 q 0 1), (7, .own 2 0 n0 0 1), (8, .bool true), (9, .int .i64 j)] [⟨.cells [.int .i64 p, .ro (.ints .i64 ws) ws.length 1], 0⟩, ⟨.typ (.rows .i64 os), 0⟩, ⟨.typ (.ints .i64 xs), 0⟩])
  = (bif decide ((0 : Int) ≤ j) then L0 f n (mkS (64 : Nat) [((1 : Nat), AVal.int IntKind.i64 (4 : Int)), ((2 : Nat), AVal.ptr (0 : Nat) (0 : Nat) (0 : Nat)), ((6 : Nat), AVal.own (1 : Nat) (0 : Nat) q (0 : Nat) (1 : Nat)), ((7 : Nat), AVal.own (2 : Nat) (0 : Nat) n0 (0 : Nat) (1 : Nat)), ((8 : Nat), AVal.bool true)] [{ c := BC.cells [AVal.int IntKind.i64 p, AVal.ro (Cont.ints IntKind.i64 ws) ws.length (1 : Nat)], ver := (0 : Nat) }, { c := BC.typ (Cont.rows IntKind.i64 os), ver := (0 : Nat) }, { c := BC.typ (Cont.ints IntKind.i64 xs), ver := (0 : Nat) }]) else L0 f n (mkS (64 : Nat) [((1 : Nat), AVal.int IntKind.i64 (4 : Int)), ((2 : Nat), AVal.ptr (0 : Nat) (0 : Nat) (0 : Nat)), ((6 : Nat), AVal.own (1 : Nat) (0 : Nat) q (0 : Nat) (1 : Nat)), ((7 : Nat), AVal.own (2 : Nat) (0 : Nat) n0 (0 : Nat) (1 : Nat)), ((8 : Nat), AVal.bool true)] [{ c := BC.cells [AVal.int IntKind.i64 p, AVal.ro (Cont.ints IntKind.i64 ws) ws.length (1 : Nat)], ver := (0 : Nat) }, { c := BC.typ (Cont.rows IntKind.i64 os), ver := (0 : Nat) }, { c := BC.typ (Cont.ints IntKind.i64 xs), ver := (0 : Nat) }])) := by kernel_rfl
theorem round2f (p : Int) (ws xs : List Int) (os : List (List Int)) (q n0 : Nat) (j : Int) (f n n2 : Nat) :
  L2 f n (n2 + 1) (mkS 64 [(1, .int .i64 4), (2, .ptr 0 0 0), (6, .own 1 0 q 0 1), (7, .own 2 0 n0 0 1), (8, .bool false), (9, .int .i64 j)] [⟨.cells [.int .i64 p, .ro (.ints .i64 ws) ws.length 1], 0⟩, ⟨.typ (.rows .i64 os), 0⟩, ⟨.typ (.ints .i64 xs), 0⟩])
  = (bif decide ((0 : Int) ≤ j) then bif true && (decide ((0 : Int) ≤ j) && decide (j < (↑n0 : Int))) then bif true && decide (j.toNat < xs.length) then bif true && (decide ((0 : Int) ≤ j) && decide (j < (↑n0 : Int))) then bif true && (true && (decide (j.toNat < xs.length) && true)) then bif true && (decide ((0 : Int) ≤ j) && decide (j < (↑n0 : Int))) then bif true && decide (j.toNat < (xs.set j.toNat (IntKind.i64.wrap (gz xs j.toNat + (1 : Int)))).length) then bif !decide (gz (xs.set j.toNat (IntKind.i64.wrap (gz xs j.toNat + (1 : Int)))) j.toNat ≤ (4 : Int)) then bif true && (decide ((0 : Int) ≤ j) && decide (j < (↑n0 : Int))) then bif true && (true && (decide (j.toNat < (xs.set j.toNat (IntKind.i64.wrap (gz xs j.toNat + (1 : Int)))).length) && true)) then L2 f n n2 (mkS (64 : Nat) [((1 : Nat), AVal.int IntKind.i64 (4 : Int)), ((2 : Nat), AVal.ptr (0 : Nat) (0 : Nat) (0 : Nat)), ((6 : Nat), AVal.own (1 : Nat) (0 : Nat) q (0 : Nat) (1 : Nat)), ((7 : Nat), AVal.own (2 : Nat) (0 : Nat) n0 (0 : Nat) (1 : Nat)), ((8 : Nat), AVal.bool (decide (gz (xs.set j.toNat (IntKind.i64.wrap (gz xs j.toNat + (1 : Int)))) j.toNat ≤ (4 : Int)))), ((9 : Nat), AVal.int IntKind.i64 (IntKind.i64.wrap (j - (1 : Int))))] [{ c := BC.cells [AVal.int IntKind.i64 p, AVal.ro (Cont.ints IntKind.i64 ws) ws.length (1 : Nat)], ver := (0 : Nat) }, { c := BC.typ (Cont.rows IntKind.i64 os), ver := (0 : Nat) }, { c := BC.typ (Cont.ints IntKind.i64 ((xs.set j.toNat (IntKind.i64.wrap (gz xs j.toNat + (1 : Int)))).set j.toNat (0 : Int))), ver := (0 : Nat) }]) else none else none else L2 f n n2 (mkS (64 : Nat) [((1 : Nat), AVal.int IntKind.i64 (4 : Int)), ((2 : Nat), AVal.ptr (0 : Nat) (0 : Nat) (0 : Nat)), ((6 : Nat), AVal.own (1 : Nat) (0 : Nat) q (0 : Nat) (1 : Nat)), ((7 : Nat), AVal.own (2 : Nat) (0 : Nat) n0 (0 : Nat) (1 : Nat)), ((8 : Nat), AVal.bool (decide (gz (xs.set j.toNat (IntKind.i64.wrap (gz xs j.toNat + (1 : Int)))) j.toNat ≤ (4 : Int)))), ((9 : Nat), AVal.int IntKind.i64 (IntKind.i64.wrap (j - (1 : Int))))] [{ c := BC.cells [AVal.int IntKind.i64 p, AVal.ro (Cont.ints IntKind.i64 ws) ws.length (1 : Nat)], ver := (0 : Nat) }, { c := BC.typ (Cont.rows IntKind.i64 os), ver := (0 : Nat) }, { c := BC.typ (Cont.ints IntKind.i64 (xs.set j.toNat (IntKind.i64.wrap (gz xs j.toNat + (1 : Int))))), ver := (0 : Nat) }]) else none else none else none else none else none else none else L0 f n (mkS (64 : Nat) [((1 : Nat), AVal.int IntKind.i64 (4 : Int)), ((2 : Nat), AVal.ptr (0 : Nat) (0 : Nat) (0 : Nat)), ((6 : Nat), AVal.own (1 : Nat) (0 : Nat) q (0 : Nat) (1 : Nat)), ((7 : Nat), AVal.own (2 : Nat) (0 : Nat) n0 (0 : Nat) (1 : Nat)), ((8 : Nat), AVal.bool false)] [{ c := BC.cells [AVal.int IntKind.i64 p, AVal.ro (Cont.ints IntKind.i64 ws) ws.length (1 : Nat)], ver := (0 : Nat) }, { c := BC.typ (Cont.rows IntKind.i64 os), ver := (0 : Nat) }, { c := BC.typ (Cont.ints IntKind.i64 xs), ver := (0 : Nat) }])) := by kernel_rfl
theorem up (p : Nat) (ws : List Int) (os : List (List Int)) (q f n : Nat) (hp : p ≤ 4) (v j n2 : Nat) (hj : j + 1 ≤ p) (h : v % 5 < 4) (hn : 2 ≤ n2) :
    L2 f n n2 (mkS 64 [(1, .int .i64 4), (2, .ptr 0 0 0), (6, .own 1 0 q 0 1), (7, .own 2 0 p 0 1), (8, .bool false), (9, .int .i64 ((j : Nat) : Int))] [⟨.cells [.int .i64 ((p : Nat) : Int), .ro (.ints .i64 ws) ws.length 1], 0⟩, ⟨.typ (.rows .i64 os), 0⟩, ⟨.typ (.ints .i64 (pl.od.sv p (j + 1) v)), 0⟩]) = L0 f n (mkS 64 [(1, .int .i64 4), (2, .ptr 0 0 0), (6, .own 1 0 q 0 1), (7, .own 2 0 p 0 1), (8, .bool true)] [⟨.cells [.int .i64 ((p : Nat) : Int), .ro (.ints .i64 ws) ws.length 1], 0⟩, ⟨.typ (.rows .i64 os), 0⟩, ⟨.typ (.ints .i64 (pl.od.sv p (j + 1) (v + 1))), 0⟩]) := by
  obtain ⟨n2, rfl⟩ : ∃ k, n2 = k + 2 := ⟨n2 - 2, by omega⟩
  have hl := pl.od_length hj v
  have hg := pl.od_gz hj v
  have hu := pl.od_up hj h
  have hm : (v : Int) % 5 = ((v % 5 : Nat) : Int) := by omega
  obtain ⟨x, hx⟩ : ∃ x : Nat, v % 5 = x := ⟨_, rfl⟩
  rw [hx] at hg hu h
  rw [nat_succ] at hu
  have hg2 : gz ((pl.od.sv p (j + 1) v).set j ((x + 1 : Nat) : Int)) j = ((x + 1 : Nat) : Int) := by rw [gz_set (by omega), if_pos rfl]
  have hl2 : ((pl.od.sv p (j + 1) v).set j ((x + 1 : Nat) : Int)).length = p := by rw [List.length_set, hl]
  rw [hu] at hg2 hl2
  rw [round2f]
  simp -implicitDefEqProofs (disch := omega) only [Int.toNat_natCast, hg, hg2, hl, hl2, hu, take_one, set_one, decide_eq_true, decide_eq_false, IntWalk.i64_in, bneT, bneF, nat_succ, ← Int.natCast_mul, ← Int.natCast_add, Int.toNat_natCast, Int.zero_mul, Int.zero_add, Int.add_zero, Nat.zero_add, Nat.add_zero, Nat.zero_mul, List.length_singleton, List.length_append, List.length_nil, List.length_cons, List.take_length, List.drop_zero, List.replicate_zero, List.take_nil, List.nil_append, Nat.reduceBEq, Nat.reduceMul, Nat.reduceLeDiff, eq_self, and_self, true_and, and_true, decide_true, decide_false, Bool.and_self, Bool.or_self, Bool.and_true, Bool.true_and, Bool.and_false, Bool.false_and, Bool.or_true, Bool.true_or, Bool.or_false, Bool.false_or, Bool.not_true, Bool.not_false, cond_true, cond_false]
  rw [round2t]
  cases hd : decide ((0 : Int) ≤ (j : Int) - 1) with
  | true => rfl
  | false => rfl
theorem carry (p : Nat) (ws : List Int) (os : List (List Int)) (q f n : Nat) (hp : p ≤ 4) : ∀ (j v n2 : Nat), j ≤ p → v < 5 ^ j → j + 1 < n2 →
    L2 f n n2 (mkS 64 [(1, .int .i64 4), (2, .ptr 0 0 0), (6, .own 1 0 q 0 1), (7, .own 2 0 p 0 1), (8, .bool false), (9, .int .i64 (((j : Nat) : Int) - 1))] [⟨.cells [.int .i64 ((p : Nat) : Int), .ro (.ints .i64 ws) ws.length 1], 0⟩, ⟨.typ (.rows .i64 os), 0⟩, ⟨.typ (.ints .i64 (pl.od.sv p j v)), 0⟩]) = bif decide (v + 1 < 5 ^ j) then L0 f n (mkS 64 [(1, .int .i64 4), (2, .ptr 0 0 0), (6, .own 1 0 q 0 1), (7, .own 2 0 p 0 1), (8, .bool true)] [⟨.cells [.int .i64 ((p : Nat) : Int), .ro (.ints .i64 ws) ws.length 1], 0⟩, ⟨.typ (.rows .i64 os), 0⟩, ⟨.typ (.ints .i64 (pl.dig.sv p ((v + 1) * 5 ^ (p - j)))), 0⟩]) else L0 f n (mkS 64 [(1, .int .i64 4), (2, .ptr 0 0 0), (6, .own 1 0 q 0 1), (7, .own 2 0 p 0 1), (8, .bool false)] [⟨.cells [.int .i64 ((p : Nat) : Int), .ro (.ints .i64 ws) ws.length 1], 0⟩, ⟨.typ (.rows .i64 os), 0⟩, ⟨.typ (.ints .i64 (List.replicate p 0)), 0⟩]) := by
  intro j
  induction j with
  | zero =>
    intro v n2 hj hv hn
    obtain ⟨n2, rfl⟩ : ∃ k, n2 = k + 1 := ⟨n2 - 1, by omega⟩
    rw [Nat.pow_zero] at hv
    obtain rfl : v = 0 := by omega
    have c : ¬ ((0 : Int) ≤ ((0 : Nat) : Int) - 1) := by omega
    have e : pl.od.sv p 0 0 = List.replicate p 0 := by rw [pl.od.sv, pl.dig.sv, List.nil_append, Nat.sub_zero]
    rw [round2f, e]
    simp -implicitDefEqProofs only [decide_eq_false c, cond_false, Nat.pow_zero, decide_eq_false (show ¬ (0 + 1 < 1) by omega)]
  | succ j ih =>
    intro v n2 hj hv hn
    have hjj : (((j + 1 : Nat) : Int) - 1) = (j : Int) := by omega
    rw [hjj]
    have p5 : 5 ^ (j + 1) = 5 * 5 ^ j := by rw [Nat.pow_succ, Nat.mul_comm]
    by_cases h : v % 5 < 4
    · have c : v + 1 < 5 ^ (j + 1) := by omega
      have e : pl.dig.sv p ((v + 1) * 5 ^ (p - (j + 1))) = pl.od.sv p (j + 1) (v + 1) := by
        have := pl.dig_pad (v := v + 1) (p - (j + 1)) (j + 1)
        rwa [show j + 1 + (p - (j + 1)) = p by omega] at this
      rw [decide_eq_true c, cond_true, e]
      exact up p ws os q f n hp v j n2 hj h (by omega)
    · obtain ⟨n2, rfl⟩ : ∃ k, n2 = k + 1 := ⟨n2 - 1, by omega⟩
      have hx : v % 5 = 4 := by omega
      have g := ih (v / 5) n2 (by omega) (by omega) (by omega)
      have c : decide (v / 5 + 1 < 5 ^ j) = decide (v + 1 < 5 ^ (j + 1)) := by
        rcases Decidable.em (v + 1 < 5 ^ (j + 1)) with c | c
        · rw [decide_eq_true c, decide_eq_true (by omega)]
        · rw [decide_eq_false c, decide_eq_false (by omega)]
      have e : (v / 5 + 1) * 5 ^ (p - j) = (v + 1) * 5 ^ (p - (j + 1)) := by
        rw [show p - j = (p - (j + 1)) + 1 by omega, Nat.pow_succ, Nat.mul_comm (5 ^ _) 5, ← Nat.mul_assoc]
        congr 1; omega
      rw [c, e] at g
      have hl := pl.od_length hj v
      have hg := pl.od_gz hj v
      have hu := pl.od_carry hj v
      rw [hx] at hg
      have hg : gz (pl.od.sv p (j + 1) v) j = 4 := hg
      have hg2 : gz ((pl.od.sv p (j + 1) v).set j 5) j = 5 := by rw [gz_set (by omega), if_pos rfl]
      have hl2 : ((pl.od.sv p (j + 1) v).set j 5).length = p := by rw [List.length_set, hl]
      have hss : ((pl.od.sv p (j + 1) v).set j 5).set j 0 = (pl.od.sv p (j + 1) v).set j 0 := List.set_set ..
      have w5 : IntKind.i64.wrap ((4 : Int) + 1) = 5 := IntWalk.i64_in _ (by omega)
      rw [round2f]
      simp -implicitDefEqProofs (disch := omega) only [Int.toNat_natCast, hg, w5, hg2, hl, hl2, hss, hu, take_one, set_one, decide_eq_true, decide_eq_false, IntWalk.i64_in, bneT, bneF, nat_succ, ← Int.natCast_mul, ← Int.natCast_add, Int.toNat_natCast, Int.zero_mul, Int.zero_add, Int.add_zero, Nat.zero_add, Nat.add_zero, Nat.zero_mul, List.length_singleton, List.length_append, List.length_nil, List.length_cons, List.take_length, List.drop_zero, List.replicate_zero, List.take_nil, List.nil_append, Nat.reduceBEq, Nat.reduceMul, Nat.reduceLeDiff, eq_self, and_self, true_and, and_true, decide_true, decide_false, Bool.and_self, Bool.or_self, Bool.and_true, Bool.true_and, Bool.and_false, Bool.false_and, Bool.or_true, Bool.true_or, Bool.or_false, Bool.false_or, Bool.not_true, Bool.not_false, cond_true, cond_false]
      exact g
theorem step (p : Nat) (ws : List Int) (f n t : Nat) (hp : 1 ≤ p ∧ p ≤ 4) (hw : wo.sp (p : Int) ws = true) (ht : t < 5 ^ p) (hf : 10 ≤ f) :
    L0 f (n + 1) (mkS 64 [(1, .int .i64 4), (2, .ptr 0 0 0), (6, .own 1 0 (pl.go.sv ws p 0 (t)).length 0 1), (7, .own 2 0 p 0 1), (8, .bool true)] [⟨.cells [.int .i64 ((p : Nat) : Int), .ro (.ints .i64 ws) ws.length 1], 0⟩, ⟨.typ (.rows .i64 (pl.go.sv ws p 0 (t))), 0⟩, ⟨.typ (.ints .i64 (pl.dig.sv p (t))), 0⟩]) = bif decide (t + 1 < 5 ^ p) then L0 f n (mkS 64 [(1, .int .i64 4), (2, .ptr 0 0 0), (6, .own 1 0 (pl.go.sv ws p 0 (t + 1)).length 0 1), (7, .own 2 0 p 0 1), (8, .bool true)] [⟨.cells [.int .i64 ((p : Nat) : Int), .ro (.ints .i64 ws) ws.length 1], 0⟩, ⟨.typ (.rows .i64 (pl.go.sv ws p 0 (t + 1))), 0⟩, ⟨.typ (.ints .i64 (pl.dig.sv p (t + 1))), 0⟩]) else L0 f n (mkS 64 [(1, .int .i64 4), (2, .ptr 0 0 0), (6, .own 1 0 (pl.go.sv ws p 0 (t + 1)).length 0 1), (7, .own 2 0 p 0 1), (8, .bool false)] [⟨.cells [.int .i64 ((p : Nat) : Int), .ro (.ints .i64 ws) ws.length 1], 0⟩, ⟨.typ (.rows .i64 (pl.go.sv ws p 0 (t + 1))), 0⟩, ⟨.typ (.ints .i64 (List.replicate p 0)), 0⟩]) := by
  have hq := pl.go_length ws p 0 t
  have h625 := pl.pow625 hp.2
  have hl := pl.dig_length p t
  have ho : pl.ok.sp p (pl.dig.sv p t) = true := pl.ok_spec.2 ⟨hl, pl.dig_in p t⟩
  have hr := pl.ok_rng ho
  have g := fun os q => carry p ws os q f n hp.2 p t f (Nat.le_refl _) ht (by omega)
  simp only [Nat.sub_self, Nat.pow_zero, Nat.mul_one, pl.od_full] at g
  have e0 : 0 + t = t := Nat.zero_add t
  have hgo : pl.go.sv ws p 0 (t + 1) = bif co.core.sp ws (pl.dig.sv p t) 1 p then pl.go.sv ws p 0 t ++ [pl.dig.sv p t] else pl.go.sv ws p 0 t := by rw [pl.go.sv, e0]
  have hp1 : ((p : Nat) : Int) = (p : Int) := rfl
  have t1 : List.take p (pl.dig.sv p t) = pl.dig.sv p t := List.take_of_length_le (by omega)
  have t2 : List.take (pl.go.sv ws p 0 t).length (pl.go.sv ws p 0 t) = pl.go.sv ws p 0 t := List.take_length
  have e1 : (List.take 1 (List.drop 0 ((List.replicate 1 ([] : List Int)).set 0 (pl.dig.sv p t)))) = [pl.dig.sv p t] := rfl
  have t3 : List.take (0 + p) (List.take 0 (List.replicate 0 (0 : Int)) ++ pl.dig.sv p t) = pl.dig.sv p t := by
    rw [List.take_zero, List.nil_append, Nat.zero_add, t1]
  have d0 : List.drop 0 (pl.dig.sv p t) = pl.dig.sv p t := List.drop_zero
  rw [round0t, hgo, d0, t1, hl, t3, e1, t2]
  cases hc : co.core.sp ws (pl.dig.sv p t) 1 p with
  | false =>
    simp -implicitDefEqProofs (disch := omega) only [hc, hw, hr, hl, Int.toNat_natCast, take_one, set_one, decide_eq_true, decide_eq_false, IntWalk.i64_in, beqT, beqF, bneT, bneF, nat_succ, ← Int.natCast_mul, ← Int.natCast_add, Int.toNat_natCast, Int.zero_mul, Int.zero_add, Int.add_zero, Nat.zero_add, Nat.add_zero, Nat.zero_mul, List.length_singleton, List.length_append, List.length_nil, List.length_cons, List.take_length, List.drop_zero, List.replicate_zero, List.take_nil, List.nil_append, Nat.reduceBEq, Nat.reduceMul, Nat.reduceLeDiff, eq_self, and_self, true_and, and_true, decide_true, decide_false, Bool.and_self, Bool.or_self, Bool.and_true, Bool.true_and, Bool.and_false, Bool.false_and, Bool.or_true, Bool.true_or, Bool.or_false, Bool.false_or, Bool.not_true, Bool.not_false, cond_true, cond_false]
    exact g _ _
  | true =>
    simp -implicitDefEqProofs (disch := omega) only [hc, hw, hr, hl, Int.toNat_natCast, List.length_singleton, ← List.length_append, take_one, set_one, decide_eq_true, decide_eq_false, IntWalk.i64_in, beqT, beqF, bneT, bneF, nat_succ, ← Int.natCast_mul, ← Int.natCast_add, Int.toNat_natCast, Int.zero_mul, Int.zero_add, Int.add_zero, Nat.zero_add, Nat.add_zero, Nat.zero_mul, List.length_singleton, List.length_append, List.length_nil, List.length_cons, List.take_length, List.drop_zero, List.replicate_zero, List.take_nil, List.nil_append, Nat.reduceBEq, Nat.reduceMul, Nat.reduceLeDiff, eq_self, and_self, true_and, and_true, decide_true, decide_false, Bool.and_self, Bool.or_self, Bool.and_true, Bool.true_and, Bool.and_false, Bool.false_and, Bool.or_true, Bool.true_or, Bool.or_false, Bool.false_or, Bool.not_true, Bool.not_false, cond_true, cond_false]
    exact g _ _
theorem loop0 (p : Nat) (ws : List Int) (f : Nat) (hp : 1 ≤ p ∧ p ≤ 4) (hw : wo.sp (p : Int) ws = true) (hf : 10 ≤ f) : ∀ (d t n : Nat), t + d + 1 = 5 ^ p → d + 1 < n →
    L0 f n (mkS 64 [(1, .int .i64 4), (2, .ptr 0 0 0), (6, .own 1 0 (pl.go.sv ws p 0 (t)).length 0 1), (7, .own 2 0 p 0 1), (8, .bool true)] [⟨.cells [.int .i64 ((p : Nat) : Int), .ro (.ints .i64 ws) ws.length 1], 0⟩, ⟨.typ (.rows .i64 (pl.go.sv ws p 0 (t))), 0⟩, ⟨.typ (.ints .i64 (pl.dig.sv p (t))), 0⟩]) = some (.tup [.ro (.rows .i64 (pl.all.sv ws p)) (pl.all.sv ws p).length 1, .bool true], []) := by
  intro d
  induction d with
  | zero =>
    intro t n ht hn
    obtain ⟨n, rfl⟩ : ∃ k, n = k + 1 := ⟨n - 1, by omega⟩
    obtain ⟨n, rfl⟩ : ∃ k, n = k + 1 := ⟨n - 1, by omega⟩
    rw [step p ws f (n + 1) t hp hw (by omega) hf, decide_eq_false (by omega), cond_false, round0f]
    rw [show t + 1 = 5 ^ p by omega]; rfl
  | succ d ih =>
    intro t n ht hn
    obtain ⟨n, rfl⟩ : ∃ k, n = k + 1 := ⟨n - 1, by omega⟩
    rw [step p ws f n t hp hw (by omega) hf, decide_eq_true (by omega), cond_true]
    exact ih (t + 1) n (by omega) (by omega)
theorem run : ∀ args v new, R args = some (true, v, new) → ∃ fuel, runFn Try.prog (orc [⟨59, l03Is.R⟩, ⟨77, l00In.R⟩, ⟨78, l03Core.R⟩]) hd dr (some 0) fuel (bodyOf Try.f24) 64 [4, 5] args [] = some (v, new) := by
  intro args v new h
  unfold R at h
  split at h
  · rename_i p ws m mo
    simp only [Option.some.injEq, Prod.mk.injEq, Bool.and_eq_true, decide_eq_true_eq] at h
    obtain ⟨⟨⟨rfl, rfl, h1, h2⟩, hs⟩, rfl, rfl⟩ := h
    obtain ⟨p, rfl, hp, hw, h0, v⟩ := wo.valid hs
    obtain ⟨F, hF⟩ : ∃ F : Nat, F = 2000 := ⟨2000, rfl⟩
    refine ⟨F, ?_⟩
    have h625 := pl.pow625 (p := p) (by omega)
    have h5p : 1 ≤ 5 ^ p := Nat.one_le_pow _ _ (by decide)
    have g := loop0 p ws F ⟨by omega, by omega⟩ hs (by omega) (5 ^ p - 1) 0 F (by omega) (by omega)
    rw [pl.dig_zero] at g
    rw [start]
    simp -implicitDefEqProofs (disch := omega) only [hs, Int.toNat_natCast, take_one, set_one, decide_eq_true, decide_eq_false, IntWalk.i64_in, beqT, beqF, bneT, bneF, nat_succ, ← Int.natCast_mul, ← Int.natCast_add, Int.toNat_natCast, Int.zero_mul, Int.zero_add, Int.add_zero, Nat.zero_add, Nat.add_zero, Nat.zero_mul, List.length_singleton, List.length_append, List.length_nil, List.length_cons, List.take_length, List.drop_zero, List.replicate_zero, List.take_nil, List.nil_append, Nat.reduceBEq, Nat.reduceMul, Nat.reduceLeDiff, eq_self, and_self, true_and, and_true, decide_true, decide_false, Bool.and_self, Bool.or_self, Bool.and_true, Bool.true_and, Bool.and_false, Bool.false_and, Bool.or_true, Bool.true_or, Bool.or_false, Bool.false_or, Bool.not_true, Bool.not_false, cond_true, cond_false]
    exact g
  · cases h
theorem ok : EntOk Try.prog ⟨24, R⟩ :=
  ent_okA mixed (A := (orc [⟨59, l03Is.R⟩, ⟨77, l00In.R⟩, ⟨78, l03Core.R⟩])) (orc_ok (by simp only [List.mem_cons, List.not_mem_nil, or_false, forall_eq_or_imp, forall_eq]; exact ⟨l03Is.ok, l00In.ok, l03Core.ok⟩)) Try.func24 (by kernel_rfl) (by kernel_rfl) (n := 64) (ts := [4, 5]) (hd := hd) (dr := dr) (cut := (some 0)) (by kernel_rfl) (by kernel_rfl) (by kernel_rfl) run
end sCorePlans

end Go.Proofs.Ytekadpddilfolaa.Ab
