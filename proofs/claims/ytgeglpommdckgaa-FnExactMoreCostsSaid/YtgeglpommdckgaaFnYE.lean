/-
  Functions: crowds with more costs.
-/
import Derived.Test.YtgeglpommdckgaaFnYC
import Derived.Test.YtgeglpommdckgaaFnB
namespace Go.Proofs.Ytgeglpommdckgaa.Ab
open Go
set_option linter.unusedVariables false
set_option linter.unusedSimpArgs false
set_option maxRecDepth 100000

namespace mo
def ok.sp (r : Int) (bs : List Int) : Bool := decide ((bs.length : Int) = r) && bs.all fun x => decide (-100000 ≤ x) && decide (x ≤ 100000)
/-- What a road costs, with what is added. -/
def sv (u : Int) (cs bs : List Int) (j m : Int) : Int := pot.cost.sv u cs j m + gz bs j.toNat
def f (u : Int) (cs bs : List Int) (j k : Nat) : Int := mo.sv u cs bs j ((k + 1 : Nat) : Int)
def t.sv (u r : Int) (cs bs : List Int) : List Int := ct.tab (mo.f u cs bs) u.toNat r.toNat
def sp (u r : Int) (ws cs bs : List Int) : Bool := crowd.sp u r ws cs && crowd.sp u r ws (mo.t.sv u r cs bs)
def all.sp (u r : Int) (ws cs bs : List Int) : Bool := mo.ok.sp r bs && mo.sp u r ws cs bs
theorem at_le {r : Int} {bs : List Int} (h : mo.ok.sp r bs = true) {j : Int} (h0 : 0 ≤ j) (h1 : j < r) : j.toNat < bs.length ∧ -100000 ≤ gz bs j.toNat ∧ gz bs j.toNat ≤ 100000 := by
  simp only [mo.ok.sp, Bool.and_eq_true, decide_eq_true_eq, List.all_eq_true] at h
  have hj : j.toNat < bs.length := by omega
  rw [gz_eq hj]
  exact ⟨hj, h.2 _ (List.getElem_mem hj)⟩
theorem bnd {cs : List Int} (vc : ∀ x ∈ cs, -100000 ≤ x ∧ x ≤ 100000) (u j m : Int) : -100000 ≤ pot.cost.sv u cs j m ∧ pot.cost.sv u cs j m ≤ 100000 := by
  unfold pot.cost.sv
  by_cases hh : (j * u + m - 1).toNat < cs.length
  · rw [gz_eq hh]; exact vc _ (List.getElem_mem _)
  · have : gz cs (j * u + m - 1).toNat = 0 := by unfold gz; rw [List.getD_eq_getElem?_getD, List.getElem?_eq_none (by omega)]; rfl
    omega
end mo

namespace more1
def dr : Nat → Dr := fun i => bif eqN i 1 then ⟨some [0, 1, 2, 4, 5, 6, 7, 3, 8, 9], false⟩ else ⟨none, false⟩
def R : List AVal → Option (Bool × AVal × List Blk)
  | [.int .i64 j, .int .i64 m, .rom [.int .i64 u, .int .i64 r, .ro (.ints .i64 ws) mw 1, .ro (.ints .i64 cs) mc 1] 0, .rom [.ro (.ints .i64 bs) bl 1] 0] => some (decide (mw = ws.length ∧ mc = cs.length ∧ bl = bs.length ∧ 0 ≤ j ∧ j < r ∧ 1 ≤ m ∧ m ≤ u) && mo.ok.sp r bs && crowd.sp u r ws cs, .int .i64 (mo.sv u cs bs j m), [])
  | _ => none
theorem go (u r : Int) (ws cs : List Int) (bs : List Int) (j m : Int) :
  runFn Try.prog (orc [⟨44, iCost.R⟩]) hd0 dr none 0 (bodyOf Try.f47) 16 [6] [.int .i64 j, .int .i64 m, .rom [.int .i64 u, .int .i64 r, .ro (.ints .i64 ws) ws.length 1, .ro (.ints .i64 cs) cs.length 1] 0, .rom [.ro (.ints .i64 bs) bs.length 1] 0] []
  = (bif true && (decide ((0 : Int) ≤ j) && decide (j < (↑bs.length : Int))) then bif decide (j.toNat < bs.length) then bif decide (cs.length ≤ cs.length ∧ (0 : Int) ≤ j * u ∧ j * u ≤ (64 : Int) ∧ (1 : Int) ≤ m ∧ m ≤ (64 : Int) ∧ j * u + m - (1 : Int) < (↑cs.length : Int)) && (true && (true && (true && (true && true))) && (true && (true && true)) || true && true) then some (AVal.int IntKind.i64 (IntKind.i64.wrap (pot.cost.sv u cs j m + gz bs j.toNat)), []) else none else none else none) := by kernel_rfl
theorem run : ∀ args v new, R args = some (true, v, new) → ∃ fuel, runFn Try.prog (orc [⟨44, iCost.R⟩]) hd0 dr none fuel (bodyOf Try.f47) 16 [6] args [] = some (v, new) := by
  intro args v new h
  unfold R at h
  split at h
  · rename_i j m u r ws mw cs mc bs bl
    simp only [Option.some.injEq, Prod.mk.injEq, Bool.and_eq_true, decide_eq_true_eq] at h
    obtain ⟨⟨⟨⟨rfl, rfl, rfl, q1, q2, q3, q4⟩, hb⟩, hv⟩, rfl, rfl⟩ := h
    obtain ⟨u, r, rfl, rfl, hu, hr, hw, hl, vc⟩ := ct.valid hv
    have hm : ((cs.length : Nat) : Int) = (u : Int) * (r : Int) := by rw [hl, Int.natCast_mul, Int.mul_comm]
    obtain ⟨p1, p2, p3⟩ := pot.ix (j := j) (k := m) (u := (u : Int)) (r := (r : Int)) (mc := cs.length) (by omega) (by omega) hm ⟨q1, q2⟩ ⟨q3, q4⟩
    have b1 := mo.bnd vc (u : Int) j m
    obtain ⟨b0, b2⟩ := mo.at_le hb q1 q2
    have w1 : IntKind.i64.wrap (pot.cost.sv (u : Int) cs j m + gz bs j.toNat) = mo.sv (u : Int) cs bs j m := IntWalk.i64_in _ (by omega)
    have p4 : m ≤ 64 := by omega
    have p5 : j < (bs.length : Int) := by omega
    refine ⟨0, ?_⟩
    rw [go]
    simp -implicitDefEqProofs only [w1, p1, p2, p3, p4, p5, b0, q1, q3, Nat.le_refl, and_self, eq_self, decide_true, decide_false, Bool.and_self, Bool.or_self, Bool.and_true, Bool.true_and, Bool.and_false, Bool.false_and, Bool.or_true, Bool.true_or, Bool.or_false, Bool.false_or, Bool.not_true, Bool.not_false, cond_true, cond_false]
  · cases h
theorem ok : EntOk Try.prog ⟨47, R⟩ :=
  ent_okA mixed (A := (orc [⟨44, iCost.R⟩])) (orc_ok (by simp only [List.mem_cons, List.not_mem_nil, or_false, forall_eq_or_imp, forall_eq]; exact iCost.ok)) Try.func47 (by kernel_rfl) (by kernel_rfl) (n := 16) (ts := [6]) (hd := hd0) (dr := dr) (cut := none) (by kernel_rfl) (by kernel_rfl) (by kernel_rfl) run
end more1

namespace turnedMore_t
def dr : Nat → Dr := fun i => bif eqN i 3 then ⟨some [999, 0, 1, 2, 3, 4, 5, 6, 7, 8, 9], false⟩ else ⟨none, false⟩
def hd : Nat → Head := fun i => bif eqN i 2 then ⟨[1, 2, 4, 6, 7, 22, 23, 27, 28], some 6⟩ else ⟨[1, 2, 4, 6, 22, 23], some 6⟩
noncomputable def L1 (f n : Nat) (s : State) := loopAt Try.prog (orc [⟨51, iValidCrowd.R⟩, ⟨55, slClone.R⟩, ⟨47, more1.R⟩]) hd dr 0 f (bodyOf Try.f42) 0 [true, true, true, false, true] (retK Try.prog [.cell 4 26, .tmp 5] 0 none) n s
noncomputable def L2 (f n n2 : Nat) (s : State) := loopAt Try.prog (orc [⟨51, iValidCrowd.R⟩, ⟨55, slClone.R⟩, ⟨47, more1.R⟩]) hd dr 0 f (bodyAt (bodyOf Try.f42) [true, true, true, false, true]) (curAt (bodyOf Try.f42) 0 [true, true, true, false, true]) [true, true, false, true, true] (iterK (normE 0 (hd (curAt (bodyOf Try.f42) 0 [true, true, true, false, true]))) (L1 f n) (contAt Try.prog (orc [⟨51, iValidCrowd.R⟩, ⟨55, slClone.R⟩, ⟨47, more1.R⟩]) hd dr 0 f (bodyOf Try.f42) 0 [true, true, true, false, true] (retK Try.prog [.cell 4 26, .tmp 5] 0 none))) n2 s
theorem start (u r : Int) (ws cs : List Int) (bs : List Int) (f : Nat) :
  runFn Try.prog (orc [⟨51, iValidCrowd.R⟩, ⟨55, slClone.R⟩, ⟨47, more1.R⟩]) hd dr none f (bodyOf Try.f42) 48 [.cell 4 26, .tmp 5] [.agg [.int .i64 u, .int .i64 r, .ro (.ints .i64 ws) ws.length 1, .ro (.ints .i64 cs) cs.length 1], .fn 47 [.rom [.int .i64 u, .int .i64 r, .ro (.ints .i64 ws) ws.length 1, .ro (.ints .i64 cs) cs.length 1] 0, .rom [.ro (.ints .i64 bs) bs.length 1] 0]] []
  = (bif true && true && (true && true && (true && true && (true && true && true))) then bif decide (ws.length ≤ ws.length ∧ ws.length ≤ (4611686018427387904 : Nat) ∧ cs.length ≤ cs.length ∧ cs.length ≤ (4611686018427387904 : Nat)) && (true && (true && (true && (true && true))) && true || true && true) then bif !crowd.sp u r (List.take ws.length ws) (List.take cs.length cs) then some (AVal.tup [AVal.agg [AVal.int IntKind.i64 (0 : Int), AVal.int IntKind.i64 (0 : Int), AVal.nils, AVal.nils], AVal.bool false], [{ c := BC.cells [AVal.int IntKind.i64 u, AVal.int IntKind.i64 r, AVal.ro (Cont.ints IntKind.i64 ws) ws.length (1 : Nat), AVal.ro (Cont.ints IntKind.i64 cs) cs.length (1 : Nat)], ver := (0 : Nat) }, { c := BC.cells [AVal.int IntKind.i64 (0 : Int), AVal.int IntKind.i64 (0 : Int), AVal.nils, AVal.nils], ver := (0 : Nat) }]) else bif true && true then bif true && true then bif true && true then bif decide ((0 : Nat) < ws.length ∧ ws.length ≤ ws.length ∧ ws.length ≤ (1048576 : Nat)) && (true && true || true && (true && true)) then bif true && (true && (true && (true && (true && (true && true))))) then bif true && true then L1 f f (mkS (48 : Nat) [((1 : Nat), AVal.fn (47 : Nat) [AVal.rom [AVal.int IntKind.i64 u, AVal.int IntKind.i64 r, AVal.ro (Cont.ints IntKind.i64 ws) ws.length (1 : Nat), AVal.ro (Cont.ints IntKind.i64 cs) cs.length (1 : Nat)] (0 : Nat), AVal.rom [AVal.ro (Cont.ints IntKind.i64 bs) bs.length (1 : Nat)] (0 : Nat)]), ((2 : Nat), AVal.ptr (0 : Nat) (0 : Nat) (0 : Nat)), ((4 : Nat), AVal.ptr (1 : Nat) (0 : Nat) (0 : Nat)), ((6 : Nat), AVal.ptr ((1 : Nat) + (1 : Nat) + (1 : Nat)) (0 : Nat) (0 : Nat)), ((22 : Nat), AVal.int IntKind.i64 r), ((23 : Nat), AVal.int IntKind.i64 (0 : Int))] [{ c := BC.cells [AVal.int IntKind.i64 u, AVal.int IntKind.i64 r, AVal.ro (Cont.ints IntKind.i64 ws) ws.length (1 : Nat), AVal.ro (Cont.ints IntKind.i64 cs) cs.length (1 : Nat)], ver := (0 : Nat) }, { c := BC.cells [AVal.int IntKind.i64 (0 : Int), AVal.int IntKind.i64 (0 : Int), AVal.nils, AVal.nils], ver := (0 : Nat) }, { c := BC.typ (Cont.ints IntKind.i64 (List.take ws.length ws)), ver := (0 : Nat) }, { c := BC.cells [AVal.int IntKind.i64 u, AVal.int IntKind.i64 r, AVal.own (2 : Nat) (0 : Nat) ws.length (0 : Nat) (1 : Nat), AVal.nils], ver := (0 : Nat) }]) else none else none else none else none else none else none else none else none) := by kernel_rfl
theorem round1z (u r : Nat) (ws cs : List Int) (bs : List Int) (vs : List Int) (wl j : Nat) (f n : Nat) :
  L1 f (n + 1) (mkS 48 [(1, .fn 47 [.rom [.int .i64 u, .int .i64 r, .ro (.ints .i64 ws) ws.length 1, .ro (.ints .i64 cs) cs.length 1] 0, .rom [.ro (.ints .i64 bs) bs.length 1] 0]), (2, .ptr 0 0 0), (4, .ptr 1 0 0), (6, .ptr 3 0 0), (22, .int .i64 r), (23, .int .i64 j)] [⟨.cells [.int .i64 u, .int .i64 r, .ro (.ints .i64 ws) ws.length 1, .ro (.ints .i64 cs) cs.length 1], 0⟩, ⟨.cells [.int .i64 0, .int .i64 0, .nils, .nils], 0⟩, ⟨.typ (.ints .i64 vs), 0⟩, ⟨.cells [.int .i64 u, .int .i64 r, .own 2 0 wl 0 1, .nils], 0⟩])
  = (bif decide ((↑j : Int) < (↑r : Int)) then bif true && true then L2 f n f (mkS (48 : Nat) [((1 : Nat), AVal.fn (47 : Nat) [AVal.rom [AVal.int IntKind.i64 (↑u : Int), AVal.int IntKind.i64 (↑r : Int), AVal.ro (Cont.ints IntKind.i64 ws) ws.length (1 : Nat), AVal.ro (Cont.ints IntKind.i64 cs) cs.length (1 : Nat)] (0 : Nat), AVal.rom [AVal.ro (Cont.ints IntKind.i64 bs) bs.length (1 : Nat)] (0 : Nat)]), ((2 : Nat), AVal.ptr (0 : Nat) (0 : Nat) (0 : Nat)), ((4 : Nat), AVal.ptr (1 : Nat) (0 : Nat) (0 : Nat)), ((6 : Nat), AVal.ptr (3 : Nat) (0 : Nat) (0 : Nat)), ((7 : Nat), AVal.int IntKind.i64 (↑j : Int)), ((22 : Nat), AVal.int IntKind.i64 (↑r : Int)), ((23 : Nat), AVal.int IntKind.i64 (↑j : Int)), ((27 : Nat), AVal.int IntKind.i64 (↑u : Int)), ((28 : Nat), AVal.int IntKind.i64 (0 : Int))] [{ c := BC.cells [AVal.int IntKind.i64 (↑u : Int), AVal.int IntKind.i64 (↑r : Int), AVal.ro (Cont.ints IntKind.i64 ws) ws.length (1 : Nat), AVal.ro (Cont.ints IntKind.i64 cs) cs.length (1 : Nat)], ver := (0 : Nat) }, { c := BC.cells [AVal.int IntKind.i64 (0 : Int), AVal.int IntKind.i64 (0 : Int), AVal.nils, AVal.nils], ver := (0 : Nat) }, { c := BC.typ (Cont.ints IntKind.i64 vs), ver := (0 : Nat) }, { c := BC.cells [AVal.int IntKind.i64 (↑u : Int), AVal.int IntKind.i64 (↑r : Int), AVal.own (2 : Nat) (0 : Nat) wl (0 : Nat) (1 : Nat), AVal.nils], ver := (0 : Nat) }]) else none else bif true && true && (true && true && (true && true && (true && true && true))) then none else none) := by kernel_rfl
theorem round2z (u r : Nat) (ws cs : List Int) (bs : List Int) (vs : List Int) (wl j k : Nat) (f n n2 : Nat) :
  L2 f n (n2 + 1) (mkS 48 [(1, .fn 47 [.rom [.int .i64 u, .int .i64 r, .ro (.ints .i64 ws) ws.length 1, .ro (.ints .i64 cs) cs.length 1] 0, .rom [.ro (.ints .i64 bs) bs.length 1] 0]), (2, .ptr 0 0 0), (4, .ptr 1 0 0), (6, .ptr 3 0 0), (7, .int .i64 j), (22, .int .i64 r), (23, .int .i64 j), (27, .int .i64 u), (28, .int .i64 k)] [⟨.cells [.int .i64 u, .int .i64 r, .ro (.ints .i64 ws) ws.length 1, .ro (.ints .i64 cs) cs.length 1], 0⟩, ⟨.cells [.int .i64 0, .int .i64 0, .nils, .nils], 0⟩, ⟨.typ (.ints .i64 vs), 0⟩, ⟨.cells [.int .i64 u, .int .i64 r, .own 2 0 wl 0 1, .nils], 0⟩])
  = (bif decide ((↑k : Int) < (↑u : Int)) then bif true && true then bif decide (ws.length = ws.length ∧ cs.length = cs.length ∧ bs.length = bs.length ∧ (0 : Int) ≤ (↑j : Int) ∧ (↑j : Int) < (↑r : Int) ∧ (1 : Int) ≤ IntKind.i64.wrap ((↑k : Int) + (1 : Int)) ∧ IntKind.i64.wrap ((↑k : Int) + (1 : Int)) ≤ (↑u : Int)) && mo.ok.sp (↑r : Int) bs && crowd.sp (↑u : Int) (↑r : Int) ws cs && (true && (true && (true && (true && (true && (true && true))) && (true && true && true))) || true && true) then bif (1 : Nat) == (1 : Nat) && (1 : Nat) == (1 : Nat) && (true && true && (decide ((0 : Nat) < (List.take (1 : Nat) (List.drop (0 : Nat) ((List.replicate (1 : Nat) (0 : Int)).set (0 : Nat) (mo.sv (↑u : Int) cs bs (↑j : Int) (IntKind.i64.wrap ((↑k : Int) + (1 : Int))))))).length) && (decide ((List.take (1 : Nat) (List.drop (0 : Nat) ((List.replicate (1 : Nat) (0 : Int)).set (0 : Nat) (mo.sv (↑u : Int) cs bs (↑j : Int) (IntKind.i64.wrap ((↑k : Int) + (1 : Int))))))).length ≤ (4611686018427387904 : Nat)) && decide ((List.take (1 : Nat) (List.drop (0 : Nat) ((List.replicate (1 : Nat) (0 : Int)).set (0 : Nat) (mo.sv (↑u : Int) cs bs (↑j : Int) (IntKind.i64.wrap ((↑k : Int) + (1 : Int))))))).length * (8 : Nat) ≤ (140737488355328 : Nat))))) then bif true && (true && (true && true)) then L2 f n n2 (mkS (48 : Nat) [((1 : Nat), AVal.fn (47 : Nat) [AVal.rom [AVal.int IntKind.i64 (↑u : Int), AVal.int IntKind.i64 (↑r : Int), AVal.ro (Cont.ints IntKind.i64 ws) ws.length (1 : Nat), AVal.ro (Cont.ints IntKind.i64 cs) cs.length (1 : Nat)] (0 : Nat), AVal.rom [AVal.ro (Cont.ints IntKind.i64 bs) bs.length (1 : Nat)] (0 : Nat)]), ((2 : Nat), AVal.ptr (0 : Nat) (0 : Nat) (0 : Nat)), ((4 : Nat), AVal.ptr (1 : Nat) (0 : Nat) (0 : Nat)), ((6 : Nat), AVal.ptr (3 : Nat) (0 : Nat) (0 : Nat)), ((7 : Nat), AVal.int IntKind.i64 (↑j : Int)), ((22 : Nat), AVal.int IntKind.i64 (↑r : Int)), ((23 : Nat), AVal.int IntKind.i64 (↑j : Int)), ((27 : Nat), AVal.int IntKind.i64 (↑u : Int)), ((28 : Nat), AVal.int IntKind.i64 (IntKind.i64.wrap ((↑k : Int) + (1 : Int))))] [{ c := BC.cells [AVal.int IntKind.i64 (↑u : Int), AVal.int IntKind.i64 (↑r : Int), AVal.ro (Cont.ints IntKind.i64 ws) ws.length (1 : Nat), AVal.ro (Cont.ints IntKind.i64 cs) cs.length (1 : Nat)], ver := (0 : Nat) }, { c := BC.cells [AVal.int IntKind.i64 (0 : Int), AVal.int IntKind.i64 (0 : Int), AVal.nils, AVal.nils], ver := (0 : Nat) }, { c := BC.typ (Cont.ints IntKind.i64 vs), ver := (0 : Nat) }, { c := BC.cells [AVal.int IntKind.i64 (↑u : Int), AVal.int IntKind.i64 (↑r : Int), AVal.own (2 : Nat) (0 : Nat) wl (0 : Nat) (1 : Nat), AVal.own ((1 : Nat) + (1 : Nat) + (1 : Nat) + (1 : Nat) + (1 : Nat)) (0 : Nat) (List.take (1 : Nat) (List.drop (0 : Nat) ((List.replicate (1 : Nat) (0 : Int)).set (0 : Nat) (mo.sv (↑u : Int) cs bs (↑j : Int) (IntKind.i64.wrap ((↑k : Int) + (1 : Int))))))).length (0 : Nat) (1 : Nat)], ver := (0 : Nat) }, { c := BC.typ (Cont.ints IntKind.i64 ((List.replicate (1 : Nat) (0 : Int)).set (0 : Nat) (mo.sv (↑u : Int) cs bs (↑j : Int) (IntKind.i64.wrap ((↑k : Int) + (1 : Int)))))), ver := (0 : Nat) }, { c := BC.typ (Cont.ints IntKind.i64 (List.take (1 : Nat) (List.drop (0 : Nat) ((List.replicate (1 : Nat) (0 : Int)).set (0 : Nat) (mo.sv (↑u : Int) cs bs (↑j : Int) (IntKind.i64.wrap ((↑k : Int) + (1 : Int)))))))), ver := (0 : Nat) }]) else none else none else none else none else L1 f n (mkS (48 : Nat) [((1 : Nat), AVal.fn (47 : Nat) [AVal.rom [AVal.int IntKind.i64 (↑u : Int), AVal.int IntKind.i64 (↑r : Int), AVal.ro (Cont.ints IntKind.i64 ws) ws.length (1 : Nat), AVal.ro (Cont.ints IntKind.i64 cs) cs.length (1 : Nat)] (0 : Nat), AVal.rom [AVal.ro (Cont.ints IntKind.i64 bs) bs.length (1 : Nat)] (0 : Nat)]), ((2 : Nat), AVal.ptr (0 : Nat) (0 : Nat) (0 : Nat)), ((4 : Nat), AVal.ptr (1 : Nat) (0 : Nat) (0 : Nat)), ((6 : Nat), AVal.ptr (3 : Nat) (0 : Nat) (0 : Nat)), ((22 : Nat), AVal.int IntKind.i64 (↑r : Int)), ((23 : Nat), AVal.int IntKind.i64 (IntKind.i64.wrap ((↑j : Int) + (1 : Int))))] [{ c := BC.cells [AVal.int IntKind.i64 (↑u : Int), AVal.int IntKind.i64 (↑r : Int), AVal.ro (Cont.ints IntKind.i64 ws) ws.length (1 : Nat), AVal.ro (Cont.ints IntKind.i64 cs) cs.length (1 : Nat)], ver := (0 : Nat) }, { c := BC.cells [AVal.int IntKind.i64 (0 : Int), AVal.int IntKind.i64 (0 : Int), AVal.nils, AVal.nils], ver := (0 : Nat) }, { c := BC.typ (Cont.ints IntKind.i64 vs), ver := (0 : Nat) }, { c := BC.cells [AVal.int IntKind.i64 (↑u : Int), AVal.int IntKind.i64 (↑r : Int), AVal.own (2 : Nat) (0 : Nat) wl (0 : Nat) (1 : Nat), AVal.nils], ver := (0 : Nat) }])) := by kernel_rfl
theorem round1 (u r : Nat) (ws cs : List Int) (bs : List Int) (vs az : List Int) (w : Int) (wl q j : Nat) (f n : Nat) :
  L1 f (n + 1) (mkS 48 [(1, .fn 47 [.rom [.int .i64 u, .int .i64 r, .ro (.ints .i64 ws) ws.length 1, .ro (.ints .i64 cs) cs.length 1] 0, .rom [.ro (.ints .i64 bs) bs.length 1] 0]), (2, .ptr 0 0 0), (4, .ptr 1 0 0), (6, .ptr 3 0 0), (22, .int .i64 r), (23, .int .i64 j)] [⟨.cells [.int .i64 u, .int .i64 r, .ro (.ints .i64 ws) ws.length 1, .ro (.ints .i64 cs) cs.length 1], 0⟩, ⟨.cells [.int .i64 0, .int .i64 0, .nils, .nils], 0⟩, ⟨.typ (.ints .i64 vs), 0⟩, ⟨.cells [.int .i64 u, .int .i64 r, .own 2 0 wl 0 1, .own 5 0 q 0 1], 0⟩, ⟨.typ (.ints .i64 [w]), 0⟩, ⟨.typ (.ints .i64 az), 0⟩])
  = (bif decide ((↑j : Int) < (↑r : Int)) then bif true && true then L2 f n f (mkS (48 : Nat) [((1 : Nat), AVal.fn (47 : Nat) [AVal.rom [AVal.int IntKind.i64 (↑u : Int), AVal.int IntKind.i64 (↑r : Int), AVal.ro (Cont.ints IntKind.i64 ws) ws.length (1 : Nat), AVal.ro (Cont.ints IntKind.i64 cs) cs.length (1 : Nat)] (0 : Nat), AVal.rom [AVal.ro (Cont.ints IntKind.i64 bs) bs.length (1 : Nat)] (0 : Nat)]), ((2 : Nat), AVal.ptr (0 : Nat) (0 : Nat) (0 : Nat)), ((4 : Nat), AVal.ptr (1 : Nat) (0 : Nat) (0 : Nat)), ((6 : Nat), AVal.ptr (3 : Nat) (0 : Nat) (0 : Nat)), ((7 : Nat), AVal.int IntKind.i64 (↑j : Int)), ((22 : Nat), AVal.int IntKind.i64 (↑r : Int)), ((23 : Nat), AVal.int IntKind.i64 (↑j : Int)), ((27 : Nat), AVal.int IntKind.i64 (↑u : Int)), ((28 : Nat), AVal.int IntKind.i64 (0 : Int))] [{ c := BC.cells [AVal.int IntKind.i64 (↑u : Int), AVal.int IntKind.i64 (↑r : Int), AVal.ro (Cont.ints IntKind.i64 ws) ws.length (1 : Nat), AVal.ro (Cont.ints IntKind.i64 cs) cs.length (1 : Nat)], ver := (0 : Nat) }, { c := BC.cells [AVal.int IntKind.i64 (0 : Int), AVal.int IntKind.i64 (0 : Int), AVal.nils, AVal.nils], ver := (0 : Nat) }, { c := BC.typ (Cont.ints IntKind.i64 vs), ver := (0 : Nat) }, { c := BC.cells [AVal.int IntKind.i64 (↑u : Int), AVal.int IntKind.i64 (↑r : Int), AVal.own (2 : Nat) (0 : Nat) wl (0 : Nat) (1 : Nat), AVal.own (5 : Nat) (0 : Nat) q (0 : Nat) (1 : Nat)], ver := (0 : Nat) }, { c := BC.typ (Cont.ints IntKind.i64 [w]), ver := (0 : Nat) }, { c := BC.typ (Cont.ints IntKind.i64 az), ver := (0 : Nat) }]) else none else bif true && true && (true && true && (true && true && (true && true && true))) then bif decide (wl ≤ vs.length ∧ wl ≤ (4611686018427387904 : Nat) ∧ q ≤ az.length ∧ q ≤ (4611686018427387904 : Nat)) && (true && (true && (false && (false && true))) && true || true && true) then bif !crowd.sp (↑u : Int) (↑r : Int) (List.take wl vs) (List.take q az) then some (AVal.tup [AVal.agg [AVal.int IntKind.i64 (0 : Int), AVal.int IntKind.i64 (0 : Int), AVal.nils, AVal.nils], AVal.bool false], [{ c := BC.cells [AVal.int IntKind.i64 (↑u : Int), AVal.int IntKind.i64 (↑r : Int), AVal.ro (Cont.ints IntKind.i64 ws) ws.length (1 : Nat), AVal.ro (Cont.ints IntKind.i64 cs) cs.length (1 : Nat)], ver := (0 : Nat) }, { c := BC.cells [AVal.int IntKind.i64 (0 : Int), AVal.int IntKind.i64 (0 : Int), AVal.nils, AVal.nils], ver := (0 : Nat) }, { c := BC.typ (Cont.ints IntKind.i64 vs), ver := (0 : Nat) }, { c := BC.cells [AVal.int IntKind.i64 (↑u : Int), AVal.int IntKind.i64 (↑r : Int), AVal.own (2 : Nat) (0 : Nat) wl (0 : Nat) (1 : Nat), AVal.own (5 : Nat) (0 : Nat) q (0 : Nat) (1 : Nat)], ver := (0 : Nat) }, { c := BC.typ (Cont.ints IntKind.i64 [w]), ver := (0 : Nat) }, { c := BC.typ (Cont.ints IntKind.i64 az), ver := (0 : Nat) }]) else bif true && true && (true && true && (true && true && (true && true && true))) then bif true && (true && (true && (true && (true && (true && true))))) then bif true && true && (true && true && (true && true && (true && true && true))) && true then some (AVal.tup [AVal.agg [AVal.int IntKind.i64 (↑u : Int), AVal.int IntKind.i64 (↑r : Int), AVal.own (2 : Nat) (0 : Nat) wl (0 : Nat) (1 : Nat), AVal.own (5 : Nat) (0 : Nat) q (0 : Nat) (1 : Nat)], AVal.bool true], [{ c := BC.cells [AVal.int IntKind.i64 (↑u : Int), AVal.int IntKind.i64 (↑r : Int), AVal.ro (Cont.ints IntKind.i64 ws) ws.length (1 : Nat), AVal.ro (Cont.ints IntKind.i64 cs) cs.length (1 : Nat)], ver := (0 : Nat) }, { c := BC.cells [AVal.int IntKind.i64 (↑u : Int), AVal.int IntKind.i64 (↑r : Int), AVal.own (2 : Nat) (0 : Nat) wl (0 : Nat) (1 : Nat), AVal.own (5 : Nat) (0 : Nat) q (0 : Nat) (1 : Nat)], ver := (0 : Nat) }, { c := BC.typ (Cont.ints IntKind.i64 vs), ver := (0 : Nat) }, { c := BC.cells [AVal.int IntKind.i64 (↑u : Int), AVal.int IntKind.i64 (↑r : Int), AVal.own (2 : Nat) (0 : Nat) wl (0 : Nat) (1 : Nat), AVal.own (5 : Nat) (0 : Nat) q (0 : Nat) (1 : Nat)], ver := (0 : Nat) }, { c := BC.typ (Cont.ints IntKind.i64 [w]), ver := (0 : Nat) }, { c := BC.typ (Cont.ints IntKind.i64 az), ver := (0 : Nat) }]) else none else none else none else none else none) := by kernel_rfl
theorem round2 (u r : Nat) (ws cs : List Int) (bs : List Int) (vs az : List Int) (w : Int) (wl q j k : Nat) (f n n2 : Nat) :
  L2 f n (n2 + 1) (mkS 48 [(1, .fn 47 [.rom [.int .i64 u, .int .i64 r, .ro (.ints .i64 ws) ws.length 1, .ro (.ints .i64 cs) cs.length 1] 0, .rom [.ro (.ints .i64 bs) bs.length 1] 0]), (2, .ptr 0 0 0), (4, .ptr 1 0 0), (6, .ptr 3 0 0), (7, .int .i64 j), (22, .int .i64 r), (23, .int .i64 j), (27, .int .i64 u), (28, .int .i64 k)] [⟨.cells [.int .i64 u, .int .i64 r, .ro (.ints .i64 ws) ws.length 1, .ro (.ints .i64 cs) cs.length 1], 0⟩, ⟨.cells [.int .i64 0, .int .i64 0, .nils, .nils], 0⟩, ⟨.typ (.ints .i64 vs), 0⟩, ⟨.cells [.int .i64 u, .int .i64 r, .own 2 0 wl 0 1, .own 5 0 q 0 1], 0⟩, ⟨.typ (.ints .i64 [w]), 0⟩, ⟨.typ (.ints .i64 az), 0⟩])
  = (bif decide ((↑k : Int) < (↑u : Int)) then bif true && true then bif decide (ws.length = ws.length ∧ cs.length = cs.length ∧ bs.length = bs.length ∧ (0 : Int) ≤ (↑j : Int) ∧ (↑j : Int) < (↑r : Int) ∧ (1 : Int) ≤ IntKind.i64.wrap ((↑k : Int) + (1 : Int)) ∧ IntKind.i64.wrap ((↑k : Int) + (1 : Int)) ≤ (↑u : Int)) && mo.ok.sp (↑r : Int) bs && crowd.sp (↑u : Int) (↑r : Int) ws cs && (true && (true && (true && (true && (true && (true && true))) && (true && true && true))) || true && true) then bif (1 : Nat) == (1 : Nat) && (1 : Nat) == (1 : Nat) && (true && (true && true) && (true && true && (decide (q + (List.take (1 : Nat) (List.drop (0 : Nat) ((List.replicate (1 : Nat) (0 : Int)).set (0 : Nat) (mo.sv (↑u : Int) cs bs (↑j : Int) (IntKind.i64.wrap ((↑k : Int) + (1 : Int))))))).length ≤ (4611686018427387904 : Nat)) && decide ((q + (List.take (1 : Nat) (List.drop (0 : Nat) ((List.replicate (1 : Nat) (0 : Int)).set (0 : Nat) (mo.sv (↑u : Int) cs bs (↑j : Int) (IntKind.i64.wrap ((↑k : Int) + (1 : Int))))))).length) * (8 : Nat) ≤ (140737488355328 : Nat))))) then bif true && (true && (true && true)) then L2 f n n2 (mkS (48 : Nat) [((1 : Nat), AVal.fn (47 : Nat) [AVal.rom [AVal.int IntKind.i64 (↑u : Int), AVal.int IntKind.i64 (↑r : Int), AVal.ro (Cont.ints IntKind.i64 ws) ws.length (1 : Nat), AVal.ro (Cont.ints IntKind.i64 cs) cs.length (1 : Nat)] (0 : Nat), AVal.rom [AVal.ro (Cont.ints IntKind.i64 bs) bs.length (1 : Nat)] (0 : Nat)]), ((2 : Nat), AVal.ptr (0 : Nat) (0 : Nat) (0 : Nat)), ((4 : Nat), AVal.ptr (1 : Nat) (0 : Nat) (0 : Nat)), ((6 : Nat), AVal.ptr (3 : Nat) (0 : Nat) (0 : Nat)), ((7 : Nat), AVal.int IntKind.i64 (↑j : Int)), ((22 : Nat), AVal.int IntKind.i64 (↑r : Int)), ((23 : Nat), AVal.int IntKind.i64 (↑j : Int)), ((27 : Nat), AVal.int IntKind.i64 (↑u : Int)), ((28 : Nat), AVal.int IntKind.i64 (IntKind.i64.wrap ((↑k : Int) + (1 : Int))))] [{ c := BC.cells [AVal.int IntKind.i64 (↑u : Int), AVal.int IntKind.i64 (↑r : Int), AVal.ro (Cont.ints IntKind.i64 ws) ws.length (1 : Nat), AVal.ro (Cont.ints IntKind.i64 cs) cs.length (1 : Nat)], ver := (0 : Nat) }, { c := BC.cells [AVal.int IntKind.i64 (0 : Int), AVal.int IntKind.i64 (0 : Int), AVal.nils, AVal.nils], ver := (0 : Nat) }, { c := BC.typ (Cont.ints IntKind.i64 vs), ver := (0 : Nat) }, { c := BC.cells [AVal.int IntKind.i64 (↑u : Int), AVal.int IntKind.i64 (↑r : Int), AVal.own (2 : Nat) (0 : Nat) wl (0 : Nat) (1 : Nat), AVal.own (5 : Nat) (0 : Nat) (q + (List.take (1 : Nat) (List.drop (0 : Nat) ((List.replicate (1 : Nat) (0 : Int)).set (0 : Nat) (mo.sv (↑u : Int) cs bs (↑j : Int) (IntKind.i64.wrap ((↑k : Int) + (1 : Int))))))).length) (0 : Nat) (1 : Nat)], ver := (0 : Nat) }, { c := BC.typ (Cont.ints IntKind.i64 [w]), ver := (0 : Nat) }, { c := BC.typ (Cont.ints IntKind.i64 (List.take q az ++ List.take (1 : Nat) (List.drop (0 : Nat) ((List.replicate (1 : Nat) (0 : Int)).set (0 : Nat) (mo.sv (↑u : Int) cs bs (↑j : Int) (IntKind.i64.wrap ((↑k : Int) + (1 : Int)))))))), ver := (0 : Nat) }]) else none else none else none else none else L1 f n (mkS (48 : Nat) [((1 : Nat), AVal.fn (47 : Nat) [AVal.rom [AVal.int IntKind.i64 (↑u : Int), AVal.int IntKind.i64 (↑r : Int), AVal.ro (Cont.ints IntKind.i64 ws) ws.length (1 : Nat), AVal.ro (Cont.ints IntKind.i64 cs) cs.length (1 : Nat)] (0 : Nat), AVal.rom [AVal.ro (Cont.ints IntKind.i64 bs) bs.length (1 : Nat)] (0 : Nat)]), ((2 : Nat), AVal.ptr (0 : Nat) (0 : Nat) (0 : Nat)), ((4 : Nat), AVal.ptr (1 : Nat) (0 : Nat) (0 : Nat)), ((6 : Nat), AVal.ptr (3 : Nat) (0 : Nat) (0 : Nat)), ((22 : Nat), AVal.int IntKind.i64 (↑r : Int)), ((23 : Nat), AVal.int IntKind.i64 (IntKind.i64.wrap ((↑j : Int) + (1 : Int))))] [{ c := BC.cells [AVal.int IntKind.i64 (↑u : Int), AVal.int IntKind.i64 (↑r : Int), AVal.ro (Cont.ints IntKind.i64 ws) ws.length (1 : Nat), AVal.ro (Cont.ints IntKind.i64 cs) cs.length (1 : Nat)], ver := (0 : Nat) }, { c := BC.cells [AVal.int IntKind.i64 (0 : Int), AVal.int IntKind.i64 (0 : Int), AVal.nils, AVal.nils], ver := (0 : Nat) }, { c := BC.typ (Cont.ints IntKind.i64 vs), ver := (0 : Nat) }, { c := BC.cells [AVal.int IntKind.i64 (↑u : Int), AVal.int IntKind.i64 (↑r : Int), AVal.own (2 : Nat) (0 : Nat) wl (0 : Nat) (1 : Nat), AVal.own (5 : Nat) (0 : Nat) q (0 : Nat) (1 : Nat)], ver := (0 : Nat) }, { c := BC.typ (Cont.ints IntKind.i64 [w]), ver := (0 : Nat) }, { c := BC.typ (Cont.ints IntKind.i64 az), ver := (0 : Nat) }])) := by kernel_rfl
theorem inner (u r : Nat) (ws cs : List Int) (bs : List Int) (w : Int) (f n j : Nat) (hv : crowd.sp u r ws cs = true) (hu : 1 ≤ u ∧ u ≤ 8) (hr : 1 ≤ r ∧ r ≤ 8) (hb : mo.ok.sp (r : Int) bs = true) (hj : j < r) : ∀ (d k n2 : Nat), k + d = u → d < n2 → (j = 0 → 1 ≤ k) →
    L2 f n n2 (mkS 48 [(1, .fn 47 [.rom [.int .i64 u, .int .i64 r, .ro (.ints .i64 ws) ws.length 1, .ro (.ints .i64 cs) cs.length 1] 0, .rom [.ro (.ints .i64 bs) bs.length 1] 0]), (2, .ptr 0 0 0), (4, .ptr 1 0 0), (6, .ptr 3 0 0), (7, .int .i64 ((j : Nat) : Int)), (22, .int .i64 r), (23, .int .i64 ((j : Nat) : Int)), (27, .int .i64 u), (28, .int .i64 ((k : Nat) : Int))] [⟨.cells [.int .i64 u, .int .i64 r, .ro (.ints .i64 ws) ws.length 1, .ro (.ints .i64 cs) cs.length 1], 0⟩, ⟨.cells [.int .i64 0, .int .i64 0, .nils, .nils], 0⟩, ⟨.typ (.ints .i64 ws), 0⟩, ⟨.cells [.int .i64 u, .int .i64 r, .own 2 0 ws.length 0 1, .own 5 0 (j * u + k) 0 1], 0⟩, ⟨.typ (.ints .i64 [w]), 0⟩, ⟨.typ (.ints .i64 (ct.pre (mo.f u cs bs) u j k)), 0⟩]) = L1 f n (mkS 48 [(1, .fn 47 [.rom [.int .i64 u, .int .i64 r, .ro (.ints .i64 ws) ws.length 1, .ro (.ints .i64 cs) cs.length 1] 0, .rom [.ro (.ints .i64 bs) bs.length 1] 0]), (2, .ptr 0 0 0), (4, .ptr 1 0 0), (6, .ptr 3 0 0), (22, .int .i64 r), (23, .int .i64 (((j + 1) : Nat) : Int))] [⟨.cells [.int .i64 u, .int .i64 r, .ro (.ints .i64 ws) ws.length 1, .ro (.ints .i64 cs) cs.length 1], 0⟩, ⟨.cells [.int .i64 0, .int .i64 0, .nils, .nils], 0⟩, ⟨.typ (.ints .i64 ws), 0⟩, ⟨.cells [.int .i64 u, .int .i64 r, .own 2 0 ws.length 0 1, .own 5 0 ((j + 1) * u + 0) 0 1], 0⟩, ⟨.typ (.ints .i64 [w]), 0⟩, ⟨.typ (.ints .i64 (ct.pre (mo.f u cs bs) u (j + 1) 0)), 0⟩]) := by
  intro d
  induction d with
  | zero =>
    intro k n2 hk hn hz
    obtain ⟨n2, rfl⟩ : ∃ k, n2 = k + 1 := ⟨n2 - 1, by omega⟩
    obtain rfl : k = u := by omega
    rw [round2]
    have wj : IntKind.i64.wrap ((j : Int) + 1) = ((j + 1 : Nat) : Int) := wrap_nat j (by omega)
    have e : j * k + k = (j + 1) * k + 0 := by rw [Nat.add_mul, Nat.one_mul]; rfl
    simp -implicitDefEqProofs only [Int.lt_irrefl, wj, ct.pre_next, e, decide_true, decide_false, Bool.and_self, Bool.or_self, Bool.and_true, Bool.true_and, Bool.and_false, Bool.false_and, Bool.or_true, Bool.true_or, Bool.or_false, Bool.false_or, Bool.not_true, Bool.not_false, cond_true, cond_false]
  | succ d ih =>
    intro k n2 hk' hn hz
    obtain ⟨n2, rfl⟩ : ∃ k, n2 = k + 1 := ⟨n2 - 1, by omega⟩
    have hk : k < u := by omega
    have h64 : j * u + k < 64 + 1 := by
      have := ct.ix_lt (R := r) (C := u) hj hk
      have h8 : r * u ≤ 8 * 8 := Nat.mul_le_mul hr.2 hu.2
      omega
    have j0 : (0 : Int) ≤ (j : Int) := Int.natCast_nonneg _
    have j1 : (j : Int) < (r : Int) := by omega
    have k0 : (k : Int) < (u : Int) := by omega
    have wk : IntKind.i64.wrap ((k : Int) + 1) = ((k + 1 : Nat) : Int) := wrap_nat k (by omega)
    have k1 : (1 : Int) ≤ ((k + 1 : Nat) : Int) := by omega
    have k2 : ((k + 1 : Nat) : Int) ≤ (u : Int) := by omega
    have s1 : j * u + k + 1 ≤ 4611686018427387904 := by omega
    have s2 : (j * u + k + 1) * 8 ≤ 140737488355328 := by omega
    have tx : (ct.pre (mo.f u cs bs) u j k).take (j * u + k) = ct.pre (mo.f u cs bs) u j k := List.take_of_length_le (by rw [ct.pre_length]; omega)
    have hih := ih (k + 1) n2 (by omega) (by omega) (by omega)
    rw [← ct.pre_succ] at hih
    rw [round2]
    simp -implicitDefEqProofs only [tx, s1, s2, hv, hb, j0, j1, k0, wk, k1, k2, Int.toNat_natCast, one_set, List.length_singleton, Nat.zero_add, List.replicate_zero, List.take_nil, List.nil_append, Nat.reduceBEq, Nat.lt_irrefl, Nat.le_refl, List.take_length, and_self, eq_self, decide_true, decide_false, Bool.and_self, Bool.or_self, Bool.and_true, Bool.true_and, Bool.and_false, Bool.false_and, Bool.or_true, Bool.true_or, Bool.or_false, Bool.false_or, Bool.not_true, Bool.not_false, cond_true, cond_false]
    exact hih
theorem outer (u r : Nat) (ws cs : List Int) (bs : List Int) (w : Int) (f : Nat) (hv : crowd.sp u r ws cs = true) (hu : 1 ≤ u ∧ u ≤ 8) (hr : 1 ≤ r ∧ r ≤ 8) (hb : mo.ok.sp (r : Int) bs = true) (hw4 : ws.length ≤ 4611686018427387904) (ht : crowd.sp u r ws (ct.tab (mo.f u cs bs) u r) = true) (hf : u < f) : ∀ (d j n : Nat), j + d = r → d < n → 1 ≤ j →
    L1 f n (mkS 48 [(1, .fn 47 [.rom [.int .i64 u, .int .i64 r, .ro (.ints .i64 ws) ws.length 1, .ro (.ints .i64 cs) cs.length 1] 0, .rom [.ro (.ints .i64 bs) bs.length 1] 0]), (2, .ptr 0 0 0), (4, .ptr 1 0 0), (6, .ptr 3 0 0), (22, .int .i64 r), (23, .int .i64 ((j : Nat) : Int))] [⟨.cells [.int .i64 u, .int .i64 r, .ro (.ints .i64 ws) ws.length 1, .ro (.ints .i64 cs) cs.length 1], 0⟩, ⟨.cells [.int .i64 0, .int .i64 0, .nils, .nils], 0⟩, ⟨.typ (.ints .i64 ws), 0⟩, ⟨.cells [.int .i64 u, .int .i64 r, .own 2 0 ws.length 0 1, .own 5 0 (j * u + 0) 0 1], 0⟩, ⟨.typ (.ints .i64 [w]), 0⟩, ⟨.typ (.ints .i64 (ct.pre (mo.f u cs bs) u j 0)), 0⟩]) = some (.tup [.agg [.int .i64 u, .int .i64 r, .own 2 0 ws.length 0 1, .own 5 0 (r * u + 0) 0 1], .bool true], [⟨.cells [.int .i64 u, .int .i64 r, .ro (.ints .i64 ws) ws.length 1, .ro (.ints .i64 cs) cs.length 1], 0⟩, ⟨.cells [.int .i64 u, .int .i64 r, .own 2 0 ws.length 0 1, .own 5 0 (r * u + 0) 0 1], 0⟩, ⟨.typ (.ints .i64 ws), 0⟩, ⟨.cells [.int .i64 u, .int .i64 r, .own 2 0 ws.length 0 1, .own 5 0 (r * u + 0) 0 1], 0⟩, ⟨.typ (.ints .i64 [w]), 0⟩, ⟨.typ (.ints .i64 (ct.tab (mo.f u cs bs) u r)), 0⟩]) := by
  intro d
  induction d with
  | zero =>
    intro j n hj hn h1
    obtain ⟨n, rfl⟩ : ∃ k, n = k + 1 := ⟨n - 1, by omega⟩
    obtain rfl : j = r := by omega
    have hlen := ct.pre_length (mo.f u cs bs) u j 0
    have h8 : j * u ≤ 8 * 8 := Nat.mul_le_mul hr.2 hu.2
    have q4 : j * u + 0 ≤ 4611686018427387904 := by omega
    have q5 : j * u + 0 ≤ (ct.pre (mo.f u cs bs) u j 0).length := by omega
    have tx : (ct.pre (mo.f u cs bs) u j 0).take (j * u + 0) = ct.pre (mo.f u cs bs) u j 0 := List.take_of_length_le (by omega)
    unfold ct.tab at ht
    rw [round1]
    simp -implicitDefEqProofs only [Int.lt_irrefl, ct.tab, hw4, q4, q5, tx, hlen, ht, List.take_length, Nat.le_refl, and_self, eq_self, decide_true, decide_false, Bool.and_self, Bool.or_self, Bool.and_true, Bool.true_and, Bool.and_false, Bool.false_and, Bool.or_true, Bool.true_or, Bool.or_false, Bool.false_or, Bool.not_true, Bool.not_false, cond_true, cond_false]
    try rfl
  | succ d ih =>
    intro j n hj' hn h1
    obtain ⟨n, rfl⟩ : ∃ k, n = k + 1 := ⟨n - 1, by omega⟩
    have hj : j < r := by omega
    have hj5 : (j : Int) < (r : Int) := by omega
    rw [round1]
    simp -implicitDefEqProofs only [hj5, decide_true, decide_false, Bool.and_self, Bool.or_self, Bool.and_true, Bool.true_and, Bool.and_false, Bool.false_and, Bool.or_true, Bool.true_or, Bool.or_false, Bool.false_or, Bool.not_true, Bool.not_false, cond_true, cond_false]
    have hin := inner u r ws cs bs w f n j hv hu hr hb hj u 0 f (by omega) hf
    have hout := ih (j + 1) n (by omega) (by omega) (by omega)
    exact (hin (by omega)).trans hout
theorem all (u r : Nat) (ws cs : List Int) (bs : List Int) (f : Nat) (hv : crowd.sp u r ws cs = true) (hu : 1 ≤ u ∧ u ≤ 8) (hr : 1 ≤ r ∧ r ≤ 8) (hb : mo.ok.sp (r : Int) bs = true) (hw4 : ws.length ≤ 4611686018427387904) (ht : crowd.sp u r ws (ct.tab (mo.f u cs bs) u r) = true) (hf : u + r < f) : ∃ w : Int,
    L1 f f (mkS 48 [(1, .fn 47 [.rom [.int .i64 u, .int .i64 r, .ro (.ints .i64 ws) ws.length 1, .ro (.ints .i64 cs) cs.length 1] 0, .rom [.ro (.ints .i64 bs) bs.length 1] 0]), (2, .ptr 0 0 0), (4, .ptr 1 0 0), (6, .ptr 3 0 0), (22, .int .i64 r), (23, .int .i64 0)] [⟨.cells [.int .i64 u, .int .i64 r, .ro (.ints .i64 ws) ws.length 1, .ro (.ints .i64 cs) cs.length 1], 0⟩, ⟨.cells [.int .i64 0, .int .i64 0, .nils, .nils], 0⟩, ⟨.typ (.ints .i64 ws), 0⟩, ⟨.cells [.int .i64 u, .int .i64 r, .own 2 0 ws.length 0 1, .nils], 0⟩]) = some (.tup [.agg [.int .i64 u, .int .i64 r, .own 2 0 ws.length 0 1, .own 5 0 (r * u + 0) 0 1], .bool true], [⟨.cells [.int .i64 u, .int .i64 r, .ro (.ints .i64 ws) ws.length 1, .ro (.ints .i64 cs) cs.length 1], 0⟩, ⟨.cells [.int .i64 u, .int .i64 r, .own 2 0 ws.length 0 1, .own 5 0 (r * u + 0) 0 1], 0⟩, ⟨.typ (.ints .i64 ws), 0⟩, ⟨.cells [.int .i64 u, .int .i64 r, .own 2 0 ws.length 0 1, .own 5 0 (r * u + 0) 0 1], 0⟩, ⟨.typ (.ints .i64 [w]), 0⟩, ⟨.typ (.ints .i64 (ct.tab (mo.f u cs bs) u r)), 0⟩]) := by
  obtain ⟨f, rfl⟩ : ∃ k, f = k + 1 := ⟨f - 1, by omega⟩
  refine ⟨(mo.f u cs bs) 0 0, ?_⟩
  have hj5 : ((0 : Nat) : Int) < (r : Int) := by omega
  have hz := round1z u r ws cs bs ws ws.length 0 (f + 1) f
  simp -implicitDefEqProofs only [hj5, decide_true, decide_false, Bool.and_self, Bool.or_self, Bool.and_true, Bool.true_and, Bool.and_false, Bool.false_and, Bool.or_true, Bool.true_or, Bool.or_false, Bool.false_or, Bool.not_true, Bool.not_false, cond_true, cond_false] at hz
  have hz2 : L2 (f + 1) f (f + 1) (mkS 48 [(1, .fn 47 [.rom [.int .i64 u, .int .i64 r, .ro (.ints .i64 ws) ws.length 1, .ro (.ints .i64 cs) cs.length 1] 0, .rom [.ro (.ints .i64 bs) bs.length 1] 0]), (2, .ptr 0 0 0), (4, .ptr 1 0 0), (6, .ptr 3 0 0), (7, .int .i64 ((0 : Nat) : Int)), (22, .int .i64 r), (23, .int .i64 ((0 : Nat) : Int)), (27, .int .i64 u), (28, .int .i64 0)] [⟨.cells [.int .i64 u, .int .i64 r, .ro (.ints .i64 ws) ws.length 1, .ro (.ints .i64 cs) cs.length 1], 0⟩, ⟨.cells [.int .i64 0, .int .i64 0, .nils, .nils], 0⟩, ⟨.typ (.ints .i64 ws), 0⟩, ⟨.cells [.int .i64 u, .int .i64 r, .own 2 0 ws.length 0 1, .nils], 0⟩]) = L2 (f + 1) f f (mkS 48 [(1, .fn 47 [.rom [.int .i64 u, .int .i64 r, .ro (.ints .i64 ws) ws.length 1, .ro (.ints .i64 cs) cs.length 1] 0, .rom [.ro (.ints .i64 bs) bs.length 1] 0]), (2, .ptr 0 0 0), (4, .ptr 1 0 0), (6, .ptr 3 0 0), (7, .int .i64 ((0 : Nat) : Int)), (22, .int .i64 r), (23, .int .i64 ((0 : Nat) : Int)), (27, .int .i64 u), (28, .int .i64 ((1 : Nat) : Int))] [⟨.cells [.int .i64 u, .int .i64 r, .ro (.ints .i64 ws) ws.length 1, .ro (.ints .i64 cs) cs.length 1], 0⟩, ⟨.cells [.int .i64 0, .int .i64 0, .nils, .nils], 0⟩, ⟨.typ (.ints .i64 ws), 0⟩, ⟨.cells [.int .i64 u, .int .i64 r, .own 2 0 ws.length 0 1, .own 5 0 1 0 1], 0⟩, ⟨.typ (.ints .i64 [(mo.f u cs bs) 0 0]), 0⟩, ⟨.typ (.ints .i64 [(mo.f u cs bs) 0 0]), 0⟩]) := by
    obtain ⟨k, hk0⟩ : ∃ k : Nat, k = 0 := ⟨0, rfl⟩
    obtain ⟨j, hj0⟩ : ∃ j : Nat, j = 0 := ⟨0, rfl⟩
    have hk : k < u := by omega
    have hj : j < r := by omega
    have h64 : j * u + k < 64 + 1 := by
      have := ct.ix_lt (R := r) (C := u) hj hk
      have h8 : r * u ≤ 8 * 8 := Nat.mul_le_mul hr.2 hu.2
      omega
    have j0 : (0 : Int) ≤ (j : Int) := Int.natCast_nonneg _
    have j1 : (j : Int) < (r : Int) := by omega
    have k0 : (k : Int) < (u : Int) := by omega
    have wk : IntKind.i64.wrap ((k : Int) + 1) = ((k + 1 : Nat) : Int) := wrap_nat k (by omega)
    have k1 : (1 : Int) ≤ ((k + 1 : Nat) : Int) := by omega
    have k2 : ((k + 1 : Nat) : Int) ≤ (u : Int) := by omega
    have hzz := round2z u r ws cs bs ws ws.length j k (f + 1) f f
    simp -implicitDefEqProofs only [hv, hb, j0, j1, k0, wk, k1, k2, Int.toNat_natCast, one_set, List.length_singleton, Nat.zero_add, List.replicate_zero, List.take_nil, List.nil_append, Nat.reduceBEq, Nat.lt_irrefl, Nat.le_refl, List.take_length, and_self, eq_self, decide_true, decide_false, Bool.and_self, Bool.or_self, Bool.and_true, Bool.true_and, Bool.and_false, Bool.false_and, Bool.or_true, Bool.true_or, Bool.or_false, Bool.false_or, Bool.not_true, Bool.not_false, cond_true, cond_false, Nat.reduceMul, Nat.reduceLeDiff, Nat.reduceLT, Nat.zero_lt_one, Nat.reduceAdd] at hzz
    subst hk0 hj0
    exact hzz
  have hin := inner u r ws cs bs ((mo.f u cs bs) 0 0) (f + 1) f 0 hv hu hr hb (by omega) (u - 1) 1 f (by omega) (by omega) (fun _ => Nat.le_refl _)
  have hout := outer u r ws cs bs ((mo.f u cs bs) 0 0) (f + 1) hv hu hr hb hw4 ht (by omega) (r - 1) 1 f (by omega) (by omega) (Nat.le_refl _)
  have e1 : ct.pre (mo.f u cs bs) u 0 1 = [(mo.f u cs bs) 0 0] := by rw [← ct.pre_succ, ct.pre_zero]; rfl
  have e2 : 0 * u + 1 = 1 := by omega
  rw [e1, e2] at hin
  exact hz.trans (hz2.trans (hin.trans hout))
end turnedMore_t

namespace turnedMore_f
def dr : Nat → Dr := fun i => bif eqN i 3 then ⟨some [999, 0, 1, 2, 3, 4, 5, 6, 7, 8, 9], false⟩ else ⟨none, false⟩
def hd : Nat → Head := fun i => bif eqN i 2 then ⟨[1, 2, 4, 6, 7, 22, 23, 27, 28], some 6⟩ else ⟨[1, 2, 4, 6, 22, 23], some 6⟩
noncomputable def L1 (f n : Nat) (s : State) := loopAt Try.prog (orc [⟨51, iValidCrowd.R⟩, ⟨55, slClone.R⟩, ⟨47, more1.R⟩]) hd dr 0 f (bodyOf Try.f42) 0 [true, true, true, false, true] (retK Try.prog [.cell 4 26, .tmp 5] 0 (some 0)) n s
noncomputable def L2 (f n n2 : Nat) (s : State) := loopAt Try.prog (orc [⟨51, iValidCrowd.R⟩, ⟨55, slClone.R⟩, ⟨47, more1.R⟩]) hd dr 0 f (bodyAt (bodyOf Try.f42) [true, true, true, false, true]) (curAt (bodyOf Try.f42) 0 [true, true, true, false, true]) [true, true, false, true, true] (iterK (normE 0 (hd (curAt (bodyOf Try.f42) 0 [true, true, true, false, true]))) (L1 f n) (contAt Try.prog (orc [⟨51, iValidCrowd.R⟩, ⟨55, slClone.R⟩, ⟨47, more1.R⟩]) hd dr 0 f (bodyOf Try.f42) 0 [true, true, true, false, true] (retK Try.prog [.cell 4 26, .tmp 5] 0 (some 0)))) n2 s
theorem start (u r : Int) (ws cs : List Int) (bs : List Int) (f : Nat) :
  runFn Try.prog (orc [⟨51, iValidCrowd.R⟩, ⟨55, slClone.R⟩, ⟨47, more1.R⟩]) hd dr (some 0) f (bodyOf Try.f42) 48 [.cell 4 26, .tmp 5] [.agg [.int .i64 u, .int .i64 r, .ro (.ints .i64 ws) ws.length 1, .ro (.ints .i64 cs) cs.length 1], .fn 47 [.rom [.int .i64 u, .int .i64 r, .ro (.ints .i64 ws) ws.length 1, .ro (.ints .i64 cs) cs.length 1] 0, .rom [.ro (.ints .i64 bs) bs.length 1] 0]] []
  = (bif true && true && (true && true && (true && true && (true && true && true))) then bif decide (ws.length ≤ ws.length ∧ ws.length ≤ (4611686018427387904 : Nat) ∧ cs.length ≤ cs.length ∧ cs.length ≤ (4611686018427387904 : Nat)) && (true && (true && (true && (true && true))) && true || true && true) then bif !crowd.sp u r (List.take ws.length ws) (List.take cs.length cs) then some (AVal.tup [AVal.agg [AVal.int IntKind.i64 (0 : Int), AVal.int IntKind.i64 (0 : Int), AVal.nils, AVal.nils], AVal.bool false], []) else bif true && true then bif true && true then bif true && true then bif decide ((0 : Nat) < ws.length ∧ ws.length ≤ ws.length ∧ ws.length ≤ (1048576 : Nat)) && (true && true || true && (true && true)) then bif true && (true && (true && (true && (true && (true && true))))) then bif true && true then L1 f f (mkS (48 : Nat) [((1 : Nat), AVal.fn (47 : Nat) [AVal.rom [AVal.int IntKind.i64 u, AVal.int IntKind.i64 r, AVal.ro (Cont.ints IntKind.i64 ws) ws.length (1 : Nat), AVal.ro (Cont.ints IntKind.i64 cs) cs.length (1 : Nat)] (0 : Nat), AVal.rom [AVal.ro (Cont.ints IntKind.i64 bs) bs.length (1 : Nat)] (0 : Nat)]), ((2 : Nat), AVal.ptr (0 : Nat) (0 : Nat) (0 : Nat)), ((4 : Nat), AVal.ptr (1 : Nat) (0 : Nat) (0 : Nat)), ((6 : Nat), AVal.ptr ((1 : Nat) + (1 : Nat) + (1 : Nat)) (0 : Nat) (0 : Nat)), ((22 : Nat), AVal.int IntKind.i64 r), ((23 : Nat), AVal.int IntKind.i64 (0 : Int))] [{ c := BC.cells [AVal.int IntKind.i64 u, AVal.int IntKind.i64 r, AVal.ro (Cont.ints IntKind.i64 ws) ws.length (1 : Nat), AVal.ro (Cont.ints IntKind.i64 cs) cs.length (1 : Nat)], ver := (0 : Nat) }, { c := BC.cells [AVal.int IntKind.i64 (0 : Int), AVal.int IntKind.i64 (0 : Int), AVal.nils, AVal.nils], ver := (0 : Nat) }, { c := BC.typ (Cont.ints IntKind.i64 (List.take ws.length ws)), ver := (0 : Nat) }, { c := BC.cells [AVal.int IntKind.i64 u, AVal.int IntKind.i64 r, AVal.own (2 : Nat) (0 : Nat) ws.length (0 : Nat) (1 : Nat), AVal.nils], ver := (0 : Nat) }]) else none else none else none else none else none else none else none else none) := by kernel_rfl
theorem round1z (u r : Nat) (ws cs : List Int) (bs : List Int) (vs : List Int) (wl j : Nat) (f n : Nat) :
  L1 f (n + 1) (mkS 48 [(1, .fn 47 [.rom [.int .i64 u, .int .i64 r, .ro (.ints .i64 ws) ws.length 1, .ro (.ints .i64 cs) cs.length 1] 0, .rom [.ro (.ints .i64 bs) bs.length 1] 0]), (2, .ptr 0 0 0), (4, .ptr 1 0 0), (6, .ptr 3 0 0), (22, .int .i64 r), (23, .int .i64 j)] [⟨.cells [.int .i64 u, .int .i64 r, .ro (.ints .i64 ws) ws.length 1, .ro (.ints .i64 cs) cs.length 1], 0⟩, ⟨.cells [.int .i64 0, .int .i64 0, .nils, .nils], 0⟩, ⟨.typ (.ints .i64 vs), 0⟩, ⟨.cells [.int .i64 u, .int .i64 r, .own 2 0 wl 0 1, .nils], 0⟩])
  = (bif decide ((↑j : Int) < (↑r : Int)) then bif true && true then L2 f n f (mkS (48 : Nat) [((1 : Nat), AVal.fn (47 : Nat) [AVal.rom [AVal.int IntKind.i64 (↑u : Int), AVal.int IntKind.i64 (↑r : Int), AVal.ro (Cont.ints IntKind.i64 ws) ws.length (1 : Nat), AVal.ro (Cont.ints IntKind.i64 cs) cs.length (1 : Nat)] (0 : Nat), AVal.rom [AVal.ro (Cont.ints IntKind.i64 bs) bs.length (1 : Nat)] (0 : Nat)]), ((2 : Nat), AVal.ptr (0 : Nat) (0 : Nat) (0 : Nat)), ((4 : Nat), AVal.ptr (1 : Nat) (0 : Nat) (0 : Nat)), ((6 : Nat), AVal.ptr (3 : Nat) (0 : Nat) (0 : Nat)), ((7 : Nat), AVal.int IntKind.i64 (↑j : Int)), ((22 : Nat), AVal.int IntKind.i64 (↑r : Int)), ((23 : Nat), AVal.int IntKind.i64 (↑j : Int)), ((27 : Nat), AVal.int IntKind.i64 (↑u : Int)), ((28 : Nat), AVal.int IntKind.i64 (0 : Int))] [{ c := BC.cells [AVal.int IntKind.i64 (↑u : Int), AVal.int IntKind.i64 (↑r : Int), AVal.ro (Cont.ints IntKind.i64 ws) ws.length (1 : Nat), AVal.ro (Cont.ints IntKind.i64 cs) cs.length (1 : Nat)], ver := (0 : Nat) }, { c := BC.cells [AVal.int IntKind.i64 (0 : Int), AVal.int IntKind.i64 (0 : Int), AVal.nils, AVal.nils], ver := (0 : Nat) }, { c := BC.typ (Cont.ints IntKind.i64 vs), ver := (0 : Nat) }, { c := BC.cells [AVal.int IntKind.i64 (↑u : Int), AVal.int IntKind.i64 (↑r : Int), AVal.own (2 : Nat) (0 : Nat) wl (0 : Nat) (1 : Nat), AVal.nils], ver := (0 : Nat) }]) else none else bif true && true && (true && true && (true && true && (true && true && true))) then none else none) := by kernel_rfl
theorem round2z (u r : Nat) (ws cs : List Int) (bs : List Int) (vs : List Int) (wl j k : Nat) (f n n2 : Nat) :
  L2 f n (n2 + 1) (mkS 48 [(1, .fn 47 [.rom [.int .i64 u, .int .i64 r, .ro (.ints .i64 ws) ws.length 1, .ro (.ints .i64 cs) cs.length 1] 0, .rom [.ro (.ints .i64 bs) bs.length 1] 0]), (2, .ptr 0 0 0), (4, .ptr 1 0 0), (6, .ptr 3 0 0), (7, .int .i64 j), (22, .int .i64 r), (23, .int .i64 j), (27, .int .i64 u), (28, .int .i64 k)] [⟨.cells [.int .i64 u, .int .i64 r, .ro (.ints .i64 ws) ws.length 1, .ro (.ints .i64 cs) cs.length 1], 0⟩, ⟨.cells [.int .i64 0, .int .i64 0, .nils, .nils], 0⟩, ⟨.typ (.ints .i64 vs), 0⟩, ⟨.cells [.int .i64 u, .int .i64 r, .own 2 0 wl 0 1, .nils], 0⟩])
  = (bif decide ((↑k : Int) < (↑u : Int)) then bif true && true then bif decide (ws.length = ws.length ∧ cs.length = cs.length ∧ bs.length = bs.length ∧ (0 : Int) ≤ (↑j : Int) ∧ (↑j : Int) < (↑r : Int) ∧ (1 : Int) ≤ IntKind.i64.wrap ((↑k : Int) + (1 : Int)) ∧ IntKind.i64.wrap ((↑k : Int) + (1 : Int)) ≤ (↑u : Int)) && mo.ok.sp (↑r : Int) bs && crowd.sp (↑u : Int) (↑r : Int) ws cs && (true && (true && (true && (true && (true && (true && true))) && (true && true && true))) || true && true) then bif (1 : Nat) == (1 : Nat) && (1 : Nat) == (1 : Nat) && (true && true && (decide ((0 : Nat) < (List.take (1 : Nat) (List.drop (0 : Nat) ((List.replicate (1 : Nat) (0 : Int)).set (0 : Nat) (mo.sv (↑u : Int) cs bs (↑j : Int) (IntKind.i64.wrap ((↑k : Int) + (1 : Int))))))).length) && (decide ((List.take (1 : Nat) (List.drop (0 : Nat) ((List.replicate (1 : Nat) (0 : Int)).set (0 : Nat) (mo.sv (↑u : Int) cs bs (↑j : Int) (IntKind.i64.wrap ((↑k : Int) + (1 : Int))))))).length ≤ (4611686018427387904 : Nat)) && decide ((List.take (1 : Nat) (List.drop (0 : Nat) ((List.replicate (1 : Nat) (0 : Int)).set (0 : Nat) (mo.sv (↑u : Int) cs bs (↑j : Int) (IntKind.i64.wrap ((↑k : Int) + (1 : Int))))))).length * (8 : Nat) ≤ (140737488355328 : Nat))))) then bif true && (true && (true && true)) then L2 f n n2 (mkS (48 : Nat) [((1 : Nat), AVal.fn (47 : Nat) [AVal.rom [AVal.int IntKind.i64 (↑u : Int), AVal.int IntKind.i64 (↑r : Int), AVal.ro (Cont.ints IntKind.i64 ws) ws.length (1 : Nat), AVal.ro (Cont.ints IntKind.i64 cs) cs.length (1 : Nat)] (0 : Nat), AVal.rom [AVal.ro (Cont.ints IntKind.i64 bs) bs.length (1 : Nat)] (0 : Nat)]), ((2 : Nat), AVal.ptr (0 : Nat) (0 : Nat) (0 : Nat)), ((4 : Nat), AVal.ptr (1 : Nat) (0 : Nat) (0 : Nat)), ((6 : Nat), AVal.ptr (3 : Nat) (0 : Nat) (0 : Nat)), ((7 : Nat), AVal.int IntKind.i64 (↑j : Int)), ((22 : Nat), AVal.int IntKind.i64 (↑r : Int)), ((23 : Nat), AVal.int IntKind.i64 (↑j : Int)), ((27 : Nat), AVal.int IntKind.i64 (↑u : Int)), ((28 : Nat), AVal.int IntKind.i64 (IntKind.i64.wrap ((↑k : Int) + (1 : Int))))] [{ c := BC.cells [AVal.int IntKind.i64 (↑u : Int), AVal.int IntKind.i64 (↑r : Int), AVal.ro (Cont.ints IntKind.i64 ws) ws.length (1 : Nat), AVal.ro (Cont.ints IntKind.i64 cs) cs.length (1 : Nat)], ver := (0 : Nat) }, { c := BC.cells [AVal.int IntKind.i64 (0 : Int), AVal.int IntKind.i64 (0 : Int), AVal.nils, AVal.nils], ver := (0 : Nat) }, { c := BC.typ (Cont.ints IntKind.i64 vs), ver := (0 : Nat) }, { c := BC.cells [AVal.int IntKind.i64 (↑u : Int), AVal.int IntKind.i64 (↑r : Int), AVal.own (2 : Nat) (0 : Nat) wl (0 : Nat) (1 : Nat), AVal.own ((1 : Nat) + (1 : Nat) + (1 : Nat) + (1 : Nat) + (1 : Nat)) (0 : Nat) (List.take (1 : Nat) (List.drop (0 : Nat) ((List.replicate (1 : Nat) (0 : Int)).set (0 : Nat) (mo.sv (↑u : Int) cs bs (↑j : Int) (IntKind.i64.wrap ((↑k : Int) + (1 : Int))))))).length (0 : Nat) (1 : Nat)], ver := (0 : Nat) }, { c := BC.typ (Cont.ints IntKind.i64 ((List.replicate (1 : Nat) (0 : Int)).set (0 : Nat) (mo.sv (↑u : Int) cs bs (↑j : Int) (IntKind.i64.wrap ((↑k : Int) + (1 : Int)))))), ver := (0 : Nat) }, { c := BC.typ (Cont.ints IntKind.i64 (List.take (1 : Nat) (List.drop (0 : Nat) ((List.replicate (1 : Nat) (0 : Int)).set (0 : Nat) (mo.sv (↑u : Int) cs bs (↑j : Int) (IntKind.i64.wrap ((↑k : Int) + (1 : Int)))))))), ver := (0 : Nat) }]) else none else none else none else none else L1 f n (mkS (48 : Nat) [((1 : Nat), AVal.fn (47 : Nat) [AVal.rom [AVal.int IntKind.i64 (↑u : Int), AVal.int IntKind.i64 (↑r : Int), AVal.ro (Cont.ints IntKind.i64 ws) ws.length (1 : Nat), AVal.ro (Cont.ints IntKind.i64 cs) cs.length (1 : Nat)] (0 : Nat), AVal.rom [AVal.ro (Cont.ints IntKind.i64 bs) bs.length (1 : Nat)] (0 : Nat)]), ((2 : Nat), AVal.ptr (0 : Nat) (0 : Nat) (0 : Nat)), ((4 : Nat), AVal.ptr (1 : Nat) (0 : Nat) (0 : Nat)), ((6 : Nat), AVal.ptr (3 : Nat) (0 : Nat) (0 : Nat)), ((22 : Nat), AVal.int IntKind.i64 (↑r : Int)), ((23 : Nat), AVal.int IntKind.i64 (IntKind.i64.wrap ((↑j : Int) + (1 : Int))))] [{ c := BC.cells [AVal.int IntKind.i64 (↑u : Int), AVal.int IntKind.i64 (↑r : Int), AVal.ro (Cont.ints IntKind.i64 ws) ws.length (1 : Nat), AVal.ro (Cont.ints IntKind.i64 cs) cs.length (1 : Nat)], ver := (0 : Nat) }, { c := BC.cells [AVal.int IntKind.i64 (0 : Int), AVal.int IntKind.i64 (0 : Int), AVal.nils, AVal.nils], ver := (0 : Nat) }, { c := BC.typ (Cont.ints IntKind.i64 vs), ver := (0 : Nat) }, { c := BC.cells [AVal.int IntKind.i64 (↑u : Int), AVal.int IntKind.i64 (↑r : Int), AVal.own (2 : Nat) (0 : Nat) wl (0 : Nat) (1 : Nat), AVal.nils], ver := (0 : Nat) }])) := by kernel_rfl
theorem round1 (u r : Nat) (ws cs : List Int) (bs : List Int) (vs az : List Int) (w : Int) (wl q j : Nat) (f n : Nat) :
  L1 f (n + 1) (mkS 48 [(1, .fn 47 [.rom [.int .i64 u, .int .i64 r, .ro (.ints .i64 ws) ws.length 1, .ro (.ints .i64 cs) cs.length 1] 0, .rom [.ro (.ints .i64 bs) bs.length 1] 0]), (2, .ptr 0 0 0), (4, .ptr 1 0 0), (6, .ptr 3 0 0), (22, .int .i64 r), (23, .int .i64 j)] [⟨.cells [.int .i64 u, .int .i64 r, .ro (.ints .i64 ws) ws.length 1, .ro (.ints .i64 cs) cs.length 1], 0⟩, ⟨.cells [.int .i64 0, .int .i64 0, .nils, .nils], 0⟩, ⟨.typ (.ints .i64 vs), 0⟩, ⟨.cells [.int .i64 u, .int .i64 r, .own 2 0 wl 0 1, .own 5 0 q 0 1], 0⟩, ⟨.typ (.ints .i64 [w]), 0⟩, ⟨.typ (.ints .i64 az), 0⟩])
  = (bif decide ((↑j : Int) < (↑r : Int)) then bif true && true then L2 f n f (mkS (48 : Nat) [((1 : Nat), AVal.fn (47 : Nat) [AVal.rom [AVal.int IntKind.i64 (↑u : Int), AVal.int IntKind.i64 (↑r : Int), AVal.ro (Cont.ints IntKind.i64 ws) ws.length (1 : Nat), AVal.ro (Cont.ints IntKind.i64 cs) cs.length (1 : Nat)] (0 : Nat), AVal.rom [AVal.ro (Cont.ints IntKind.i64 bs) bs.length (1 : Nat)] (0 : Nat)]), ((2 : Nat), AVal.ptr (0 : Nat) (0 : Nat) (0 : Nat)), ((4 : Nat), AVal.ptr (1 : Nat) (0 : Nat) (0 : Nat)), ((6 : Nat), AVal.ptr (3 : Nat) (0 : Nat) (0 : Nat)), ((7 : Nat), AVal.int IntKind.i64 (↑j : Int)), ((22 : Nat), AVal.int IntKind.i64 (↑r : Int)), ((23 : Nat), AVal.int IntKind.i64 (↑j : Int)), ((27 : Nat), AVal.int IntKind.i64 (↑u : Int)), ((28 : Nat), AVal.int IntKind.i64 (0 : Int))] [{ c := BC.cells [AVal.int IntKind.i64 (↑u : Int), AVal.int IntKind.i64 (↑r : Int), AVal.ro (Cont.ints IntKind.i64 ws) ws.length (1 : Nat), AVal.ro (Cont.ints IntKind.i64 cs) cs.length (1 : Nat)], ver := (0 : Nat) }, { c := BC.cells [AVal.int IntKind.i64 (0 : Int), AVal.int IntKind.i64 (0 : Int), AVal.nils, AVal.nils], ver := (0 : Nat) }, { c := BC.typ (Cont.ints IntKind.i64 vs), ver := (0 : Nat) }, { c := BC.cells [AVal.int IntKind.i64 (↑u : Int), AVal.int IntKind.i64 (↑r : Int), AVal.own (2 : Nat) (0 : Nat) wl (0 : Nat) (1 : Nat), AVal.own (5 : Nat) (0 : Nat) q (0 : Nat) (1 : Nat)], ver := (0 : Nat) }, { c := BC.typ (Cont.ints IntKind.i64 [w]), ver := (0 : Nat) }, { c := BC.typ (Cont.ints IntKind.i64 az), ver := (0 : Nat) }]) else none else bif true && true && (true && true && (true && true && (true && true && true))) then bif decide (wl ≤ vs.length ∧ wl ≤ (4611686018427387904 : Nat) ∧ q ≤ az.length ∧ q ≤ (4611686018427387904 : Nat)) && (true && (true && (false && (false && true))) && true || true && true) then bif !crowd.sp (↑u : Int) (↑r : Int) (List.take wl vs) (List.take q az) then some (AVal.tup [AVal.agg [AVal.int IntKind.i64 (0 : Int), AVal.int IntKind.i64 (0 : Int), AVal.nils, AVal.nils], AVal.bool false], []) else bif true && true && (true && true && (true && true && (true && true && true))) then bif true && (true && (true && (true && (true && (true && true))))) then bif true && true && (true && true && (true && true && (true && true && true))) && true then some (AVal.tup [AVal.agg [AVal.int IntKind.i64 (↑u : Int), AVal.int IntKind.i64 (↑r : Int), AVal.ro (Cont.ints IntKind.i64 vs) wl (1 : Nat), AVal.ro (Cont.ints IntKind.i64 az) q (1 : Nat)], AVal.bool true], []) else none else none else none else none else none) := by kernel_rfl
theorem round2 (u r : Nat) (ws cs : List Int) (bs : List Int) (vs az : List Int) (w : Int) (wl q j k : Nat) (f n n2 : Nat) :
  L2 f n (n2 + 1) (mkS 48 [(1, .fn 47 [.rom [.int .i64 u, .int .i64 r, .ro (.ints .i64 ws) ws.length 1, .ro (.ints .i64 cs) cs.length 1] 0, .rom [.ro (.ints .i64 bs) bs.length 1] 0]), (2, .ptr 0 0 0), (4, .ptr 1 0 0), (6, .ptr 3 0 0), (7, .int .i64 j), (22, .int .i64 r), (23, .int .i64 j), (27, .int .i64 u), (28, .int .i64 k)] [⟨.cells [.int .i64 u, .int .i64 r, .ro (.ints .i64 ws) ws.length 1, .ro (.ints .i64 cs) cs.length 1], 0⟩, ⟨.cells [.int .i64 0, .int .i64 0, .nils, .nils], 0⟩, ⟨.typ (.ints .i64 vs), 0⟩, ⟨.cells [.int .i64 u, .int .i64 r, .own 2 0 wl 0 1, .own 5 0 q 0 1], 0⟩, ⟨.typ (.ints .i64 [w]), 0⟩, ⟨.typ (.ints .i64 az), 0⟩])
  = (bif decide ((↑k : Int) < (↑u : Int)) then bif true && true then bif decide (ws.length = ws.length ∧ cs.length = cs.length ∧ bs.length = bs.length ∧ (0 : Int) ≤ (↑j : Int) ∧ (↑j : Int) < (↑r : Int) ∧ (1 : Int) ≤ IntKind.i64.wrap ((↑k : Int) + (1 : Int)) ∧ IntKind.i64.wrap ((↑k : Int) + (1 : Int)) ≤ (↑u : Int)) && mo.ok.sp (↑r : Int) bs && crowd.sp (↑u : Int) (↑r : Int) ws cs && (true && (true && (true && (true && (true && (true && true))) && (true && true && true))) || true && true) then bif (1 : Nat) == (1 : Nat) && (1 : Nat) == (1 : Nat) && (true && (true && true) && (true && true && (decide (q + (List.take (1 : Nat) (List.drop (0 : Nat) ((List.replicate (1 : Nat) (0 : Int)).set (0 : Nat) (mo.sv (↑u : Int) cs bs (↑j : Int) (IntKind.i64.wrap ((↑k : Int) + (1 : Int))))))).length ≤ (4611686018427387904 : Nat)) && decide ((q + (List.take (1 : Nat) (List.drop (0 : Nat) ((List.replicate (1 : Nat) (0 : Int)).set (0 : Nat) (mo.sv (↑u : Int) cs bs (↑j : Int) (IntKind.i64.wrap ((↑k : Int) + (1 : Int))))))).length) * (8 : Nat) ≤ (140737488355328 : Nat))))) then bif true && (true && (true && true)) then L2 f n n2 (mkS (48 : Nat) [((1 : Nat), AVal.fn (47 : Nat) [AVal.rom [AVal.int IntKind.i64 (↑u : Int), AVal.int IntKind.i64 (↑r : Int), AVal.ro (Cont.ints IntKind.i64 ws) ws.length (1 : Nat), AVal.ro (Cont.ints IntKind.i64 cs) cs.length (1 : Nat)] (0 : Nat), AVal.rom [AVal.ro (Cont.ints IntKind.i64 bs) bs.length (1 : Nat)] (0 : Nat)]), ((2 : Nat), AVal.ptr (0 : Nat) (0 : Nat) (0 : Nat)), ((4 : Nat), AVal.ptr (1 : Nat) (0 : Nat) (0 : Nat)), ((6 : Nat), AVal.ptr (3 : Nat) (0 : Nat) (0 : Nat)), ((7 : Nat), AVal.int IntKind.i64 (↑j : Int)), ((22 : Nat), AVal.int IntKind.i64 (↑r : Int)), ((23 : Nat), AVal.int IntKind.i64 (↑j : Int)), ((27 : Nat), AVal.int IntKind.i64 (↑u : Int)), ((28 : Nat), AVal.int IntKind.i64 (IntKind.i64.wrap ((↑k : Int) + (1 : Int))))] [{ c := BC.cells [AVal.int IntKind.i64 (↑u : Int), AVal.int IntKind.i64 (↑r : Int), AVal.ro (Cont.ints IntKind.i64 ws) ws.length (1 : Nat), AVal.ro (Cont.ints IntKind.i64 cs) cs.length (1 : Nat)], ver := (0 : Nat) }, { c := BC.cells [AVal.int IntKind.i64 (0 : Int), AVal.int IntKind.i64 (0 : Int), AVal.nils, AVal.nils], ver := (0 : Nat) }, { c := BC.typ (Cont.ints IntKind.i64 vs), ver := (0 : Nat) }, { c := BC.cells [AVal.int IntKind.i64 (↑u : Int), AVal.int IntKind.i64 (↑r : Int), AVal.own (2 : Nat) (0 : Nat) wl (0 : Nat) (1 : Nat), AVal.own (5 : Nat) (0 : Nat) (q + (List.take (1 : Nat) (List.drop (0 : Nat) ((List.replicate (1 : Nat) (0 : Int)).set (0 : Nat) (mo.sv (↑u : Int) cs bs (↑j : Int) (IntKind.i64.wrap ((↑k : Int) + (1 : Int))))))).length) (0 : Nat) (1 : Nat)], ver := (0 : Nat) }, { c := BC.typ (Cont.ints IntKind.i64 [w]), ver := (0 : Nat) }, { c := BC.typ (Cont.ints IntKind.i64 (List.take q az ++ List.take (1 : Nat) (List.drop (0 : Nat) ((List.replicate (1 : Nat) (0 : Int)).set (0 : Nat) (mo.sv (↑u : Int) cs bs (↑j : Int) (IntKind.i64.wrap ((↑k : Int) + (1 : Int)))))))), ver := (0 : Nat) }]) else none else none else none else none else L1 f n (mkS (48 : Nat) [((1 : Nat), AVal.fn (47 : Nat) [AVal.rom [AVal.int IntKind.i64 (↑u : Int), AVal.int IntKind.i64 (↑r : Int), AVal.ro (Cont.ints IntKind.i64 ws) ws.length (1 : Nat), AVal.ro (Cont.ints IntKind.i64 cs) cs.length (1 : Nat)] (0 : Nat), AVal.rom [AVal.ro (Cont.ints IntKind.i64 bs) bs.length (1 : Nat)] (0 : Nat)]), ((2 : Nat), AVal.ptr (0 : Nat) (0 : Nat) (0 : Nat)), ((4 : Nat), AVal.ptr (1 : Nat) (0 : Nat) (0 : Nat)), ((6 : Nat), AVal.ptr (3 : Nat) (0 : Nat) (0 : Nat)), ((22 : Nat), AVal.int IntKind.i64 (↑r : Int)), ((23 : Nat), AVal.int IntKind.i64 (IntKind.i64.wrap ((↑j : Int) + (1 : Int))))] [{ c := BC.cells [AVal.int IntKind.i64 (↑u : Int), AVal.int IntKind.i64 (↑r : Int), AVal.ro (Cont.ints IntKind.i64 ws) ws.length (1 : Nat), AVal.ro (Cont.ints IntKind.i64 cs) cs.length (1 : Nat)], ver := (0 : Nat) }, { c := BC.cells [AVal.int IntKind.i64 (0 : Int), AVal.int IntKind.i64 (0 : Int), AVal.nils, AVal.nils], ver := (0 : Nat) }, { c := BC.typ (Cont.ints IntKind.i64 vs), ver := (0 : Nat) }, { c := BC.cells [AVal.int IntKind.i64 (↑u : Int), AVal.int IntKind.i64 (↑r : Int), AVal.own (2 : Nat) (0 : Nat) wl (0 : Nat) (1 : Nat), AVal.own (5 : Nat) (0 : Nat) q (0 : Nat) (1 : Nat)], ver := (0 : Nat) }, { c := BC.typ (Cont.ints IntKind.i64 [w]), ver := (0 : Nat) }, { c := BC.typ (Cont.ints IntKind.i64 az), ver := (0 : Nat) }])) := by kernel_rfl
theorem inner (u r : Nat) (ws cs : List Int) (bs : List Int) (w : Int) (f n j : Nat) (hv : crowd.sp u r ws cs = true) (hu : 1 ≤ u ∧ u ≤ 8) (hr : 1 ≤ r ∧ r ≤ 8) (hb : mo.ok.sp (r : Int) bs = true) (hj : j < r) : ∀ (d k n2 : Nat), k + d = u → d < n2 → (j = 0 → 1 ≤ k) →
    L2 f n n2 (mkS 48 [(1, .fn 47 [.rom [.int .i64 u, .int .i64 r, .ro (.ints .i64 ws) ws.length 1, .ro (.ints .i64 cs) cs.length 1] 0, .rom [.ro (.ints .i64 bs) bs.length 1] 0]), (2, .ptr 0 0 0), (4, .ptr 1 0 0), (6, .ptr 3 0 0), (7, .int .i64 ((j : Nat) : Int)), (22, .int .i64 r), (23, .int .i64 ((j : Nat) : Int)), (27, .int .i64 u), (28, .int .i64 ((k : Nat) : Int))] [⟨.cells [.int .i64 u, .int .i64 r, .ro (.ints .i64 ws) ws.length 1, .ro (.ints .i64 cs) cs.length 1], 0⟩, ⟨.cells [.int .i64 0, .int .i64 0, .nils, .nils], 0⟩, ⟨.typ (.ints .i64 ws), 0⟩, ⟨.cells [.int .i64 u, .int .i64 r, .own 2 0 ws.length 0 1, .own 5 0 (j * u + k) 0 1], 0⟩, ⟨.typ (.ints .i64 [w]), 0⟩, ⟨.typ (.ints .i64 (ct.pre (mo.f u cs bs) u j k)), 0⟩]) = L1 f n (mkS 48 [(1, .fn 47 [.rom [.int .i64 u, .int .i64 r, .ro (.ints .i64 ws) ws.length 1, .ro (.ints .i64 cs) cs.length 1] 0, .rom [.ro (.ints .i64 bs) bs.length 1] 0]), (2, .ptr 0 0 0), (4, .ptr 1 0 0), (6, .ptr 3 0 0), (22, .int .i64 r), (23, .int .i64 (((j + 1) : Nat) : Int))] [⟨.cells [.int .i64 u, .int .i64 r, .ro (.ints .i64 ws) ws.length 1, .ro (.ints .i64 cs) cs.length 1], 0⟩, ⟨.cells [.int .i64 0, .int .i64 0, .nils, .nils], 0⟩, ⟨.typ (.ints .i64 ws), 0⟩, ⟨.cells [.int .i64 u, .int .i64 r, .own 2 0 ws.length 0 1, .own 5 0 ((j + 1) * u + 0) 0 1], 0⟩, ⟨.typ (.ints .i64 [w]), 0⟩, ⟨.typ (.ints .i64 (ct.pre (mo.f u cs bs) u (j + 1) 0)), 0⟩]) := by
  intro d
  induction d with
  | zero =>
    intro k n2 hk hn hz
    obtain ⟨n2, rfl⟩ : ∃ k, n2 = k + 1 := ⟨n2 - 1, by omega⟩
    obtain rfl : k = u := by omega
    rw [round2]
    have wj : IntKind.i64.wrap ((j : Int) + 1) = ((j + 1 : Nat) : Int) := wrap_nat j (by omega)
    have e : j * k + k = (j + 1) * k + 0 := by rw [Nat.add_mul, Nat.one_mul]; rfl
    simp -implicitDefEqProofs only [Int.lt_irrefl, wj, ct.pre_next, e, decide_true, decide_false, Bool.and_self, Bool.or_self, Bool.and_true, Bool.true_and, Bool.and_false, Bool.false_and, Bool.or_true, Bool.true_or, Bool.or_false, Bool.false_or, Bool.not_true, Bool.not_false, cond_true, cond_false]
  | succ d ih =>
    intro k n2 hk' hn hz
    obtain ⟨n2, rfl⟩ : ∃ k, n2 = k + 1 := ⟨n2 - 1, by omega⟩
    have hk : k < u := by omega
    have h64 : j * u + k < 64 + 1 := by
      have := ct.ix_lt (R := r) (C := u) hj hk
      have h8 : r * u ≤ 8 * 8 := Nat.mul_le_mul hr.2 hu.2
      omega
    have j0 : (0 : Int) ≤ (j : Int) := Int.natCast_nonneg _
    have j1 : (j : Int) < (r : Int) := by omega
    have k0 : (k : Int) < (u : Int) := by omega
    have wk : IntKind.i64.wrap ((k : Int) + 1) = ((k + 1 : Nat) : Int) := wrap_nat k (by omega)
    have k1 : (1 : Int) ≤ ((k + 1 : Nat) : Int) := by omega
    have k2 : ((k + 1 : Nat) : Int) ≤ (u : Int) := by omega
    have s1 : j * u + k + 1 ≤ 4611686018427387904 := by omega
    have s2 : (j * u + k + 1) * 8 ≤ 140737488355328 := by omega
    have tx : (ct.pre (mo.f u cs bs) u j k).take (j * u + k) = ct.pre (mo.f u cs bs) u j k := List.take_of_length_le (by rw [ct.pre_length]; omega)
    have hih := ih (k + 1) n2 (by omega) (by omega) (by omega)
    rw [← ct.pre_succ] at hih
    rw [round2]
    simp -implicitDefEqProofs only [tx, s1, s2, hv, hb, j0, j1, k0, wk, k1, k2, Int.toNat_natCast, one_set, List.length_singleton, Nat.zero_add, List.replicate_zero, List.take_nil, List.nil_append, Nat.reduceBEq, Nat.lt_irrefl, Nat.le_refl, List.take_length, and_self, eq_self, decide_true, decide_false, Bool.and_self, Bool.or_self, Bool.and_true, Bool.true_and, Bool.and_false, Bool.false_and, Bool.or_true, Bool.true_or, Bool.or_false, Bool.false_or, Bool.not_true, Bool.not_false, cond_true, cond_false]
    exact hih
theorem outer (u r : Nat) (ws cs : List Int) (bs : List Int) (w : Int) (f : Nat) (hv : crowd.sp u r ws cs = true) (hu : 1 ≤ u ∧ u ≤ 8) (hr : 1 ≤ r ∧ r ≤ 8) (hb : mo.ok.sp (r : Int) bs = true) (hw4 : ws.length ≤ 4611686018427387904) (ht : crowd.sp u r ws (ct.tab (mo.f u cs bs) u r) = false) (hf : u < f) : ∀ (d j n : Nat), j + d = r → d < n → 1 ≤ j →
    L1 f n (mkS 48 [(1, .fn 47 [.rom [.int .i64 u, .int .i64 r, .ro (.ints .i64 ws) ws.length 1, .ro (.ints .i64 cs) cs.length 1] 0, .rom [.ro (.ints .i64 bs) bs.length 1] 0]), (2, .ptr 0 0 0), (4, .ptr 1 0 0), (6, .ptr 3 0 0), (22, .int .i64 r), (23, .int .i64 ((j : Nat) : Int))] [⟨.cells [.int .i64 u, .int .i64 r, .ro (.ints .i64 ws) ws.length 1, .ro (.ints .i64 cs) cs.length 1], 0⟩, ⟨.cells [.int .i64 0, .int .i64 0, .nils, .nils], 0⟩, ⟨.typ (.ints .i64 ws), 0⟩, ⟨.cells [.int .i64 u, .int .i64 r, .own 2 0 ws.length 0 1, .own 5 0 (j * u + 0) 0 1], 0⟩, ⟨.typ (.ints .i64 [w]), 0⟩, ⟨.typ (.ints .i64 (ct.pre (mo.f u cs bs) u j 0)), 0⟩]) = some (.tup [.agg [.int .i64 0, .int .i64 0, .nils, .nils], .bool false], []) := by
  intro d
  induction d with
  | zero =>
    intro j n hj hn h1
    obtain ⟨n, rfl⟩ : ∃ k, n = k + 1 := ⟨n - 1, by omega⟩
    obtain rfl : j = r := by omega
    have hlen := ct.pre_length (mo.f u cs bs) u j 0
    have h8 : j * u ≤ 8 * 8 := Nat.mul_le_mul hr.2 hu.2
    have q4 : j * u + 0 ≤ 4611686018427387904 := by omega
    have q5 : j * u + 0 ≤ (ct.pre (mo.f u cs bs) u j 0).length := by omega
    have tx : (ct.pre (mo.f u cs bs) u j 0).take (j * u + 0) = ct.pre (mo.f u cs bs) u j 0 := List.take_of_length_le (by omega)
    unfold ct.tab at ht
    rw [round1]
    simp -implicitDefEqProofs only [Int.lt_irrefl, ct.tab, hw4, q4, q5, tx, hlen, ht, List.take_length, Nat.le_refl, and_self, eq_self, decide_true, decide_false, Bool.and_self, Bool.or_self, Bool.and_true, Bool.true_and, Bool.and_false, Bool.false_and, Bool.or_true, Bool.true_or, Bool.or_false, Bool.false_or, Bool.not_true, Bool.not_false, cond_true, cond_false]
    try rfl
  | succ d ih =>
    intro j n hj' hn h1
    obtain ⟨n, rfl⟩ : ∃ k, n = k + 1 := ⟨n - 1, by omega⟩
    have hj : j < r := by omega
    have hj5 : (j : Int) < (r : Int) := by omega
    rw [round1]
    simp -implicitDefEqProofs only [hj5, decide_true, decide_false, Bool.and_self, Bool.or_self, Bool.and_true, Bool.true_and, Bool.and_false, Bool.false_and, Bool.or_true, Bool.true_or, Bool.or_false, Bool.false_or, Bool.not_true, Bool.not_false, cond_true, cond_false]
    have hin := inner u r ws cs bs w f n j hv hu hr hb hj u 0 f (by omega) hf
    have hout := ih (j + 1) n (by omega) (by omega) (by omega)
    exact (hin (by omega)).trans hout
theorem all (u r : Nat) (ws cs : List Int) (bs : List Int) (f : Nat) (hv : crowd.sp u r ws cs = true) (hu : 1 ≤ u ∧ u ≤ 8) (hr : 1 ≤ r ∧ r ≤ 8) (hb : mo.ok.sp (r : Int) bs = true) (hw4 : ws.length ≤ 4611686018427387904) (ht : crowd.sp u r ws (ct.tab (mo.f u cs bs) u r) = false) (hf : u + r < f) : ∃ w : Int,
    L1 f f (mkS 48 [(1, .fn 47 [.rom [.int .i64 u, .int .i64 r, .ro (.ints .i64 ws) ws.length 1, .ro (.ints .i64 cs) cs.length 1] 0, .rom [.ro (.ints .i64 bs) bs.length 1] 0]), (2, .ptr 0 0 0), (4, .ptr 1 0 0), (6, .ptr 3 0 0), (22, .int .i64 r), (23, .int .i64 0)] [⟨.cells [.int .i64 u, .int .i64 r, .ro (.ints .i64 ws) ws.length 1, .ro (.ints .i64 cs) cs.length 1], 0⟩, ⟨.cells [.int .i64 0, .int .i64 0, .nils, .nils], 0⟩, ⟨.typ (.ints .i64 ws), 0⟩, ⟨.cells [.int .i64 u, .int .i64 r, .own 2 0 ws.length 0 1, .nils], 0⟩]) = some (.tup [.agg [.int .i64 0, .int .i64 0, .nils, .nils], .bool false], []) := by
  obtain ⟨f, rfl⟩ : ∃ k, f = k + 1 := ⟨f - 1, by omega⟩
  refine ⟨(mo.f u cs bs) 0 0, ?_⟩
  have hj5 : ((0 : Nat) : Int) < (r : Int) := by omega
  have hz := round1z u r ws cs bs ws ws.length 0 (f + 1) f
  simp -implicitDefEqProofs only [hj5, decide_true, decide_false, Bool.and_self, Bool.or_self, Bool.and_true, Bool.true_and, Bool.and_false, Bool.false_and, Bool.or_true, Bool.true_or, Bool.or_false, Bool.false_or, Bool.not_true, Bool.not_false, cond_true, cond_false] at hz
  have hz2 : L2 (f + 1) f (f + 1) (mkS 48 [(1, .fn 47 [.rom [.int .i64 u, .int .i64 r, .ro (.ints .i64 ws) ws.length 1, .ro (.ints .i64 cs) cs.length 1] 0, .rom [.ro (.ints .i64 bs) bs.length 1] 0]), (2, .ptr 0 0 0), (4, .ptr 1 0 0), (6, .ptr 3 0 0), (7, .int .i64 ((0 : Nat) : Int)), (22, .int .i64 r), (23, .int .i64 ((0 : Nat) : Int)), (27, .int .i64 u), (28, .int .i64 0)] [⟨.cells [.int .i64 u, .int .i64 r, .ro (.ints .i64 ws) ws.length 1, .ro (.ints .i64 cs) cs.length 1], 0⟩, ⟨.cells [.int .i64 0, .int .i64 0, .nils, .nils], 0⟩, ⟨.typ (.ints .i64 ws), 0⟩, ⟨.cells [.int .i64 u, .int .i64 r, .own 2 0 ws.length 0 1, .nils], 0⟩]) = L2 (f + 1) f f (mkS 48 [(1, .fn 47 [.rom [.int .i64 u, .int .i64 r, .ro (.ints .i64 ws) ws.length 1, .ro (.ints .i64 cs) cs.length 1] 0, .rom [.ro (.ints .i64 bs) bs.length 1] 0]), (2, .ptr 0 0 0), (4, .ptr 1 0 0), (6, .ptr 3 0 0), (7, .int .i64 ((0 : Nat) : Int)), (22, .int .i64 r), (23, .int .i64 ((0 : Nat) : Int)), (27, .int .i64 u), (28, .int .i64 ((1 : Nat) : Int))] [⟨.cells [.int .i64 u, .int .i64 r, .ro (.ints .i64 ws) ws.length 1, .ro (.ints .i64 cs) cs.length 1], 0⟩, ⟨.cells [.int .i64 0, .int .i64 0, .nils, .nils], 0⟩, ⟨.typ (.ints .i64 ws), 0⟩, ⟨.cells [.int .i64 u, .int .i64 r, .own 2 0 ws.length 0 1, .own 5 0 1 0 1], 0⟩, ⟨.typ (.ints .i64 [(mo.f u cs bs) 0 0]), 0⟩, ⟨.typ (.ints .i64 [(mo.f u cs bs) 0 0]), 0⟩]) := by
    obtain ⟨k, hk0⟩ : ∃ k : Nat, k = 0 := ⟨0, rfl⟩
    obtain ⟨j, hj0⟩ : ∃ j : Nat, j = 0 := ⟨0, rfl⟩
    have hk : k < u := by omega
    have hj : j < r := by omega
    have h64 : j * u + k < 64 + 1 := by
      have := ct.ix_lt (R := r) (C := u) hj hk
      have h8 : r * u ≤ 8 * 8 := Nat.mul_le_mul hr.2 hu.2
      omega
    have j0 : (0 : Int) ≤ (j : Int) := Int.natCast_nonneg _
    have j1 : (j : Int) < (r : Int) := by omega
    have k0 : (k : Int) < (u : Int) := by omega
    have wk : IntKind.i64.wrap ((k : Int) + 1) = ((k + 1 : Nat) : Int) := wrap_nat k (by omega)
    have k1 : (1 : Int) ≤ ((k + 1 : Nat) : Int) := by omega
    have k2 : ((k + 1 : Nat) : Int) ≤ (u : Int) := by omega
    have hzz := round2z u r ws cs bs ws ws.length j k (f + 1) f f
    simp -implicitDefEqProofs only [hv, hb, j0, j1, k0, wk, k1, k2, Int.toNat_natCast, one_set, List.length_singleton, Nat.zero_add, List.replicate_zero, List.take_nil, List.nil_append, Nat.reduceBEq, Nat.lt_irrefl, Nat.le_refl, List.take_length, and_self, eq_self, decide_true, decide_false, Bool.and_self, Bool.or_self, Bool.and_true, Bool.true_and, Bool.and_false, Bool.false_and, Bool.or_true, Bool.true_or, Bool.or_false, Bool.false_or, Bool.not_true, Bool.not_false, cond_true, cond_false, Nat.reduceMul, Nat.reduceLeDiff, Nat.reduceLT, Nat.zero_lt_one, Nat.reduceAdd] at hzz
    subst hk0 hj0
    exact hzz
  have hin := inner u r ws cs bs ((mo.f u cs bs) 0 0) (f + 1) f 0 hv hu hr hb (by omega) (u - 1) 1 f (by omega) (by omega) (fun _ => Nat.le_refl _)
  have hout := outer u r ws cs bs ((mo.f u cs bs) 0 0) (f + 1) hv hu hr hb hw4 ht (by omega) (r - 1) 1 f (by omega) (by omega) (Nat.le_refl _)
  have e1 : ct.pre (mo.f u cs bs) u 0 1 = [(mo.f u cs bs) 0 0] := by rw [← ct.pre_succ, ct.pre_zero]; rfl
  have e2 : 0 * u + 1 = 1 := by omega
  rw [e1, e2] at hin
  exact hz.trans (hz2.trans (hin.trans hout))
end turnedMore_f

namespace turnedMore_t
def R : List AVal → Option (Bool × AVal × List Blk)
  | [.agg [.int .i64 u, .int .i64 r, .ro (.ints .i64 ws) mw 1, .ro (.ints .i64 cs) mc 1], .fn ff [.rom [.int .i64 u', .int .i64 r', .ro (.ints .i64 ws') mw' 1, .ro (.ints .i64 cs') mc' 1] 0, .rom [.ro (.ints .i64 bs) bl 1] 0]] => some (decide (mw = ws.length ∧ mc = cs.length ∧ mw ≤ 4611686018427387904 ∧ mc ≤ 4611686018427387904 ∧ ff = 47 ∧ u = u' ∧ r = r' ∧ ws = ws' ∧ cs = cs' ∧ mw' = ws.length ∧ mc' = cs.length ∧ bl = bs.length) && mo.ok.sp r bs && mo.sp u r ws cs bs, .tup [.agg [.int .i64 u, .int .i64 r, .own 0 0 ws.length 0 1, .own 1 0 (mo.t.sv u r cs bs).length 0 1], .bool true], [⟨.typ (.ints .i64 ws), 0⟩, ⟨.typ (.ints .i64 (mo.t.sv u r cs bs)), 0⟩])
  | _ => none
theorem run : ∀ args v new, R args = some (true, v, new) → ∃ fuel, regc [2, 5] (runFn Try.prog (orc [⟨51, iValidCrowd.R⟩, ⟨55, slClone.R⟩, ⟨47, more1.R⟩]) hd dr none fuel (bodyOf Try.f42) 48 [.cell 4 26, .tmp 5] args []) = some (v, new) := by
  intro args v new h
  unfold R at h
  split at h
  · rename_i u r ws mw cs mc ff u' r' ws' mw' cs' mc' bs bl
    simp only [Option.some.injEq, Prod.mk.injEq, Bool.and_eq_true, decide_eq_true_eq, Bool.not_eq_true'] at h
    obtain ⟨⟨⟨⟨rfl, rfl, h3, h4, rfl, rfl, rfl, rfl, rfl, rfl, rfl, rfl⟩, hb⟩, hs⟩, rfl, rfl⟩ := h
    obtain ⟨F, hF⟩ : ∃ F : Nat, F = 100 := ⟨100, rfl⟩
    refine ⟨F, ?_⟩
    rw [start]
    simp only [mo.sp, Bool.and_eq_true] at hs
    obtain ⟨hv, ht⟩ := hs
    have hv2 := hv
    obtain ⟨u, r, rfl, rfl, hu, hr, hw, hl, vc⟩ := ct.valid hv2
    obtain ⟨w, hall⟩ := all u r ws cs bs F hv hu hr hb h3 (by simpa only [mo.t.sv, Int.toNat_natCast] using ht) (by omega)
    have l0 : 0 < ws.length := hw.1
    have l1 : ws.length ≤ 1048576 := by omega
    have lt : (mo.t.sv (u : Int) (r : Int) cs bs).length = r * u + 0 := by unfold mo.t.sv ct.tab; rw [ct.pre_length]; rfl
    rw [lt]
    simp -implicitDefEqProofs only [h3, h4, hv, hb, l0, l1, List.take_length, Nat.le_refl, and_self, eq_self, decide_true, decide_false, Bool.and_self, Bool.or_self, Bool.and_true, Bool.true_and, Bool.and_false, Bool.false_and, Bool.or_true, Bool.true_or, Bool.or_false, Bool.false_or, Bool.not_true, Bool.not_false, cond_true, cond_false]
    exact (congrArg (regc [2, 5]) hall).trans rfl
  · cases h
theorem ok : EntOk Try.prog ⟨42, R⟩ :=
  ent_okAG (ks := [2, 5]) mixed (A := (orc [⟨51, iValidCrowd.R⟩, ⟨55, slClone.R⟩, ⟨47, more1.R⟩])) (orc_ok (by simp only [List.mem_cons, List.not_mem_nil, or_false, forall_eq_or_imp, forall_eq]; exact ⟨iValidCrowd.ok, slClone.ok, more1.ok⟩)) Try.func42 (by kernel_rfl) (by kernel_rfl) (n := 48) (ts := [.cell 4 26, .tmp 5]) (hd := hd) (dr := dr) (cut := none) (by kernel_rfl) (by kernel_rfl) (by kernel_rfl) run
end turnedMore_t

namespace turnedMore_f
def R : List AVal → Option (Bool × AVal × List Blk)
  | [.agg [.int .i64 u, .int .i64 r, .ro (.ints .i64 ws) mw 1, .ro (.ints .i64 cs) mc 1], .fn ff [.rom [.int .i64 u', .int .i64 r', .ro (.ints .i64 ws') mw' 1, .ro (.ints .i64 cs') mc' 1] 0, .rom [.ro (.ints .i64 bs) bl 1] 0]] => some (decide (mw = ws.length ∧ mc = cs.length ∧ mw ≤ 4611686018427387904 ∧ mc ≤ 4611686018427387904 ∧ ff = 47 ∧ u = u' ∧ r = r' ∧ ws = ws' ∧ cs = cs' ∧ mw' = ws.length ∧ mc' = cs.length ∧ bl = bs.length) && mo.ok.sp r bs && !mo.sp u r ws cs bs, .tup [.agg [.int .i64 0, .int .i64 0, .nils, .nils], .bool false], [])
  | _ => none
theorem run : ∀ args v new, R args = some (true, v, new) → ∃ fuel, runFn Try.prog (orc [⟨51, iValidCrowd.R⟩, ⟨55, slClone.R⟩, ⟨47, more1.R⟩]) hd dr (some 0) fuel (bodyOf Try.f42) 48 [.cell 4 26, .tmp 5] args [] = some (v, new) := by
  intro args v new h
  unfold R at h
  split at h
  · rename_i u r ws mw cs mc ff u' r' ws' mw' cs' mc' bs bl
    simp only [Option.some.injEq, Prod.mk.injEq, Bool.and_eq_true, decide_eq_true_eq, Bool.not_eq_true'] at h
    obtain ⟨⟨⟨⟨rfl, rfl, h3, h4, rfl, rfl, rfl, rfl, rfl, rfl, rfl, rfl⟩, hb⟩, hs⟩, rfl, rfl⟩ := h
    obtain ⟨F, hF⟩ : ∃ F : Nat, F = 100 := ⟨100, rfl⟩
    refine ⟨F, ?_⟩
    rw [start]
    simp only [mo.sp] at hs
    cases hv : crowd.sp u r ws cs
    · simp -implicitDefEqProofs only [h3, h4, hv, List.take_length, Nat.le_refl, and_self, eq_self, decide_true, decide_false, Bool.and_self, Bool.or_self, Bool.and_true, Bool.true_and, Bool.and_false, Bool.false_and, Bool.or_true, Bool.true_or, Bool.or_false, Bool.false_or, Bool.not_true, Bool.not_false, cond_true, cond_false]
    · rw [hv, Bool.true_and] at hs
      have hv2 := hv
      obtain ⟨u, r, rfl, rfl, hu, hr, hw, hl, vc⟩ := ct.valid hv2
      obtain ⟨w, hall⟩ := all u r ws cs bs F hv hu hr hb h3 (by simpa only [mo.t.sv, Int.toNat_natCast] using hs) (by omega)
      have l0 : 0 < ws.length := hw.1
      have l1 : ws.length ≤ 1048576 := by omega
      simp -implicitDefEqProofs only [h3, h4, hv, hb, l0, l1, List.take_length, Nat.le_refl, and_self, eq_self, decide_true, decide_false, Bool.and_self, Bool.or_self, Bool.and_true, Bool.true_and, Bool.and_false, Bool.false_and, Bool.or_true, Bool.true_or, Bool.or_false, Bool.false_or, Bool.not_true, Bool.not_false, cond_true, cond_false]
      exact hall
  · cases h
theorem ok : EntOk Try.prog ⟨42, R⟩ :=
  ent_okA mixed (A := (orc [⟨51, iValidCrowd.R⟩, ⟨55, slClone.R⟩, ⟨47, more1.R⟩])) (orc_ok (by simp only [List.mem_cons, List.not_mem_nil, or_false, forall_eq_or_imp, forall_eq]; exact ⟨iValidCrowd.ok, slClone.ok, more1.ok⟩)) Try.func42 (by kernel_rfl) (by kernel_rfl) (n := 48) (ts := [.cell 4 26, .tmp 5]) (hd := hd) (dr := dr) (cut := (some 0)) (by kernel_rfl) (by kernel_rfl) (by kernel_rfl) run
end turnedMore_f

namespace sMore_t
def hd : Nat → Head := fun i => bif eqN i 2 then ⟨[1, 2, 4, 5, 6, 7, 8], some 5⟩ else ⟨[1, 2, 4, 5, 6, 7], some 5⟩
noncomputable def L1 (f n : Nat) (s : State) := loopAt Try.prog (orcW [⟨41, l06Give_t.R⟩] [⟨38, l06Is.R⟩, ⟨39, l06Own.R⟩, ⟨45, l00In.R⟩]) hd Dr.std 0 f (bodyOf Try.f16) 0 [true, true, true, false, true] (retK Try.prog [.cell 4 26, .tmp 5] 0 none) n s
noncomputable def L2 (f n n2 : Nat) (s : State) := loopAt Try.prog (orcW [⟨41, l06Give_t.R⟩] [⟨38, l06Is.R⟩, ⟨39, l06Own.R⟩, ⟨45, l00In.R⟩]) hd Dr.std 0 f (bodyAt (bodyOf Try.f16) [true, true, true, false, true]) (curAt (bodyOf Try.f16) 0 [true, true, true, false, true]) [true, false, true, true] (iterK (normE 0 (hd (curAt (bodyOf Try.f16) 0 [true, true, true, false, true]))) (L1 f n) (contAt Try.prog (orcW [⟨41, l06Give_t.R⟩] [⟨38, l06Is.R⟩, ⟨39, l06Own.R⟩, ⟨45, l00In.R⟩]) hd Dr.std 0 f (bodyOf Try.f16) 0 [true, true, true, false, true] (retK Try.prog [.cell 4 26, .tmp 5] 0 none))) n2 s
theorem start (u r : Int) (ws cs : List Int) (bs : List Int) (f : Nat) :
  runFn Try.prog (orcW [⟨41, l06Give_t.R⟩] [⟨38, l06Is.R⟩, ⟨39, l06Own.R⟩, ⟨45, l00In.R⟩]) hd Dr.std none f (bodyOf Try.f16) 59 [.cell 4 26, .tmp 5] [.agg [.int .i64 u, .int .i64 r, .ro (.ints .i64 ws) ws.length 1, .ro (.ints .i64 cs) cs.length 1], .ro (.ints .i64 bs) bs.length 1] []
  = (bif decide (ws.length ≤ ws.length ∧ ws.length ≤ (4611686018427387904 : Nat) ∧ cs.length ≤ cs.length ∧ cs.length ≤ (4611686018427387904 : Nat)) && (false || true && true) then bif !crowd.sp u r (List.take ws.length ws) (List.take cs.length cs) then some (AVal.tup [AVal.agg [AVal.int IntKind.i64 (0 : Int), AVal.int IntKind.i64 (0 : Int), AVal.nils, AVal.nils], AVal.bool false], [{ c := BC.cells [AVal.int IntKind.i64 u, AVal.int IntKind.i64 r, AVal.ro (Cont.ints IntKind.i64 ws) ws.length (1 : Nat), AVal.ro (Cont.ints IntKind.i64 cs) cs.length (1 : Nat)], ver := (0 : Nat) }, { c := BC.cells [AVal.int IntKind.i64 (0 : Int), AVal.int IntKind.i64 (0 : Int), AVal.nils, AVal.nils], ver := (0 : Nat) }]) else bif true && true then bif (↑bs.length : Int) != r then some (AVal.tup [AVal.agg [AVal.int IntKind.i64 (0 : Int), AVal.int IntKind.i64 (0 : Int), AVal.nils, AVal.nils], AVal.bool false], [{ c := BC.cells [AVal.int IntKind.i64 u, AVal.int IntKind.i64 r, AVal.ro (Cont.ints IntKind.i64 ws) ws.length (1 : Nat), AVal.ro (Cont.ints IntKind.i64 cs) cs.length (1 : Nat)], ver := (0 : Nat) }, { c := BC.cells [AVal.int IntKind.i64 (0 : Int), AVal.int IntKind.i64 (0 : Int), AVal.nils, AVal.nils], ver := (0 : Nat) }]) else bif decide (ws.length = ws.length ∧ cs.length = cs.length ∧ ws.length ≤ (1048576 : Nat) ∧ cs.length ≤ (1048576 : Nat)) && (false || true && (true && (true && (true && true))) && (true && (true && true))) then bif true && (true && (true && (true && (true && (true && true))))) then L1 f f (mkS (59 : Nat) [((1 : Nat), AVal.ro (Cont.ints IntKind.i64 bs) bs.length (1 : Nat)), ((2 : Nat), AVal.ptr (0 : Nat) (0 : Nat) (0 : Nat)), ((4 : Nat), AVal.ptr (1 : Nat) (0 : Nat) (0 : Nat)), ((5 : Nat), AVal.bool false), ((6 : Nat), AVal.ptr ((1 : Nat) + (1 : Nat) + (1 : Nat) + (1 : Nat)) (0 : Nat) (0 : Nat)), ((7 : Nat), AVal.int IntKind.i64 (0 : Int))] [{ c := BC.cells [AVal.int IntKind.i64 u, AVal.int IntKind.i64 r, AVal.ro (Cont.ints IntKind.i64 ws) ws.length (1 : Nat), AVal.ro (Cont.ints IntKind.i64 cs) cs.length (1 : Nat)], ver := (0 : Nat) }, { c := BC.cells [AVal.int IntKind.i64 (0 : Int), AVal.int IntKind.i64 (0 : Int), AVal.nils, AVal.nils], ver := (0 : Nat) }, { c := BC.typ (Cont.ints IntKind.i64 ws), ver := (0 : Nat) }, { c := BC.typ (Cont.ints IntKind.i64 cs), ver := (0 : Nat) }, { c := BC.cells [AVal.int IntKind.i64 u, AVal.int IntKind.i64 r, AVal.own (2 : Nat) (0 : Nat) ws.length (0 : Nat) (1 : Nat), AVal.own (3 : Nat) (0 : Nat) cs.length (0 : Nat) (1 : Nat)], ver := (0 : Nat) }]) else none else none else none else none) := by kernel_rfl
theorem round1 (u r : Nat) (ws cs : List Int) (bs : List Int) (az : List Int) (wl cl j : Nat) (f n : Nat) :
  L1 f (n + 1) (mkS 59 [(1, .ro (.ints .i64 bs) bs.length 1), (2, .ptr 0 0 0), (4, .ptr 1 0 0), (5, .bool false), (6, .ptr 4 0 0), (7, .int .i64 j)] [⟨.cells [.int .i64 u, .int .i64 r, .ro (.ints .i64 ws) ws.length 1, .ro (.ints .i64 cs) cs.length 1], 0⟩, ⟨.cells [.int .i64 0, .int .i64 0, .nils, .nils], 0⟩, ⟨.typ (.ints .i64 ws), 0⟩, ⟨.typ (.ints .i64 az), 0⟩, ⟨.cells [.int .i64 u, .int .i64 r, .own 2 0 wl 0 1, .own 3 0 cl 0 1], 0⟩])
  = (bif true && true then bif decide ((↑j : Int) < (↑r : Int)) then bif true && (decide ((0 : Int) ≤ (↑j : Int)) && decide ((↑j : Int) < (↑bs.length : Int))) then bif decide ((↑j : Int).toNat < bs.length) then bif true && (true && true || true && true) then bif !(decide ((-100000 : Int) ≤ gz bs (↑j : Int).toNat) && decide (gz bs (↑j : Int).toNat ≤ (100000 : Int))) then some (AVal.tup [AVal.agg [AVal.int IntKind.i64 (0 : Int), AVal.int IntKind.i64 (0 : Int), AVal.nils, AVal.nils], AVal.bool false], [{ c := BC.cells [AVal.int IntKind.i64 (↑u : Int), AVal.int IntKind.i64 (↑r : Int), AVal.ro (Cont.ints IntKind.i64 ws) ws.length (1 : Nat), AVal.ro (Cont.ints IntKind.i64 cs) cs.length (1 : Nat)], ver := (0 : Nat) }, { c := BC.cells [AVal.int IntKind.i64 (0 : Int), AVal.int IntKind.i64 (0 : Int), AVal.nils, AVal.nils], ver := (0 : Nat) }, { c := BC.typ (Cont.ints IntKind.i64 ws), ver := (0 : Nat) }, { c := BC.typ (Cont.ints IntKind.i64 az), ver := (0 : Nat) }, { c := BC.cells [AVal.int IntKind.i64 (↑u : Int), AVal.int IntKind.i64 (↑r : Int), AVal.own (2 : Nat) (0 : Nat) wl (0 : Nat) (1 : Nat), AVal.own (3 : Nat) (0 : Nat) cl (0 : Nat) (1 : Nat)], ver := (0 : Nat) }]) else L2 f n f (mkS (59 : Nat) [((1 : Nat), AVal.ro (Cont.ints IntKind.i64 bs) bs.length (1 : Nat)), ((2 : Nat), AVal.ptr (0 : Nat) (0 : Nat) (0 : Nat)), ((4 : Nat), AVal.ptr (1 : Nat) (0 : Nat) (0 : Nat)), ((5 : Nat), AVal.bool false), ((6 : Nat), AVal.ptr (4 : Nat) (0 : Nat) (0 : Nat)), ((7 : Nat), AVal.int IntKind.i64 (↑j : Int)), ((8 : Nat), AVal.int IntKind.i64 (0 : Int))] [{ c := BC.cells [AVal.int IntKind.i64 (↑u : Int), AVal.int IntKind.i64 (↑r : Int), AVal.ro (Cont.ints IntKind.i64 ws) ws.length (1 : Nat), AVal.ro (Cont.ints IntKind.i64 cs) cs.length (1 : Nat)], ver := (0 : Nat) }, { c := BC.cells [AVal.int IntKind.i64 (0 : Int), AVal.int IntKind.i64 (0 : Int), AVal.nils, AVal.nils], ver := (0 : Nat) }, { c := BC.typ (Cont.ints IntKind.i64 ws), ver := (0 : Nat) }, { c := BC.typ (Cont.ints IntKind.i64 az), ver := (0 : Nat) }, { c := BC.cells [AVal.int IntKind.i64 (↑u : Int), AVal.int IntKind.i64 (↑r : Int), AVal.own (2 : Nat) (0 : Nat) wl (0 : Nat) (1 : Nat), AVal.own (3 : Nat) (0 : Nat) cl (0 : Nat) (1 : Nat)], ver := (0 : Nat) }]) else none else none else none else bif true && true && (true && true && (true && true && (true && true && true))) then bif decide (wl = ws.length ∧ cl = az.length ∧ wl ≤ (4611686018427387904 : Nat) ∧ cl ≤ (4611686018427387904 : Nat)) && crowd.sp (↑u : Int) (↑r : Int) ws az && (true && (true && (true && true))) then bif true && (true && (true && (true && (true && (true && true))))) then bif true && true && (true && true && (true && true && (true && true && true))) && true then some (AVal.tup [AVal.agg [AVal.int IntKind.i64 (↑u : Int), AVal.int IntKind.i64 (↑r : Int), AVal.own (2 : Nat) (0 : Nat) wl (0 : Nat) (1 : Nat), AVal.own (3 : Nat) (0 : Nat) cl (0 : Nat) (1 : Nat)], AVal.bool true], [{ c := BC.cells [AVal.int IntKind.i64 (↑u : Int), AVal.int IntKind.i64 (↑r : Int), AVal.ro (Cont.ints IntKind.i64 ws) ws.length (1 : Nat), AVal.ro (Cont.ints IntKind.i64 cs) cs.length (1 : Nat)], ver := (0 : Nat) }, { c := BC.cells [AVal.int IntKind.i64 (↑u : Int), AVal.int IntKind.i64 (↑r : Int), AVal.own (2 : Nat) (0 : Nat) wl (0 : Nat) (1 : Nat), AVal.own (3 : Nat) (0 : Nat) cl (0 : Nat) (1 : Nat)], ver := (0 : Nat) }, { c := BC.typ (Cont.ints IntKind.i64 ws), ver := (0 : Nat) }, { c := BC.typ (Cont.ints IntKind.i64 az), ver := (0 : Nat) }, { c := BC.cells [AVal.int IntKind.i64 (↑u : Int), AVal.int IntKind.i64 (↑r : Int), AVal.own (2 : Nat) (0 : Nat) wl (0 : Nat) (1 : Nat), AVal.own (3 : Nat) (0 : Nat) cl (0 : Nat) (1 : Nat)], ver := (0 : Nat) }]) else none else none else none else none else none) := by kernel_rfl
theorem round2 (u r : Nat) (ws cs : List Int) (bs : List Int) (az : List Int) (wl cl j k : Nat) (f n n2 : Nat) :
  L2 f n (n2 + 1) (mkS 59 [(1, .ro (.ints .i64 bs) bs.length 1), (2, .ptr 0 0 0), (4, .ptr 1 0 0), (5, .bool false), (6, .ptr 4 0 0), (7, .int .i64 j), (8, .int .i64 k)] [⟨.cells [.int .i64 u, .int .i64 r, .ro (.ints .i64 ws) ws.length 1, .ro (.ints .i64 cs) cs.length 1], 0⟩, ⟨.cells [.int .i64 0, .int .i64 0, .nils, .nils], 0⟩, ⟨.typ (.ints .i64 ws), 0⟩, ⟨.typ (.ints .i64 az), 0⟩, ⟨.cells [.int .i64 u, .int .i64 r, .own 2 0 wl 0 1, .own 3 0 cl 0 1], 0⟩])
  = (bif true && true then bif decide ((↑k : Int) < (↑u : Int)) then bif true && true then bif true && true then bif true && (decide ((0 : Int) ≤ IntKind.i64.wrap (IntKind.i64.wrap ((↑j : Int) * (↑u : Int)) + (↑k : Int))) && decide (IntKind.i64.wrap (IntKind.i64.wrap ((↑j : Int) * (↑u : Int)) + (↑k : Int)) < (↑cl : Int))) then bif true && decide ((IntKind.i64.wrap (IntKind.i64.wrap ((↑j : Int) * (↑u : Int)) + (↑k : Int))).toNat < az.length) then bif true && (decide ((0 : Int) ≤ (↑j : Int)) && decide ((↑j : Int) < (↑bs.length : Int))) then bif decide ((↑j : Int).toNat < bs.length) then bif true && (decide ((0 : Int) ≤ IntKind.i64.wrap (IntKind.i64.wrap ((↑j : Int) * (↑u : Int)) + (↑k : Int))) && decide (IntKind.i64.wrap (IntKind.i64.wrap ((↑j : Int) * (↑u : Int)) + (↑k : Int)) < (↑cl : Int))) then bif true && (true && (decide ((IntKind.i64.wrap (IntKind.i64.wrap ((↑j : Int) * (↑u : Int)) + (↑k : Int))).toNat < az.length) && true)) then L2 f n n2 (mkS (59 : Nat) [((1 : Nat), AVal.ro (Cont.ints IntKind.i64 bs) bs.length (1 : Nat)), ((2 : Nat), AVal.ptr (0 : Nat) (0 : Nat) (0 : Nat)), ((4 : Nat), AVal.ptr (1 : Nat) (0 : Nat) (0 : Nat)), ((5 : Nat), AVal.bool false), ((6 : Nat), AVal.ptr (4 : Nat) (0 : Nat) (0 : Nat)), ((7 : Nat), AVal.int IntKind.i64 (↑j : Int)), ((8 : Nat), AVal.int IntKind.i64 (IntKind.i64.wrap ((↑k : Int) + (1 : Int))))] [{ c := BC.cells [AVal.int IntKind.i64 (↑u : Int), AVal.int IntKind.i64 (↑r : Int), AVal.ro (Cont.ints IntKind.i64 ws) ws.length (1 : Nat), AVal.ro (Cont.ints IntKind.i64 cs) cs.length (1 : Nat)], ver := (0 : Nat) }, { c := BC.cells [AVal.int IntKind.i64 (0 : Int), AVal.int IntKind.i64 (0 : Int), AVal.nils, AVal.nils], ver := (0 : Nat) }, { c := BC.typ (Cont.ints IntKind.i64 ws), ver := (0 : Nat) }, { c := BC.typ (Cont.ints IntKind.i64 (az.set (IntKind.i64.wrap (IntKind.i64.wrap ((↑j : Int) * (↑u : Int)) + (↑k : Int))).toNat (IntKind.i64.wrap (gz az (IntKind.i64.wrap (IntKind.i64.wrap ((↑j : Int) * (↑u : Int)) + (↑k : Int))).toNat + gz bs (↑j : Int).toNat)))), ver := (0 : Nat) }, { c := BC.cells [AVal.int IntKind.i64 (↑u : Int), AVal.int IntKind.i64 (↑r : Int), AVal.own (2 : Nat) (0 : Nat) wl (0 : Nat) (1 : Nat), AVal.own (3 : Nat) (0 : Nat) cl (0 : Nat) (1 : Nat)], ver := (0 : Nat) }]) else none else none else none else none else none else none else none else none else L1 f n (mkS (59 : Nat) [((1 : Nat), AVal.ro (Cont.ints IntKind.i64 bs) bs.length (1 : Nat)), ((2 : Nat), AVal.ptr (0 : Nat) (0 : Nat) (0 : Nat)), ((4 : Nat), AVal.ptr (1 : Nat) (0 : Nat) (0 : Nat)), ((5 : Nat), AVal.bool false), ((6 : Nat), AVal.ptr (4 : Nat) (0 : Nat) (0 : Nat)), ((7 : Nat), AVal.int IntKind.i64 (IntKind.i64.wrap ((↑j : Int) + (1 : Int))))] [{ c := BC.cells [AVal.int IntKind.i64 (↑u : Int), AVal.int IntKind.i64 (↑r : Int), AVal.ro (Cont.ints IntKind.i64 ws) ws.length (1 : Nat), AVal.ro (Cont.ints IntKind.i64 cs) cs.length (1 : Nat)], ver := (0 : Nat) }, { c := BC.cells [AVal.int IntKind.i64 (0 : Int), AVal.int IntKind.i64 (0 : Int), AVal.nils, AVal.nils], ver := (0 : Nat) }, { c := BC.typ (Cont.ints IntKind.i64 ws), ver := (0 : Nat) }, { c := BC.typ (Cont.ints IntKind.i64 az), ver := (0 : Nat) }, { c := BC.cells [AVal.int IntKind.i64 (↑u : Int), AVal.int IntKind.i64 (↑r : Int), AVal.own (2 : Nat) (0 : Nat) wl (0 : Nat) (1 : Nat), AVal.own (3 : Nat) (0 : Nat) cl (0 : Nat) (1 : Nat)], ver := (0 : Nat) }]) else none) := by kernel_rfl
theorem inner (u r : Nat) (ws cs : List Int) (bs : List Int) (f n j : Nat) (hv : crowd.sp u r ws cs = true) (hu : 1 ≤ u ∧ u ≤ 8) (hr : 1 ≤ r ∧ r ≤ 8) (hl : cs.length = r * u) (vc : ∀ x ∈ cs, -100000 ≤ x ∧ x ≤ 100000) (hbl : bs.length = r) (hj : j < r) (hbj : -100000 ≤ gz bs j ∧ gz bs j ≤ 100000) : ∀ (d k n2 : Nat), k + d = u → d < n2 →
    L2 f n n2 (mkS 59 [(1, .ro (.ints .i64 bs) bs.length 1), (2, .ptr 0 0 0), (4, .ptr 1 0 0), (5, .bool false), (6, .ptr 4 0 0), (7, .int .i64 ((j : Nat) : Int)), (8, .int .i64 ((k : Nat) : Int))] [⟨.cells [.int .i64 u, .int .i64 r, .ro (.ints .i64 ws) ws.length 1, .ro (.ints .i64 cs) cs.length 1], 0⟩, ⟨.cells [.int .i64 0, .int .i64 0, .nils, .nils], 0⟩, ⟨.typ (.ints .i64 ws), 0⟩, ⟨.typ (.ints .i64 (ct.pre (mo.f u cs bs) u j k ++ cs.drop (j * u + k))), 0⟩, ⟨.cells [.int .i64 u, .int .i64 r, .own 2 0 ws.length 0 1, .own 3 0 cs.length 0 1], 0⟩]) = L1 f n (mkS 59 [(1, .ro (.ints .i64 bs) bs.length 1), (2, .ptr 0 0 0), (4, .ptr 1 0 0), (5, .bool false), (6, .ptr 4 0 0), (7, .int .i64 (((j + 1) : Nat) : Int))] [⟨.cells [.int .i64 u, .int .i64 r, .ro (.ints .i64 ws) ws.length 1, .ro (.ints .i64 cs) cs.length 1], 0⟩, ⟨.cells [.int .i64 0, .int .i64 0, .nils, .nils], 0⟩, ⟨.typ (.ints .i64 ws), 0⟩, ⟨.typ (.ints .i64 (ct.pre (mo.f u cs bs) u (j + 1) 0 ++ cs.drop ((j + 1) * u + 0))), 0⟩, ⟨.cells [.int .i64 u, .int .i64 r, .own 2 0 ws.length 0 1, .own 3 0 cs.length 0 1], 0⟩]) := by
  have h64 : r * u ≤ 8 * 8 := Nat.mul_le_mul hr.2 hu.2
  intro d
  induction d with
  | zero =>
    intro k n2 hk hn
    obtain ⟨n2, rfl⟩ : ∃ k, n2 = k + 1 := ⟨n2 - 1, by omega⟩
    obtain rfl : k = u := by omega
    rw [round2]
    have wj : IntKind.i64.wrap ((j : Int) + 1) = ((j + 1 : Nat) : Int) := wrap_nat j (by omega)
    have e : j * k + k = (j + 1) * k + 0 := by rw [Nat.add_mul, Nat.one_mul]; rfl
    simp -implicitDefEqProofs only [Int.lt_irrefl, wj, ct.pre_next, e, decide_true, decide_false, Bool.and_self, Bool.or_self, Bool.and_true, Bool.true_and, Bool.and_false, Bool.false_and, Bool.or_true, Bool.true_or, Bool.or_false, Bool.false_or, Bool.not_true, Bool.not_false, cond_true, cond_false]
  | succ d ih =>
    intro k n2 hk' hn
    obtain ⟨n2, rfl⟩ : ∃ k, n2 = k + 1 := ⟨n2 - 1, by omega⟩
    have hk : k < u := by omega
    have hlt := ct.ix_lt (R := r) (C := u) hj hk
    have hih := ih (k + 1) n2 (by omega) (by omega)
    have c : (k : Int) < (u : Int) := by omega
    have hjk : ((j * u : Nat) : Int) = (j : Int) * (u : Int) := Int.natCast_mul _ _
    have b1 := mo.bnd vc (u : Int) (j : Int) ((k + 1 : Nat) : Int)
    have w0 : IntKind.i64.wrap ((j : Int) * (u : Int)) = ((j * u : Nat) : Int) := by rw [IntWalk.i64_in _ (by omega)]; omega
    have w1 : IntKind.i64.wrap (((j * u : Nat) : Int) + (k : Int)) = ((j * u + k : Nat) : Int) := by rw [IntWalk.i64_in _ (by omega)]; omega
    have w4 : IntKind.i64.wrap ((k : Int) + 1) = ((k + 1 : Nat) : Int) := wrap_nat k (by omega)
    have q0 : (0 : Int) ≤ ((j * u + k : Nat) : Int) := Int.natCast_nonneg _
    have q1 : ((j * u + k : Nat) : Int) < (cs.length : Int) := by omega
    have q2 : j * u + k < (ct.pre (mo.f (u : Int) cs bs) u j k ++ cs.drop (j * u + k)).length := by rw [List.length_append, ct.pre_length, List.length_drop]; omega
    have j0 : (0 : Int) ≤ (j : Int) := Int.natCast_nonneg _
    have j1 : (j : Int) < (bs.length : Int) := by omega
    have j2 : j < bs.length := by omega
    have at0 : gz (ct.pre (mo.f (u : Int) cs bs) u j k ++ cs.drop (j * u + k)) (j * u + k) = pot.cost.sv (u : Int) cs (j : Int) ((k + 1 : Nat) : Int) := by
      rw [gz_eq q2, List.getElem_append_right (by rw [ct.pre_length]; exact Nat.le_refl _)]
      unfold pot.cost.sv
      have e : ((j : Int) * (u : Int) + ((k + 1 : Nat) : Int) - 1).toNat = j * u + k := by omega
      rw [e, gz_eq (by omega)]
      simp only [ct.pre_length, Nat.sub_self, List.getElem_drop, Nat.add_zero]
    have key : IntKind.i64.wrap (gz (ct.pre (mo.f (u : Int) cs bs) u j k ++ cs.drop (j * u + k)) (j * u + k) + gz bs j) = mo.f (u : Int) cs bs j k := by
      rw [at0, IntWalk.i64_in _ (by omega)]
      unfold mo.f mo.sv
      rw [Int.toNat_natCast]
    have ov : (ct.pre (mo.f (u : Int) cs bs) u j k ++ cs.drop (j * u + k)).set (j * u + k) (mo.f (u : Int) cs bs j k) = ct.pre (mo.f (u : Int) cs bs) u j (k + 1) ++ cs.drop (j * u + (k + 1)) := by
      rw [tl.over (ct.pre_length _ _ _ _) (by omega), ct.pre_succ]; rfl
    rw [round2]
    simp -implicitDefEqProofs only [c, w0, w1, w4, q0, q1, q2, j0, j1, j2, Int.toNat_natCast, key, ov, Nat.le_refl, and_self, eq_self, decide_true, decide_false, Bool.and_self, Bool.or_self, Bool.and_true, Bool.true_and, Bool.and_false, Bool.false_and, Bool.or_true, Bool.true_or, Bool.or_false, Bool.false_or, Bool.not_true, Bool.not_false, cond_true, cond_false]
    exact hih
theorem outer (u r : Nat) (ws cs : List Int) (bs : List Int) (f : Nat) (hv : crowd.sp u r ws cs = true) (hu : 1 ≤ u ∧ u ≤ 8) (hr : 1 ≤ r ∧ r ≤ 8) (hl : cs.length = r * u) (vc : ∀ x ∈ cs, -100000 ≤ x ∧ x ≤ 100000) (hbl : bs.length = r) (hw4 : ws.length ≤ 4611686018427387904) (hin : ∀ i, i < r → -100000 ≤ gz bs i ∧ gz bs i ≤ 100000) (ht : crowd.sp u r ws (ct.tab (mo.f u cs bs) u r) = true) (hf : u < f) : ∀ (d j n : Nat), j + d = r → d < n →
    L1 f n (mkS 59 [(1, .ro (.ints .i64 bs) bs.length 1), (2, .ptr 0 0 0), (4, .ptr 1 0 0), (5, .bool false), (6, .ptr 4 0 0), (7, .int .i64 ((j : Nat) : Int))] [⟨.cells [.int .i64 u, .int .i64 r, .ro (.ints .i64 ws) ws.length 1, .ro (.ints .i64 cs) cs.length 1], 0⟩, ⟨.cells [.int .i64 0, .int .i64 0, .nils, .nils], 0⟩, ⟨.typ (.ints .i64 ws), 0⟩, ⟨.typ (.ints .i64 (ct.pre (mo.f u cs bs) u j 0 ++ cs.drop (j * u + 0))), 0⟩, ⟨.cells [.int .i64 u, .int .i64 r, .own 2 0 ws.length 0 1, .own 3 0 cs.length 0 1], 0⟩]) = some (.tup [.agg [.int .i64 u, .int .i64 r, .own 2 0 ws.length 0 1, .own 3 0 cs.length 0 1], .bool true], [⟨.cells [.int .i64 u, .int .i64 r, .ro (.ints .i64 ws) ws.length 1, .ro (.ints .i64 cs) cs.length 1], 0⟩, ⟨.cells [.int .i64 u, .int .i64 r, .own 2 0 ws.length 0 1, .own 3 0 cs.length 0 1], 0⟩, ⟨.typ (.ints .i64 ws), 0⟩, ⟨.typ (.ints .i64 (ct.tab (mo.f u cs bs) u r)), 0⟩, ⟨.cells [.int .i64 u, .int .i64 r, .own 2 0 ws.length 0 1, .own 3 0 cs.length 0 1], 0⟩]) := by
  intro d
  induction d with
  | zero =>
    intro j n hj hn
    obtain ⟨n, rfl⟩ : ∃ k, n = k + 1 := ⟨n - 1, by omega⟩
    obtain rfl : j = r := by omega
    have hlen := ct.pre_length (mo.f (u : Int) cs bs) u j 0
    have ea : ct.pre (mo.f (u : Int) cs bs) u j 0 ++ cs.drop (j * u + 0) = ct.tab (mo.f (u : Int) cs bs) u j := by
      rw [Nat.add_zero, ← hl, List.drop_length, List.append_nil]; rfl
    have el : cs.length = (ct.tab (mo.f (u : Int) cs bs) u j).length := by unfold ct.tab; rw [hlen]; omega
    have q5 : cs.length ≤ 4611686018427387904 := by
      have h8 : j * u ≤ 8 * 8 := Nat.mul_le_mul hr.2 hu.2
      omega
    rw [ea]
    clear ea hlen
    generalize ct.tab (mo.f (u : Int) cs bs) u j = tb at ht el ⊢
    rw [round1]
    simp -implicitDefEqProofs only [Int.lt_irrefl, hw4, q5, ← el, ht, List.take_length, Nat.le_refl, and_self, eq_self, decide_true, decide_false, Bool.and_self, Bool.or_self, Bool.and_true, Bool.true_and, Bool.and_false, Bool.false_and, Bool.or_true, Bool.true_or, Bool.or_false, Bool.false_or, Bool.not_true, Bool.not_false, cond_true, cond_false]
    try rfl
  | succ d ih =>
    intro j n hj' hn
    obtain ⟨n, rfl⟩ : ∃ k, n = k + 1 := ⟨n - 1, by omega⟩
    have hj : j < r := by omega
    have hj5 : (j : Int) < (r : Int) := by omega
    have j0 : (0 : Int) ≤ (j : Int) := Int.natCast_nonneg _
    have j1 : (j : Int) < (bs.length : Int) := by omega
    have j2 : j < bs.length := by omega
    rw [round1]
    have hbj := hin j hj
    simp -implicitDefEqProofs only [hj5, j0, j1, j2, hbj.1, hbj.2, Int.toNat_natCast, decide_true, decide_false, Bool.and_self, Bool.or_self, Bool.and_true, Bool.true_and, Bool.and_false, Bool.false_and, Bool.or_true, Bool.true_or, Bool.or_false, Bool.false_or, Bool.not_true, Bool.not_false, cond_true, cond_false]
    have hin2 := inner u r ws cs bs f n j hv hu hr hl vc hbl hj hbj u 0 f (by omega) hf
    have hout := ih (j + 1) n (by omega) (by omega)
    exact hin2.trans hout
end sMore_t

namespace sMore_f
def hd : Nat → Head := fun i => bif eqN i 2 then ⟨[1, 2, 4, 5, 6, 7, 8], some 5⟩ else ⟨[1, 2, 4, 5, 6, 7], some 5⟩
noncomputable def L1 (f n : Nat) (s : State) := loopAt Try.prog (orcW [⟨41, l06Give_f.R⟩] [⟨38, l06Is.R⟩, ⟨39, l06Own.R⟩, ⟨45, l00In.R⟩]) hd Dr.std 0 f (bodyOf Try.f16) 0 [true, true, true, false, true] (retK Try.prog [.cell 4 26, .tmp 5] 0 (some 0)) n s
noncomputable def L2 (f n n2 : Nat) (s : State) := loopAt Try.prog (orcW [⟨41, l06Give_f.R⟩] [⟨38, l06Is.R⟩, ⟨39, l06Own.R⟩, ⟨45, l00In.R⟩]) hd Dr.std 0 f (bodyAt (bodyOf Try.f16) [true, true, true, false, true]) (curAt (bodyOf Try.f16) 0 [true, true, true, false, true]) [true, false, true, true] (iterK (normE 0 (hd (curAt (bodyOf Try.f16) 0 [true, true, true, false, true]))) (L1 f n) (contAt Try.prog (orcW [⟨41, l06Give_f.R⟩] [⟨38, l06Is.R⟩, ⟨39, l06Own.R⟩, ⟨45, l00In.R⟩]) hd Dr.std 0 f (bodyOf Try.f16) 0 [true, true, true, false, true] (retK Try.prog [.cell 4 26, .tmp 5] 0 (some 0)))) n2 s
theorem start (u r : Int) (ws cs : List Int) (bs : List Int) (f : Nat) :
  runFn Try.prog (orcW [⟨41, l06Give_f.R⟩] [⟨38, l06Is.R⟩, ⟨39, l06Own.R⟩, ⟨45, l00In.R⟩]) hd Dr.std (some 0) f (bodyOf Try.f16) 59 [.cell 4 26, .tmp 5] [.agg [.int .i64 u, .int .i64 r, .ro (.ints .i64 ws) ws.length 1, .ro (.ints .i64 cs) cs.length 1], .ro (.ints .i64 bs) bs.length 1] []
  = (bif decide (ws.length ≤ ws.length ∧ ws.length ≤ (4611686018427387904 : Nat) ∧ cs.length ≤ cs.length ∧ cs.length ≤ (4611686018427387904 : Nat)) && (false || true && true) then bif !crowd.sp u r (List.take ws.length ws) (List.take cs.length cs) then some (AVal.tup [AVal.agg [AVal.int IntKind.i64 (0 : Int), AVal.int IntKind.i64 (0 : Int), AVal.nils, AVal.nils], AVal.bool false], []) else bif true && true then bif (↑bs.length : Int) != r then some (AVal.tup [AVal.agg [AVal.int IntKind.i64 (0 : Int), AVal.int IntKind.i64 (0 : Int), AVal.nils, AVal.nils], AVal.bool false], []) else bif decide (ws.length = ws.length ∧ cs.length = cs.length ∧ ws.length ≤ (1048576 : Nat) ∧ cs.length ≤ (1048576 : Nat)) && (false || true && (true && (true && (true && true))) && (true && (true && true))) then bif true && (true && (true && (true && (true && (true && true))))) then L1 f f (mkS (59 : Nat) [((1 : Nat), AVal.ro (Cont.ints IntKind.i64 bs) bs.length (1 : Nat)), ((2 : Nat), AVal.ptr (0 : Nat) (0 : Nat) (0 : Nat)), ((4 : Nat), AVal.ptr (1 : Nat) (0 : Nat) (0 : Nat)), ((5 : Nat), AVal.bool false), ((6 : Nat), AVal.ptr ((1 : Nat) + (1 : Nat) + (1 : Nat) + (1 : Nat)) (0 : Nat) (0 : Nat)), ((7 : Nat), AVal.int IntKind.i64 (0 : Int))] [{ c := BC.cells [AVal.int IntKind.i64 u, AVal.int IntKind.i64 r, AVal.ro (Cont.ints IntKind.i64 ws) ws.length (1 : Nat), AVal.ro (Cont.ints IntKind.i64 cs) cs.length (1 : Nat)], ver := (0 : Nat) }, { c := BC.cells [AVal.int IntKind.i64 (0 : Int), AVal.int IntKind.i64 (0 : Int), AVal.nils, AVal.nils], ver := (0 : Nat) }, { c := BC.typ (Cont.ints IntKind.i64 ws), ver := (0 : Nat) }, { c := BC.typ (Cont.ints IntKind.i64 cs), ver := (0 : Nat) }, { c := BC.cells [AVal.int IntKind.i64 u, AVal.int IntKind.i64 r, AVal.own (2 : Nat) (0 : Nat) ws.length (0 : Nat) (1 : Nat), AVal.own (3 : Nat) (0 : Nat) cs.length (0 : Nat) (1 : Nat)], ver := (0 : Nat) }]) else none else none else none else none) := by kernel_rfl
theorem round1 (u r : Nat) (ws cs : List Int) (bs : List Int) (az : List Int) (wl cl j : Nat) (f n : Nat) :
  L1 f (n + 1) (mkS 59 [(1, .ro (.ints .i64 bs) bs.length 1), (2, .ptr 0 0 0), (4, .ptr 1 0 0), (5, .bool false), (6, .ptr 4 0 0), (7, .int .i64 j)] [⟨.cells [.int .i64 u, .int .i64 r, .ro (.ints .i64 ws) ws.length 1, .ro (.ints .i64 cs) cs.length 1], 0⟩, ⟨.cells [.int .i64 0, .int .i64 0, .nils, .nils], 0⟩, ⟨.typ (.ints .i64 ws), 0⟩, ⟨.typ (.ints .i64 az), 0⟩, ⟨.cells [.int .i64 u, .int .i64 r, .own 2 0 wl 0 1, .own 3 0 cl 0 1], 0⟩])
  = (bif true && true then bif decide ((↑j : Int) < (↑r : Int)) then bif true && (decide ((0 : Int) ≤ (↑j : Int)) && decide ((↑j : Int) < (↑bs.length : Int))) then bif decide ((↑j : Int).toNat < bs.length) then bif true && (true && true || true && true) then bif !(decide ((-100000 : Int) ≤ gz bs (↑j : Int).toNat) && decide (gz bs (↑j : Int).toNat ≤ (100000 : Int))) then some (AVal.tup [AVal.agg [AVal.int IntKind.i64 (0 : Int), AVal.int IntKind.i64 (0 : Int), AVal.nils, AVal.nils], AVal.bool false], []) else L2 f n f (mkS (59 : Nat) [((1 : Nat), AVal.ro (Cont.ints IntKind.i64 bs) bs.length (1 : Nat)), ((2 : Nat), AVal.ptr (0 : Nat) (0 : Nat) (0 : Nat)), ((4 : Nat), AVal.ptr (1 : Nat) (0 : Nat) (0 : Nat)), ((5 : Nat), AVal.bool false), ((6 : Nat), AVal.ptr (4 : Nat) (0 : Nat) (0 : Nat)), ((7 : Nat), AVal.int IntKind.i64 (↑j : Int)), ((8 : Nat), AVal.int IntKind.i64 (0 : Int))] [{ c := BC.cells [AVal.int IntKind.i64 (↑u : Int), AVal.int IntKind.i64 (↑r : Int), AVal.ro (Cont.ints IntKind.i64 ws) ws.length (1 : Nat), AVal.ro (Cont.ints IntKind.i64 cs) cs.length (1 : Nat)], ver := (0 : Nat) }, { c := BC.cells [AVal.int IntKind.i64 (0 : Int), AVal.int IntKind.i64 (0 : Int), AVal.nils, AVal.nils], ver := (0 : Nat) }, { c := BC.typ (Cont.ints IntKind.i64 ws), ver := (0 : Nat) }, { c := BC.typ (Cont.ints IntKind.i64 az), ver := (0 : Nat) }, { c := BC.cells [AVal.int IntKind.i64 (↑u : Int), AVal.int IntKind.i64 (↑r : Int), AVal.own (2 : Nat) (0 : Nat) wl (0 : Nat) (1 : Nat), AVal.own (3 : Nat) (0 : Nat) cl (0 : Nat) (1 : Nat)], ver := (0 : Nat) }]) else none else none else none else bif true && true && (true && true && (true && true && (true && true && true))) then bif decide (wl = ws.length ∧ cl = az.length ∧ wl ≤ (4611686018427387904 : Nat) ∧ cl ≤ (4611686018427387904 : Nat)) && !crowd.sp (↑u : Int) (↑r : Int) ws az && (true && (true && (true && true))) then some (AVal.tup [AVal.agg [AVal.int IntKind.i64 (0 : Int), AVal.int IntKind.i64 (0 : Int), AVal.nils, AVal.nils], AVal.bool false], []) else none else none else none) := by kernel_rfl
theorem round2 (u r : Nat) (ws cs : List Int) (bs : List Int) (az : List Int) (wl cl j k : Nat) (f n n2 : Nat) :
  L2 f n (n2 + 1) (mkS 59 [(1, .ro (.ints .i64 bs) bs.length 1), (2, .ptr 0 0 0), (4, .ptr 1 0 0), (5, .bool false), (6, .ptr 4 0 0), (7, .int .i64 j), (8, .int .i64 k)] [⟨.cells [.int .i64 u, .int .i64 r, .ro (.ints .i64 ws) ws.length 1, .ro (.ints .i64 cs) cs.length 1], 0⟩, ⟨.cells [.int .i64 0, .int .i64 0, .nils, .nils], 0⟩, ⟨.typ (.ints .i64 ws), 0⟩, ⟨.typ (.ints .i64 az), 0⟩, ⟨.cells [.int .i64 u, .int .i64 r, .own 2 0 wl 0 1, .own 3 0 cl 0 1], 0⟩])
  = (bif true && true then bif decide ((↑k : Int) < (↑u : Int)) then bif true && true then bif true && true then bif true && (decide ((0 : Int) ≤ IntKind.i64.wrap (IntKind.i64.wrap ((↑j : Int) * (↑u : Int)) + (↑k : Int))) && decide (IntKind.i64.wrap (IntKind.i64.wrap ((↑j : Int) * (↑u : Int)) + (↑k : Int)) < (↑cl : Int))) then bif true && decide ((IntKind.i64.wrap (IntKind.i64.wrap ((↑j : Int) * (↑u : Int)) + (↑k : Int))).toNat < az.length) then bif true && (decide ((0 : Int) ≤ (↑j : Int)) && decide ((↑j : Int) < (↑bs.length : Int))) then bif decide ((↑j : Int).toNat < bs.length) then bif true && (decide ((0 : Int) ≤ IntKind.i64.wrap (IntKind.i64.wrap ((↑j : Int) * (↑u : Int)) + (↑k : Int))) && decide (IntKind.i64.wrap (IntKind.i64.wrap ((↑j : Int) * (↑u : Int)) + (↑k : Int)) < (↑cl : Int))) then bif true && (true && (decide ((IntKind.i64.wrap (IntKind.i64.wrap ((↑j : Int) * (↑u : Int)) + (↑k : Int))).toNat < az.length) && true)) then L2 f n n2 (mkS (59 : Nat) [((1 : Nat), AVal.ro (Cont.ints IntKind.i64 bs) bs.length (1 : Nat)), ((2 : Nat), AVal.ptr (0 : Nat) (0 : Nat) (0 : Nat)), ((4 : Nat), AVal.ptr (1 : Nat) (0 : Nat) (0 : Nat)), ((5 : Nat), AVal.bool false), ((6 : Nat), AVal.ptr (4 : Nat) (0 : Nat) (0 : Nat)), ((7 : Nat), AVal.int IntKind.i64 (↑j : Int)), ((8 : Nat), AVal.int IntKind.i64 (IntKind.i64.wrap ((↑k : Int) + (1 : Int))))] [{ c := BC.cells [AVal.int IntKind.i64 (↑u : Int), AVal.int IntKind.i64 (↑r : Int), AVal.ro (Cont.ints IntKind.i64 ws) ws.length (1 : Nat), AVal.ro (Cont.ints IntKind.i64 cs) cs.length (1 : Nat)], ver := (0 : Nat) }, { c := BC.cells [AVal.int IntKind.i64 (0 : Int), AVal.int IntKind.i64 (0 : Int), AVal.nils, AVal.nils], ver := (0 : Nat) }, { c := BC.typ (Cont.ints IntKind.i64 ws), ver := (0 : Nat) }, { c := BC.typ (Cont.ints IntKind.i64 (az.set (IntKind.i64.wrap (IntKind.i64.wrap ((↑j : Int) * (↑u : Int)) + (↑k : Int))).toNat (IntKind.i64.wrap (gz az (IntKind.i64.wrap (IntKind.i64.wrap ((↑j : Int) * (↑u : Int)) + (↑k : Int))).toNat + gz bs (↑j : Int).toNat)))), ver := (0 : Nat) }, { c := BC.cells [AVal.int IntKind.i64 (↑u : Int), AVal.int IntKind.i64 (↑r : Int), AVal.own (2 : Nat) (0 : Nat) wl (0 : Nat) (1 : Nat), AVal.own (3 : Nat) (0 : Nat) cl (0 : Nat) (1 : Nat)], ver := (0 : Nat) }]) else none else none else none else none else none else none else none else none else L1 f n (mkS (59 : Nat) [((1 : Nat), AVal.ro (Cont.ints IntKind.i64 bs) bs.length (1 : Nat)), ((2 : Nat), AVal.ptr (0 : Nat) (0 : Nat) (0 : Nat)), ((4 : Nat), AVal.ptr (1 : Nat) (0 : Nat) (0 : Nat)), ((5 : Nat), AVal.bool false), ((6 : Nat), AVal.ptr (4 : Nat) (0 : Nat) (0 : Nat)), ((7 : Nat), AVal.int IntKind.i64 (IntKind.i64.wrap ((↑j : Int) + (1 : Int))))] [{ c := BC.cells [AVal.int IntKind.i64 (↑u : Int), AVal.int IntKind.i64 (↑r : Int), AVal.ro (Cont.ints IntKind.i64 ws) ws.length (1 : Nat), AVal.ro (Cont.ints IntKind.i64 cs) cs.length (1 : Nat)], ver := (0 : Nat) }, { c := BC.cells [AVal.int IntKind.i64 (0 : Int), AVal.int IntKind.i64 (0 : Int), AVal.nils, AVal.nils], ver := (0 : Nat) }, { c := BC.typ (Cont.ints IntKind.i64 ws), ver := (0 : Nat) }, { c := BC.typ (Cont.ints IntKind.i64 az), ver := (0 : Nat) }, { c := BC.cells [AVal.int IntKind.i64 (↑u : Int), AVal.int IntKind.i64 (↑r : Int), AVal.own (2 : Nat) (0 : Nat) wl (0 : Nat) (1 : Nat), AVal.own (3 : Nat) (0 : Nat) cl (0 : Nat) (1 : Nat)], ver := (0 : Nat) }]) else none) := by kernel_rfl
theorem inner (u r : Nat) (ws cs : List Int) (bs : List Int) (f n j : Nat) (hv : crowd.sp u r ws cs = true) (hu : 1 ≤ u ∧ u ≤ 8) (hr : 1 ≤ r ∧ r ≤ 8) (hl : cs.length = r * u) (vc : ∀ x ∈ cs, -100000 ≤ x ∧ x ≤ 100000) (hbl : bs.length = r) (hj : j < r) (hbj : -100000 ≤ gz bs j ∧ gz bs j ≤ 100000) : ∀ (d k n2 : Nat), k + d = u → d < n2 →
    L2 f n n2 (mkS 59 [(1, .ro (.ints .i64 bs) bs.length 1), (2, .ptr 0 0 0), (4, .ptr 1 0 0), (5, .bool false), (6, .ptr 4 0 0), (7, .int .i64 ((j : Nat) : Int)), (8, .int .i64 ((k : Nat) : Int))] [⟨.cells [.int .i64 u, .int .i64 r, .ro (.ints .i64 ws) ws.length 1, .ro (.ints .i64 cs) cs.length 1], 0⟩, ⟨.cells [.int .i64 0, .int .i64 0, .nils, .nils], 0⟩, ⟨.typ (.ints .i64 ws), 0⟩, ⟨.typ (.ints .i64 (ct.pre (mo.f u cs bs) u j k ++ cs.drop (j * u + k))), 0⟩, ⟨.cells [.int .i64 u, .int .i64 r, .own 2 0 ws.length 0 1, .own 3 0 cs.length 0 1], 0⟩]) = L1 f n (mkS 59 [(1, .ro (.ints .i64 bs) bs.length 1), (2, .ptr 0 0 0), (4, .ptr 1 0 0), (5, .bool false), (6, .ptr 4 0 0), (7, .int .i64 (((j + 1) : Nat) : Int))] [⟨.cells [.int .i64 u, .int .i64 r, .ro (.ints .i64 ws) ws.length 1, .ro (.ints .i64 cs) cs.length 1], 0⟩, ⟨.cells [.int .i64 0, .int .i64 0, .nils, .nils], 0⟩, ⟨.typ (.ints .i64 ws), 0⟩, ⟨.typ (.ints .i64 (ct.pre (mo.f u cs bs) u (j + 1) 0 ++ cs.drop ((j + 1) * u + 0))), 0⟩, ⟨.cells [.int .i64 u, .int .i64 r, .own 2 0 ws.length 0 1, .own 3 0 cs.length 0 1], 0⟩]) := by
  have h64 : r * u ≤ 8 * 8 := Nat.mul_le_mul hr.2 hu.2
  intro d
  induction d with
  | zero =>
    intro k n2 hk hn
    obtain ⟨n2, rfl⟩ : ∃ k, n2 = k + 1 := ⟨n2 - 1, by omega⟩
    obtain rfl : k = u := by omega
    rw [round2]
    have wj : IntKind.i64.wrap ((j : Int) + 1) = ((j + 1 : Nat) : Int) := wrap_nat j (by omega)
    have e : j * k + k = (j + 1) * k + 0 := by rw [Nat.add_mul, Nat.one_mul]; rfl
    simp -implicitDefEqProofs only [Int.lt_irrefl, wj, ct.pre_next, e, decide_true, decide_false, Bool.and_self, Bool.or_self, Bool.and_true, Bool.true_and, Bool.and_false, Bool.false_and, Bool.or_true, Bool.true_or, Bool.or_false, Bool.false_or, Bool.not_true, Bool.not_false, cond_true, cond_false]
  | succ d ih =>
    intro k n2 hk' hn
    obtain ⟨n2, rfl⟩ : ∃ k, n2 = k + 1 := ⟨n2 - 1, by omega⟩
    have hk : k < u := by omega
    have hlt := ct.ix_lt (R := r) (C := u) hj hk
    have hih := ih (k + 1) n2 (by omega) (by omega)
    have c : (k : Int) < (u : Int) := by omega
    have hjk : ((j * u : Nat) : Int) = (j : Int) * (u : Int) := Int.natCast_mul _ _
    have b1 := mo.bnd vc (u : Int) (j : Int) ((k + 1 : Nat) : Int)
    have w0 : IntKind.i64.wrap ((j : Int) * (u : Int)) = ((j * u : Nat) : Int) := by rw [IntWalk.i64_in _ (by omega)]; omega
    have w1 : IntKind.i64.wrap (((j * u : Nat) : Int) + (k : Int)) = ((j * u + k : Nat) : Int) := by rw [IntWalk.i64_in _ (by omega)]; omega
    have w4 : IntKind.i64.wrap ((k : Int) + 1) = ((k + 1 : Nat) : Int) := wrap_nat k (by omega)
    have q0 : (0 : Int) ≤ ((j * u + k : Nat) : Int) := Int.natCast_nonneg _
    have q1 : ((j * u + k : Nat) : Int) < (cs.length : Int) := by omega
    have q2 : j * u + k < (ct.pre (mo.f (u : Int) cs bs) u j k ++ cs.drop (j * u + k)).length := by rw [List.length_append, ct.pre_length, List.length_drop]; omega
    have j0 : (0 : Int) ≤ (j : Int) := Int.natCast_nonneg _
    have j1 : (j : Int) < (bs.length : Int) := by omega
    have j2 : j < bs.length := by omega
    have at0 : gz (ct.pre (mo.f (u : Int) cs bs) u j k ++ cs.drop (j * u + k)) (j * u + k) = pot.cost.sv (u : Int) cs (j : Int) ((k + 1 : Nat) : Int) := by
      rw [gz_eq q2, List.getElem_append_right (by rw [ct.pre_length]; exact Nat.le_refl _)]
      unfold pot.cost.sv
      have e : ((j : Int) * (u : Int) + ((k + 1 : Nat) : Int) - 1).toNat = j * u + k := by omega
      rw [e, gz_eq (by omega)]
      simp only [ct.pre_length, Nat.sub_self, List.getElem_drop, Nat.add_zero]
    have key : IntKind.i64.wrap (gz (ct.pre (mo.f (u : Int) cs bs) u j k ++ cs.drop (j * u + k)) (j * u + k) + gz bs j) = mo.f (u : Int) cs bs j k := by
      rw [at0, IntWalk.i64_in _ (by omega)]
      unfold mo.f mo.sv
      rw [Int.toNat_natCast]
    have ov : (ct.pre (mo.f (u : Int) cs bs) u j k ++ cs.drop (j * u + k)).set (j * u + k) (mo.f (u : Int) cs bs j k) = ct.pre (mo.f (u : Int) cs bs) u j (k + 1) ++ cs.drop (j * u + (k + 1)) := by
      rw [tl.over (ct.pre_length _ _ _ _) (by omega), ct.pre_succ]; rfl
    rw [round2]
    simp -implicitDefEqProofs only [c, w0, w1, w4, q0, q1, q2, j0, j1, j2, Int.toNat_natCast, key, ov, Nat.le_refl, and_self, eq_self, decide_true, decide_false, Bool.and_self, Bool.or_self, Bool.and_true, Bool.true_and, Bool.and_false, Bool.false_and, Bool.or_true, Bool.true_or, Bool.or_false, Bool.false_or, Bool.not_true, Bool.not_false, cond_true, cond_false]
    exact hih
theorem outer (u r : Nat) (ws cs : List Int) (bs : List Int) (f : Nat) (hv : crowd.sp u r ws cs = true) (hu : 1 ≤ u ∧ u ≤ 8) (hr : 1 ≤ r ∧ r ≤ 8) (hl : cs.length = r * u) (vc : ∀ x ∈ cs, -100000 ≤ x ∧ x ≤ 100000) (hbl : bs.length = r) (hw4 : ws.length ≤ 4611686018427387904) (ht : (∀ i, i < r → -100000 ≤ gz bs i ∧ gz bs i ≤ 100000) → crowd.sp u r ws (ct.tab (mo.f u cs bs) u r) = false) (hf : u < f) : ∀ (d j n : Nat), j + d = r → d < n → (∀ i, i < j → -100000 ≤ gz bs i ∧ gz bs i ≤ 100000) →
    L1 f n (mkS 59 [(1, .ro (.ints .i64 bs) bs.length 1), (2, .ptr 0 0 0), (4, .ptr 1 0 0), (5, .bool false), (6, .ptr 4 0 0), (7, .int .i64 ((j : Nat) : Int))] [⟨.cells [.int .i64 u, .int .i64 r, .ro (.ints .i64 ws) ws.length 1, .ro (.ints .i64 cs) cs.length 1], 0⟩, ⟨.cells [.int .i64 0, .int .i64 0, .nils, .nils], 0⟩, ⟨.typ (.ints .i64 ws), 0⟩, ⟨.typ (.ints .i64 (ct.pre (mo.f u cs bs) u j 0 ++ cs.drop (j * u + 0))), 0⟩, ⟨.cells [.int .i64 u, .int .i64 r, .own 2 0 ws.length 0 1, .own 3 0 cs.length 0 1], 0⟩]) = some (.tup [.agg [.int .i64 0, .int .i64 0, .nils, .nils], .bool false], []) := by
  intro d
  induction d with
  | zero =>
    intro j n hj hn hin
    obtain ⟨n, rfl⟩ : ∃ k, n = k + 1 := ⟨n - 1, by omega⟩
    obtain rfl : j = r := by omega
    have hlen := ct.pre_length (mo.f (u : Int) cs bs) u j 0
    have ea : ct.pre (mo.f (u : Int) cs bs) u j 0 ++ cs.drop (j * u + 0) = ct.tab (mo.f (u : Int) cs bs) u j := by
      rw [Nat.add_zero, ← hl, List.drop_length, List.append_nil]; rfl
    have el : cs.length = (ct.tab (mo.f (u : Int) cs bs) u j).length := by unfold ct.tab; rw [hlen]; omega
    have q5 : cs.length ≤ 4611686018427387904 := by
      have h8 : j * u ≤ 8 * 8 := Nat.mul_le_mul hr.2 hu.2
      omega
    rw [ea]
    clear ea hlen
    replace ht := ht hin
    generalize ct.tab (mo.f (u : Int) cs bs) u j = tb at ht el ⊢
    rw [round1]
    simp -implicitDefEqProofs only [Int.lt_irrefl, hw4, q5, ← el, ht, List.take_length, Nat.le_refl, and_self, eq_self, decide_true, decide_false, Bool.and_self, Bool.or_self, Bool.and_true, Bool.true_and, Bool.and_false, Bool.false_and, Bool.or_true, Bool.true_or, Bool.or_false, Bool.false_or, Bool.not_true, Bool.not_false, cond_true, cond_false]
    try rfl
  | succ d ih =>
    intro j n hj' hn hin
    obtain ⟨n, rfl⟩ : ∃ k, n = k + 1 := ⟨n - 1, by omega⟩
    have hj : j < r := by omega
    have hj5 : (j : Int) < (r : Int) := by omega
    have j0 : (0 : Int) ≤ (j : Int) := Int.natCast_nonneg _
    have j1 : (j : Int) < (bs.length : Int) := by omega
    have j2 : j < bs.length := by omega
    rw [round1]
    by_cases hbj : -100000 ≤ gz bs j ∧ gz bs j ≤ 100000
    · simp -implicitDefEqProofs only [hj5, j0, j1, j2, hbj.1, hbj.2, Int.toNat_natCast, decide_true, decide_false, Bool.and_self, Bool.or_self, Bool.and_true, Bool.true_and, Bool.and_false, Bool.false_and, Bool.or_true, Bool.true_or, Bool.or_false, Bool.false_or, Bool.not_true, Bool.not_false, cond_true, cond_false]
      have hin2 := inner u r ws cs bs f n j hv hu hr hl vc hbl hj hbj u 0 f (by omega) hf
      have hout := ih (j + 1) n (by omega) (by omega) (fun i hi => by
        by_cases e : i = j
        · subst e; exact hbj
        · exact hin i (by omega))
      exact hin2.trans hout
    · have hbb : (decide (-100000 ≤ gz bs j) && decide (gz bs j ≤ 100000)) = false := by
        rw [← Bool.decide_and]; exact decide_eq_false hbj
      simp -implicitDefEqProofs only [hj5, j0, j1, j2, hbb, Int.toNat_natCast, decide_true, decide_false, Bool.and_self, Bool.or_self, Bool.and_true, Bool.true_and, Bool.and_false, Bool.false_and, Bool.or_true, Bool.true_or, Bool.or_false, Bool.false_or, Bool.not_true, Bool.not_false, cond_true, cond_false]
      try rfl
end sMore_f

namespace mo
theorem small1 {u r : Int} {ws cs bs : List Int} (h : mo.all.sp u r ws cs bs = true) : ws.length ≤ 1000000 := by
  simp only [mo.all.sp, mo.sp, Bool.and_eq_true] at h
  obtain ⟨u, r, rfl, rfl, hu, hr, hw, hl, vc⟩ := ct.valid h.2.1
  omega
theorem small2 {u r : Int} {ws cs bs : List Int} (h : mo.all.sp u r ws cs bs = true) : (mo.t.sv u r cs bs).length ≤ 1000000 := by
  simp only [mo.all.sp, mo.sp, Bool.and_eq_true] at h
  obtain ⟨u, r, rfl, rfl, hu, hr, hw, hl, vc⟩ := ct.valid h.2.1
  have h8 : r * u ≤ 8 * 8 := Nat.mul_le_mul hr.2 hu.2
  unfold mo.t.sv ct.tab
  rw [ct.pre_length, Int.toNat_natCast, Int.toNat_natCast]; omega
end mo
namespace sMoreCosts_t
def R : List AVal → Option (Bool × AVal × List Blk)
  | [.agg [.int .i64 u, .int .i64 r, .ro (.ints .i64 ws) mw 1, .ro (.ints .i64 cs) mc 1], .ro (.ints .i64 bs) bl 1] => some (decide (mw = ws.length ∧ mc = cs.length ∧ mw ≤ 4611686018427387904 ∧ mc ≤ 4611686018427387904 ∧ bl = bs.length ∧ bl ≤ 4611686018427387904) && mo.all.sp u r ws cs bs, .tup [.agg [.int .i64 u, .int .i64 r, .own 0 0 ws.length 0 1, .own 1 0 (mo.t.sv u r cs bs).length 0 1], .bool true], [⟨.typ (.ints .i64 ws), 0⟩, ⟨.typ (.ints .i64 (mo.t.sv u r cs bs)), 0⟩])
  | _ => none
theorem run : ∀ args v new, R args = some (true, v, new) → ∃ fuel, regc [2, 3] (runFn Try.prog (orcW [⟨41, l06Give_t.R⟩] [⟨38, l06Is.R⟩, ⟨39, l06Own.R⟩, ⟨45, l00In.R⟩]) sMore_t.hd Dr.std none fuel (bodyOf Try.f16) 59 [.cell 4 26, .tmp 5] args []) = some (v, new) := by
  intro args v new h
  unfold R at h
  split at h
  · rename_i u r ws mw cs mc bs bl
    simp only [Option.some.injEq, Prod.mk.injEq, Bool.and_eq_true, decide_eq_true_eq, Bool.not_eq_true'] at h
    obtain ⟨⟨⟨rfl, rfl, h3, h4, rfl, h5⟩, hs⟩, rfl, rfl⟩ := h
    obtain ⟨F, hF⟩ : ∃ F : Nat, F = 100 := ⟨100, rfl⟩
    refine ⟨F, ?_⟩
    rw [sMore_t.start]
    simp only [mo.all.sp, mo.sp, Bool.and_eq_true] at hs
    obtain ⟨hb, hv, ht⟩ := hs
    have hv2 := hv
    obtain ⟨u, r, rfl, rfl, hu, hr, hw, hl, vc⟩ := ct.valid hv2
    have h8 : r * u ≤ 8 * 8 := Nat.mul_le_mul hr.2 hu.2
    have hb2 := hb
    simp only [mo.ok.sp, Bool.and_eq_true, decide_eq_true_eq] at hb2
    have hbl : bs.length = r := by omega
    have hin : ∀ i, i < r → -100000 ≤ gz bs i ∧ gz bs i ≤ 100000 := fun i hi => by
      have := (mo.at_le hb (j := (i : Int)) (by omega) (by omega)).2
      rwa [Int.toNat_natCast] at this
    have hall := sMore_t.outer u r ws cs bs F hv hu hr hl vc hbl h3 hin (by simpa only [mo.t.sv, Int.toNat_natCast] using ht) (by omega) r 0 F (by omega) (by omega)
    have e0 : ct.pre (mo.f (u : Int) cs bs) u 0 0 ++ cs.drop (0 * u + 0) = cs := by simp [ct.pre_zero]
    rw [e0] at hall
    have l1 : ws.length ≤ 1048576 := by omega
    have l2 : cs.length ≤ 1048576 := by omega
    have l3 : ((bs.length : Int) != (r : Int)) = false := by rw [hbl]; exact bne_self_eq_false _
    have lt : (mo.t.sv (u : Int) (r : Int) cs bs).length = cs.length := by unfold mo.t.sv ct.tab; rw [ct.pre_length, Int.toNat_natCast, Int.toNat_natCast]; omega
    rw [lt]
    simp -implicitDefEqProofs only [h3, h4, hv, l1, l2, l3, List.take_length, Nat.le_refl, and_self, eq_self, decide_true, decide_false, Bool.and_self, Bool.or_self, Bool.and_true, Bool.true_and, Bool.and_false, Bool.false_and, Bool.or_true, Bool.true_or, Bool.or_false, Bool.false_or, Bool.not_true, Bool.not_false, cond_true, cond_false]
    exact (congrArg (regc [2, 3]) hall).trans rfl
  · cases h
theorem ok : EntOk Try.prog ⟨16, R⟩ :=
  ent_okAG (ks := [2, 3]) mixed (A := (orcW [⟨41, l06Give_t.R⟩] [⟨38, l06Is.R⟩, ⟨39, l06Own.R⟩, ⟨45, l00In.R⟩])) (orcW_ok (by simp only [List.mem_cons, List.not_mem_nil, or_false, forall_eq_or_imp, forall_eq]; exact l06Give_t.ok) (by simp only [List.mem_cons, List.not_mem_nil, or_false, forall_eq_or_imp, forall_eq]; exact ⟨l06Is.ok, l06Own.ok, l00In.ok⟩)) Try.func16 (by kernel_rfl) (by kernel_rfl) (n := 59) (ts := [.cell 4 26, .tmp 5]) (hd := sMore_t.hd) (dr := Dr.std) (cut := none) (by kernel_rfl) (by kernel_rfl) (by kernel_rfl) run
end sMoreCosts_t

namespace sMoreCosts_f
def R : List AVal → Option (Bool × AVal × List Blk)
  | [.agg [.int .i64 u, .int .i64 r, .ro (.ints .i64 ws) mw 1, .ro (.ints .i64 cs) mc 1], .ro (.ints .i64 bs) bl 1] => some (decide (mw = ws.length ∧ mc = cs.length ∧ mw ≤ 4611686018427387904 ∧ mc ≤ 4611686018427387904 ∧ bl = bs.length ∧ bl ≤ 4611686018427387904) && !mo.all.sp u r ws cs bs, .tup [.agg [.int .i64 0, .int .i64 0, .nils, .nils], .bool false], [])
  | _ => none
theorem run : ∀ args v new, R args = some (true, v, new) → ∃ fuel, runFn Try.prog (orcW [⟨41, l06Give_f.R⟩] [⟨38, l06Is.R⟩, ⟨39, l06Own.R⟩, ⟨45, l00In.R⟩]) sMore_f.hd Dr.std (some 0) fuel (bodyOf Try.f16) 59 [.cell 4 26, .tmp 5] args [] = some (v, new) := by
  intro args v new h
  unfold R at h
  split at h
  · rename_i u r ws mw cs mc bs bl
    simp only [Option.some.injEq, Prod.mk.injEq, Bool.and_eq_true, decide_eq_true_eq, Bool.not_eq_true'] at h
    obtain ⟨⟨⟨rfl, rfl, h3, h4, rfl, h5⟩, hs⟩, rfl, rfl⟩ := h
    obtain ⟨F, hF⟩ : ∃ F : Nat, F = 100 := ⟨100, rfl⟩
    refine ⟨F, ?_⟩
    rw [sMore_f.start]
    simp only [mo.all.sp, mo.sp] at hs
    cases hv : crowd.sp u r ws cs
    · simp -implicitDefEqProofs only [h3, h4, hv, List.take_length, Nat.le_refl, and_self, eq_self, decide_true, decide_false, Bool.and_self, Bool.or_self, Bool.and_true, Bool.true_and, Bool.and_false, Bool.false_and, Bool.or_true, Bool.true_or, Bool.or_false, Bool.false_or, Bool.not_true, Bool.not_false, cond_true, cond_false]
    · rw [hv, Bool.true_and] at hs
      have hv2 := hv
      obtain ⟨u, r, rfl, rfl, hu, hr, hw, hl, vc⟩ := ct.valid hv2
      have h8 : r * u ≤ 8 * 8 := Nat.mul_le_mul hr.2 hu.2
      by_cases hbl : bs.length = r
      · have l3 : ((bs.length : Int) != (r : Int)) = false := by rw [hbl]; exact bne_self_eq_false _
        have ht : (∀ i, i < r → -100000 ≤ gz bs i ∧ gz bs i ≤ 100000) → crowd.sp (u : Int) (r : Int) ws (ct.tab (mo.f (u : Int) cs bs) u r) = false := fun hin => by
          have hb : mo.ok.sp (r : Int) bs = true := by
            simp only [mo.ok.sp, Bool.and_eq_true, decide_eq_true_eq, List.all_eq_true]
            refine ⟨by omega, fun x hx => ?_⟩
            obtain ⟨i, hi, rfl⟩ := List.mem_iff_getElem.1 hx
            have := hin i (by omega)
            rwa [gz_eq hi] at this
          rw [hb, Bool.true_and] at hs
          simpa only [mo.t.sv, Int.toNat_natCast] using hs
        have hall := sMore_f.outer u r ws cs bs F hv hu hr hl vc hbl h3 ht (by omega) r 0 F (by omega) (by omega) (fun i hi => absurd hi (Nat.not_lt_zero _))
        have e0 : ct.pre (mo.f (u : Int) cs bs) u 0 0 ++ cs.drop (0 * u + 0) = cs := by simp [ct.pre_zero]
        rw [e0] at hall
        have l1 : ws.length ≤ 1048576 := by omega
        have l2 : cs.length ≤ 1048576 := by omega
        simp -implicitDefEqProofs only [h3, h4, hv, l1, l2, l3, List.take_length, Nat.le_refl, and_self, eq_self, decide_true, decide_false, Bool.and_self, Bool.or_self, Bool.and_true, Bool.true_and, Bool.and_false, Bool.false_and, Bool.or_true, Bool.true_or, Bool.or_false, Bool.false_or, Bool.not_true, Bool.not_false, cond_true, cond_false]
        exact hall
      · have l3 : ((bs.length : Int) != (r : Int)) = true := by simp only [bne_iff_ne, ne_eq, Int.natCast_inj]; exact hbl
        simp -implicitDefEqProofs only [h3, h4, hv, l3, List.take_length, Nat.le_refl, and_self, eq_self, decide_true, decide_false, Bool.and_self, Bool.or_self, Bool.and_true, Bool.true_and, Bool.and_false, Bool.false_and, Bool.or_true, Bool.true_or, Bool.or_false, Bool.false_or, Bool.not_true, Bool.not_false, cond_true, cond_false]
  · cases h
theorem ok : EntOk Try.prog ⟨16, R⟩ :=
  ent_okA mixed (A := (orcW [⟨41, l06Give_f.R⟩] [⟨38, l06Is.R⟩, ⟨39, l06Own.R⟩, ⟨45, l00In.R⟩])) (orcW_ok (by simp only [List.mem_cons, List.not_mem_nil, or_false, forall_eq_or_imp, forall_eq]; exact l06Give_f.ok) (by simp only [List.mem_cons, List.not_mem_nil, or_false, forall_eq_or_imp, forall_eq]; exact ⟨l06Is.ok, l06Own.ok, l00In.ok⟩)) Try.func16 (by kernel_rfl) (by kernel_rfl) (n := 59) (ts := [.cell 4 26, .tmp 5]) (hd := sMore_f.hd) (dr := Dr.std) (cut := (some 0)) (by kernel_rfl) (by kernel_rfl) (by kernel_rfl) run
end sMoreCosts_f

namespace sMoreCosts
def Rt := sMoreCosts_t.R
def Rf := sMoreCosts_f.R
theorem okt : EntOk Try.prog ⟨16, Rt⟩ := sMoreCosts_t.ok
theorem okf : EntOk Try.prog ⟨16, Rf⟩ := sMoreCosts_f.ok
end sMoreCosts

namespace iMoreCosts_t
def R : List AVal → Option (Bool × AVal × List Blk)
  | [.agg [.int .i64 u, .int .i64 r, .ro (.ints .i64 ws) mw 1, .ro (.ints .i64 cs) mc 1], .ro (.ints .i64 bs) bl 1] => some (decide (mw = ws.length ∧ mc = cs.length ∧ mw ≤ 4611686018427387904 ∧ mc ≤ 4611686018427387904 ∧ bl = bs.length ∧ bl ≤ 4611686018427387904) && mo.all.sp u r ws cs bs, .tup [.agg [.int .i64 u, .int .i64 r, .own 0 0 ws.length 0 1, .own 1 0 (mo.t.sv u r cs bs).length 0 1], .bool true], [⟨.typ (.ints .i64 ws), 0⟩, ⟨.typ (.ints .i64 (mo.t.sv u r cs bs)), 0⟩])
  | _ => none
theorem go (u r : Int) (ws cs : List Int) (bs : List Int) :
  regc [3, 4] (runFn Try.prog (orc [⟨46, areMany.R⟩, ⟨42, turnedMore_t.R⟩]) hd0 Dr.std none 0 (bodyOf Try.f18) 19 [.cell 4 26, .tmp 5] [.agg [.int .i64 u, .int .i64 r, .ro (.ints .i64 ws) ws.length 1, .ro (.ints .i64 cs) cs.length 1], .ro (.ints .i64 bs) bs.length 1] [])
  = (match bif true && true then bif true && true then bif true && true then bif decide (bs.length ≤ bs.length ∧ bs.length ≤ (4611686018427387904 : Nat)) && (true && (true && (true && true)) || true && true) then bif !(decide (r ≤ (↑bs.length : Int)) && decide ((↑bs.length : Int) ≤ r) && (List.take bs.length bs).all fun x => decide ((-100000 : Int) ≤ x) && decide (x ≤ (100000 : Int))) then some (AVal.tup [AVal.agg [AVal.int IntKind.i64 (0 : Int), AVal.int IntKind.i64 (0 : Int), AVal.nils, AVal.nils], AVal.bool false], [{ c := BC.cells [AVal.int IntKind.i64 u, AVal.int IntKind.i64 r, AVal.ro (Cont.ints IntKind.i64 ws) ws.length (1 : Nat), AVal.ro (Cont.ints IntKind.i64 cs) cs.length (1 : Nat)], ver := (0 : Nat) }, { c := BC.cells [AVal.ro (Cont.ints IntKind.i64 bs) bs.length (1 : Nat)], ver := (0 : Nat) }, { c := BC.cells [AVal.int IntKind.i64 (0 : Int), AVal.int IntKind.i64 (0 : Int), AVal.nils, AVal.nils], ver := (0 : Nat) }]) else bif true && true && (true && true && (true && true && (true && true && true))) then bif decide (ws.length = ws.length ∧ cs.length = cs.length ∧ ws.length ≤ (4611686018427387904 : Nat) ∧ cs.length ≤ (4611686018427387904 : Nat) ∧ (47 : Nat) = (47 : FuncId) ∧ u = u ∧ r = r ∧ ws = ws ∧ cs = cs ∧ ws.length = ws.length ∧ cs.length = cs.length ∧ bs.length = bs.length) && mo.ok.sp r bs && mo.sp u r ws cs bs && (true && (true && (true && (true && true))) && false || true && (true && (true && (true && true))) && true && (true && (true && true))) then bif true && (true && (true && (true && (true && (true && true))))) then bif true && true && (true && true && (true && true && (true && true && true))) && true then some (AVal.tup [AVal.agg [AVal.int IntKind.i64 u, AVal.int IntKind.i64 r, AVal.own ((2 : Nat) + (1 : Nat) + (0 : Nat)) (0 : Nat) ws.length (0 : Nat) (1 : Nat), AVal.own ((2 : Nat) + (1 : Nat) + (1 : Nat)) (0 : Nat) (mo.t.sv u r cs bs).length (0 : Nat) (1 : Nat)], AVal.bool true], [{ c := BC.cells [AVal.int IntKind.i64 u, AVal.int IntKind.i64 r, AVal.ro (Cont.ints IntKind.i64 ws) ws.length (1 : Nat), AVal.ro (Cont.ints IntKind.i64 cs) cs.length (1 : Nat)], ver := (0 : Nat) }, { c := BC.cells [AVal.ro (Cont.ints IntKind.i64 bs) bs.length (1 : Nat)], ver := (0 : Nat) }, { c := BC.cells [AVal.int IntKind.i64 u, AVal.int IntKind.i64 r, AVal.own ((2 : Nat) + (1 : Nat) + (0 : Nat)) (0 : Nat) ws.length (0 : Nat) (1 : Nat), AVal.own ((2 : Nat) + (1 : Nat) + (1 : Nat)) (0 : Nat) (mo.t.sv u r cs bs).length (0 : Nat) (1 : Nat)], ver := (0 : Nat) }, { c := BC.typ (Cont.ints IntKind.i64 ws), ver := (0 : Nat) }, { c := BC.typ (Cont.ints IntKind.i64 (mo.t.sv u r cs bs)), ver := (0 : Nat) }]) else none else none else none else none else none else none else none else none with
| some (v, h) =>
  bif true && (ltN (3 : Nat) (hlen h) && (ltN (4 : Nat) (hlen h) && true)) then
    some
      (AVal.re [(3 : Nat), (4 : Nat)] h v,
        match nth h (3 : Nat) with
        | some b => { c := BC.re [(3 : Nat), (4 : Nat)] h b.c, ver := b.ver } :: reB [(3 : Nat), (4 : Nat)] h [(4 : Nat)]
        | none => { c := BC.cells [], ver := (0 : Nat) } :: reB [(3 : Nat), (4 : Nat)] h [(4 : Nat)])
  else none
| none => none) := by kernel_rfl
theorem run : ∀ args v new, R args = some (true, v, new) → ∃ fuel, regc [3, 4] (runFn Try.prog (orc [⟨46, areMany.R⟩, ⟨42, turnedMore_t.R⟩]) hd0 Dr.std none fuel (bodyOf Try.f18) 19 [.cell 4 26, .tmp 5] args []) = some (v, new) := by
  intro args v new h
  unfold R at h
  split at h
  · rename_i u r ws mw cs mc bs bl
    simp only [Option.some.injEq, Prod.mk.injEq, Bool.and_eq_true, decide_eq_true_eq, Bool.not_eq_true'] at h
    obtain ⟨⟨⟨rfl, rfl, h3, h4, rfl, h5⟩, hs⟩, rfl, rfl⟩ := h
    refine ⟨0, ?_⟩
    rw [go]
    have hm : ((decide (r ≤ (bs.length : Int)) && decide ((bs.length : Int) ≤ r)) && bs.all fun x => decide (-100000 ≤ x) && decide (x ≤ 100000)) = mo.ok.sp r bs := by
      unfold mo.ok.sp
      congr 1
      rw [← Bool.decide_and]
      exact decide_eq_decide.2 ⟨fun h => by omega, fun h => by omega⟩
    simp only [mo.all.sp, Bool.and_eq_true] at hs
    simp only [List.take_length, hm, hs.1, hs.2, h3, h4, h5, Nat.le_refl, and_self, true_and, and_true, eq_self, decide_true, decide_false, Bool.and_self, Bool.or_self, Bool.and_true, Bool.true_and, Bool.and_false, Bool.false_and, Bool.or_true, Bool.true_or, Bool.or_false, Bool.false_or, Bool.not_true, Bool.not_false, cond_true, cond_false]
    try rfl
  · cases h
theorem ok : EntOk Try.prog ⟨18, R⟩ :=
  ent_okAG (ks := [3, 4]) mixed (A := (orc [⟨46, areMany.R⟩, ⟨42, turnedMore_t.R⟩])) (orc_ok (by simp only [List.mem_cons, List.not_mem_nil, or_false, forall_eq_or_imp, forall_eq]; exact ⟨areMany.ok, turnedMore_t.ok⟩)) Try.func18 (by kernel_rfl) (by kernel_rfl) (n := 19) (ts := [.cell 4 26, .tmp 5]) (hd := hd0) (dr := Dr.std) (cut := none) (by kernel_rfl) (by kernel_rfl) (by kernel_rfl) run
end iMoreCosts_t

namespace iMoreCosts_f
def R : List AVal → Option (Bool × AVal × List Blk)
  | [.agg [.int .i64 u, .int .i64 r, .ro (.ints .i64 ws) mw 1, .ro (.ints .i64 cs) mc 1], .ro (.ints .i64 bs) bl 1] => some (decide (mw = ws.length ∧ mc = cs.length ∧ mw ≤ 4611686018427387904 ∧ mc ≤ 4611686018427387904 ∧ bl = bs.length ∧ bl ≤ 4611686018427387904) && !mo.all.sp u r ws cs bs, .tup [.agg [.int .i64 0, .int .i64 0, .nils, .nils], .bool false], [])
  | _ => none
theorem go (u r : Int) (ws cs : List Int) (bs : List Int) :
  runFn Try.prog (orc [⟨46, areMany.R⟩, ⟨42, turnedMore_f.R⟩]) hd0 Dr.std (some 0) 0 (bodyOf Try.f18) 19 [.cell 4 26, .tmp 5] [.agg [.int .i64 u, .int .i64 r, .ro (.ints .i64 ws) ws.length 1, .ro (.ints .i64 cs) cs.length 1], .ro (.ints .i64 bs) bs.length 1] []
  = (bif true && true then bif true && true then bif true && true then bif decide (bs.length ≤ bs.length ∧ bs.length ≤ (4611686018427387904 : Nat)) && (true && (true && (true && true)) || true && true) then bif !(decide (r ≤ (↑bs.length : Int)) && decide ((↑bs.length : Int) ≤ r) && (List.take bs.length bs).all fun x => decide ((-100000 : Int) ≤ x) && decide (x ≤ (100000 : Int))) then some (AVal.tup [AVal.agg [AVal.int IntKind.i64 (0 : Int), AVal.int IntKind.i64 (0 : Int), AVal.nils, AVal.nils], AVal.bool false], []) else bif true && true && (true && true && (true && true && (true && true && true))) then bif decide (ws.length = ws.length ∧ cs.length = cs.length ∧ ws.length ≤ (4611686018427387904 : Nat) ∧ cs.length ≤ (4611686018427387904 : Nat) ∧ (47 : Nat) = (47 : FuncId) ∧ u = u ∧ r = r ∧ ws = ws ∧ cs = cs ∧ ws.length = ws.length ∧ cs.length = cs.length ∧ bs.length = bs.length) && mo.ok.sp r bs && !mo.sp u r ws cs bs && (true && (true && (true && (true && true))) && false || true && true) then some (AVal.tup [AVal.agg [AVal.int IntKind.i64 (0 : Int), AVal.int IntKind.i64 (0 : Int), AVal.nils, AVal.nils], AVal.bool false], []) else none else none else none else none else none else none) := by kernel_rfl
theorem run : ∀ args v new, R args = some (true, v, new) → ∃ fuel, runFn Try.prog (orc [⟨46, areMany.R⟩, ⟨42, turnedMore_f.R⟩]) hd0 Dr.std (some 0) fuel (bodyOf Try.f18) 19 [.cell 4 26, .tmp 5] args [] = some (v, new) := by
  intro args v new h
  unfold R at h
  split at h
  · rename_i u r ws mw cs mc bs bl
    simp only [Option.some.injEq, Prod.mk.injEq, Bool.and_eq_true, decide_eq_true_eq, Bool.not_eq_true'] at h
    obtain ⟨⟨⟨rfl, rfl, h3, h4, rfl, h5⟩, hs⟩, rfl, rfl⟩ := h
    refine ⟨0, ?_⟩
    rw [go]
    have hm : ((decide (r ≤ (bs.length : Int)) && decide ((bs.length : Int) ≤ r)) && bs.all fun x => decide (-100000 ≤ x) && decide (x ≤ 100000)) = mo.ok.sp r bs := by
      unfold mo.ok.sp
      congr 1
      rw [← Bool.decide_and]
      exact decide_eq_decide.2 ⟨fun h => by omega, fun h => by omega⟩
    simp only [mo.all.sp] at hs
    cases hb : mo.ok.sp r bs
    · simp only [List.take_length, hm, hb, h3, h4, h5, Nat.le_refl, and_self, true_and, and_true, eq_self, decide_true, decide_false, Bool.and_self, Bool.or_self, Bool.and_true, Bool.true_and, Bool.and_false, Bool.false_and, Bool.or_true, Bool.true_or, Bool.or_false, Bool.false_or, Bool.not_true, Bool.not_false, cond_true, cond_false]
      try rfl
    · rw [hb, Bool.true_and] at hs
      simp only [List.take_length, hm, hb, hs, h3, h4, h5, Nat.le_refl, and_self, true_and, and_true, eq_self, decide_true, decide_false, Bool.and_self, Bool.or_self, Bool.and_true, Bool.true_and, Bool.and_false, Bool.false_and, Bool.or_true, Bool.true_or, Bool.or_false, Bool.false_or, Bool.not_true, Bool.not_false, cond_true, cond_false]
      try rfl
  · cases h
theorem ok : EntOk Try.prog ⟨18, R⟩ :=
  ent_okA mixed (A := (orc [⟨46, areMany.R⟩, ⟨42, turnedMore_f.R⟩])) (orc_ok (by simp only [List.mem_cons, List.not_mem_nil, or_false, forall_eq_or_imp, forall_eq]; exact ⟨areMany.ok, turnedMore_f.ok⟩)) Try.func18 (by kernel_rfl) (by kernel_rfl) (n := 19) (ts := [.cell 4 26, .tmp 5]) (hd := hd0) (dr := Dr.std) (cut := (some 0)) (by kernel_rfl) (by kernel_rfl) (by kernel_rfl) run
end iMoreCosts_f

namespace iMoreCosts
def Rt := iMoreCosts_t.R
def Rf := iMoreCosts_f.R
theorem okt : EntOk Try.prog ⟨18, Rt⟩ := iMoreCosts_t.ok
theorem okf : EntOk Try.prog ⟨18, Rf⟩ := iMoreCosts_f.ok
end iMoreCosts

end Go.Proofs.Ytgeglpommdckgaa.Ab
