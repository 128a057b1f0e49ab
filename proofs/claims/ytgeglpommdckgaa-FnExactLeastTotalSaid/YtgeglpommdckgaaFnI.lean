/-
  Functions: crowds that are valid.
-/
import Derived.Test.YtgeglpommdckgaaFnE
import Derived.Test.YtgeglpommdckgaaFnB
import Derived.Test.YtgeglpommdckgaaFnD
namespace Go.Proofs.Ytgeglpommdckgaa.Ab
open Go
set_option linter.unusedVariables false
set_option linter.unusedSimpArgs false
set_option maxRecDepth 100000

namespace crowd
def hi (r : Int) : Int := IntKind.i64.wrap (ishl.sv .i64 1 r - 1)
def win (r x : Int) : Bool := decide (1 ≤ x) && decide (x ≤ hi r)
def cin (x : Int) : Bool := decide (-100000 ≤ x) && decide (x ≤ 100000)
theorem hi_eq (r : Int) : IntKind.i64.wrap (ishl.sv .i64 1 r - 1) = hi r := rfl
theorem hi_eq' (r : Int) : IntKind.i64.wrap (ishl.sv .i64 1 r - 1) = hi r := rfl
theorem win_eq (r x : Int) : (decide (1 ≤ x) && decide (x ≤ hi r)) = win r x := rfl
theorem cin_eq (x : Int) : (decide (-100000 ≤ x) && decide (x ≤ 100000)) = cin x := rfl
theorem winf_eq (r : Int) : (fun x => decide (1 ≤ x) && decide (x ≤ hi r)) = win r := rfl
theorem cinf_eq : (fun x : Int => decide (-100000 ≤ x) && decide (x ≤ 100000)) = cin := rfl
def sp (u r : Int) (ws cs : List Int) : Bool := (((((decide (1 ≤ u) && decide (u ≤ 8)) && (decide (1 ≤ r) && decide (r ≤ 8))) && (decide (1 ≤ ws.length) && decide (ws.length ≤ 8))) && decide ((cs.length : Int) = u * r)) && ws.all (win r)) && cs.all cin
end crowd

namespace l06Is
def dr : Nat → Dr := Dr.std
def R : List AVal → Option (Bool × AVal × List Blk)
  | [.rom [.int .i64 u, .int .i64 r, .ro (.ints .i64 ws) mw 1, .ro (.ints .i64 cs) mc 1] 0] => some (decide (mw ≤ ws.length ∧ mw ≤ 4611686018427387904 ∧ mc ≤ cs.length ∧ mc ≤ 4611686018427387904), .bool (crowd.sp u r (ws.take mw) (cs.take mc)), [])
  | _ => none
def hd : Nat → Head := fun i => bif eqN i 2 then ⟨[0, 2, 4], none⟩ else ⟨[0, 2, 3], none⟩
noncomputable def L1 (f n : Nat) (s : State) := loopAt Try.prog (orc [⟨45, l00In.R⟩]) hd dr 0 f (bodyOf Try.f38) 0 [true, true, false, true] (retK Try.prog [2] 0 none) n s
noncomputable def L2 (f n : Nat) (s : State) := loopAt Try.prog (orc [⟨45, l00In.R⟩]) hd dr 0 f (bodyOf Try.f38) 0 [true, true, true, false, true] (retK Try.prog [2] 0 none) n s
theorem start (u r : Int) (ws cs : List Int) (mw mc : Nat) (f : Nat) :
  runFn Try.prog (orc [⟨45, l00In.R⟩]) hd dr none f (bodyOf Try.f38) 95 [2] [.rom [.int .i64 u, .int .i64 r, .ro (.ints .i64 ws) mw 1, .ro (.ints .i64 cs) mc 1] 0] []
  = (bif true && (true && true || true && true) then bif !(decide ((1 : Int) ≤ u) && decide (u ≤ (8 : Int))) then some (AVal.bool false, []) else bif true && (true && true || true && true) then bif !(decide ((1 : Int) ≤ r) && decide (r ≤ (8 : Int))) then some (AVal.bool false, []) else bif decide ((↑mw : Int) < (1 : Int)) then some (AVal.bool false, []) else bif decide ((8 : Int) < (↑mw : Int)) then some (AVal.bool false, []) else bif (↑mc : Int) != IntKind.i64.wrap (u * r) then some (AVal.bool false, []) else L1 f f (mkS (95 : Nat) [((0 : Nat), AVal.rom [AVal.int IntKind.i64 u, AVal.int IntKind.i64 r, AVal.ro (Cont.ints IntKind.i64 ws) mw (1 : Nat), AVal.ro (Cont.ints IntKind.i64 cs) mc (1 : Nat)] (0 : Nat)), ((2 : Nat), AVal.bool false), ((3 : Nat), AVal.int IntKind.i64 (0 : Int))] []) else none else none) := by kernel_rfl
theorem round1 (u r : Int) (ws cs : List Int) (mw mc : Nat) (i f n : Nat) :
  L1 f (n + 1) (mkS 95 [(0, .rom [.int .i64 u, .int .i64 r, .ro (.ints .i64 ws) mw 1, .ro (.ints .i64 cs) mc 1] 0), (2, .bool false), (3, .int .i64 i)] [])
  = (bif decide ((↑i : Int) < (↑mw : Int)) then bif true && (decide ((0 : Int) ≤ (↑i : Int)) && decide ((↑i : Int) < (↑mw : Int))) then bif decide ((↑i : Int).toNat < ws.length) then bif decide ((0 : Int) ≤ IntKind.u64.wrap r) then bif true && (true && (true && (true && true)) || true && true) then bif !(decide ((1 : Int) ≤ gz ws (↑i : Int).toNat) && decide (gz ws (↑i : Int).toNat ≤ IntKind.i64.wrap (ishl.sv IntKind.i64 (1 : Int) (IntKind.u64.wrap r) - (1 : Int)))) then some (AVal.bool false, []) else L1 f n (mkS (95 : Nat) [((0 : Nat), AVal.rom [AVal.int IntKind.i64 u, AVal.int IntKind.i64 r, AVal.ro (Cont.ints IntKind.i64 ws) mw (1 : Nat), AVal.ro (Cont.ints IntKind.i64 cs) mc (1 : Nat)] (0 : Nat)), ((2 : Nat), AVal.bool false), ((3 : Nat), AVal.int IntKind.i64 (IntKind.i64.wrap ((↑i : Int) + (1 : Int))))] []) else none else none else none else none else L2 f f (mkS (95 : Nat) [((0 : Nat), AVal.rom [AVal.int IntKind.i64 u, AVal.int IntKind.i64 r, AVal.ro (Cont.ints IntKind.i64 ws) mw (1 : Nat), AVal.ro (Cont.ints IntKind.i64 cs) mc (1 : Nat)] (0 : Nat)), ((2 : Nat), AVal.bool false), ((4 : Nat), AVal.int IntKind.i64 (0 : Int))] [])) := by kernel_rfl
theorem round2 (u r : Int) (ws cs : List Int) (mw mc : Nat) (i f n : Nat) :
  L2 f (n + 1) (mkS 95 [(0, .rom [.int .i64 u, .int .i64 r, .ro (.ints .i64 ws) mw 1, .ro (.ints .i64 cs) mc 1] 0), (2, .bool false), (4, .int .i64 i)] [])
  = (bif decide ((↑i : Int) < (↑mc : Int)) then bif true && (decide ((0 : Int) ≤ (↑i : Int)) && decide ((↑i : Int) < (↑mc : Int))) then bif decide ((↑i : Int).toNat < cs.length) then bif true && (true && true || true && true) then bif !(decide ((-100000 : Int) ≤ gz cs (↑i : Int).toNat) && decide (gz cs (↑i : Int).toNat ≤ (100000 : Int))) then some (AVal.bool false, []) else L2 f n (mkS (95 : Nat) [((0 : Nat), AVal.rom [AVal.int IntKind.i64 u, AVal.int IntKind.i64 r, AVal.ro (Cont.ints IntKind.i64 ws) mw (1 : Nat), AVal.ro (Cont.ints IntKind.i64 cs) mc (1 : Nat)] (0 : Nat)), ((2 : Nat), AVal.bool false), ((4 : Nat), AVal.int IntKind.i64 (IntKind.i64.wrap ((↑i : Int) + (1 : Int))))] []) else none else none else none else some (AVal.bool true, [])) := by kernel_rfl
theorem loop2 (u r : Int) (ws cs : List Int) (mw mc : Nat) (f : Nat) (hx : mc ≤ cs.length) (hb : mc ≤ 1048576) : ∀ (d i n : Nat), i + d = mc → d < n →
    L2 f n (mkS 95 [(0, .rom [.int .i64 u, .int .i64 r, .ro (.ints .i64 ws) mw 1, .ro (.ints .i64 cs) mc 1] 0), (2, .bool false), (4, .int .i64 i)] []) = some (.bool (((cs.take mc).drop i).all crowd.cin), []) := by
  intro d
  induction d with
  | zero =>
    intro i n hi hn
    obtain ⟨n, rfl⟩ : ∃ k, n = k + 1 := ⟨n - 1, by omega⟩
    obtain rfl : i = mc := by omega
    rw [round2]
    simp
  | succ d ih =>
    intro i n hi hn
    obtain ⟨n, rfl⟩ : ∃ k, n = k + 1 := ⟨n - 1, by omega⟩
    have h1 : i < mc := by omega
    have h3 : i < cs.length := by omega
    rw [round2]
    have h4 : (0 : Int) ≤ (i : Int) := Int.natCast_nonneg _
    have h5 : (i : Int) < (mc : Int) := by omega
    rw [Int.toNat_natCast, gz_eq h3, crowd.cin_eq, drop_take_cons hx h1, List.all_cons, wrap_nat i (by omega), ih (i + 1) n (by omega) (by omega)]
    generalize ((cs.take mc).drop (i + 1)).all crowd.cin = rest
    generalize crowd.cin cs[i] = b
    simp only [h4, h5, h3, decide_true, Bool.and_self, Bool.or_self, Bool.not_false, cond_true]
    cases b <;> rfl
theorem loop1 (u r : Int) (ws cs : List Int) (mw mc : Nat) (f : Nat) (hr : 1 ≤ r) (hr' : r ≤ 8) (hx : mw ≤ ws.length) (hb : mw ≤ 1048576) (hxc : mc ≤ cs.length) (hbc : mc ≤ 1048576) (hf : mc < f) : ∀ (d i n : Nat), i + d = mw → d < n →
    L1 f n (mkS 95 [(0, .rom [.int .i64 u, .int .i64 r, .ro (.ints .i64 ws) mw 1, .ro (.ints .i64 cs) mc 1] 0), (2, .bool false), (3, .int .i64 i)] []) = some (.bool ((((ws.take mw).drop i).all (crowd.win r)) && ((cs.take mc).all crowd.cin)), []) := by
  have hw : IntKind.u64.wrap r = r := IntWalk.u64_in r (by omega)
  have h0 : (0 : Int) ≤ r := by omega
  intro d
  induction d with
  | zero =>
    intro i n hi hn
    obtain ⟨n, rfl⟩ : ∃ k, n = k + 1 := ⟨n - 1, by omega⟩
    obtain rfl : i = mw := by omega
    rw [round1, hw, crowd.hi_eq]
    have hl := loop2 u r ws cs i mc f hxc hbc mc 0 f (by omega) hf
    have c : ¬ ((i : Int) < (i : Int)) := by omega
    have e : (ws.take i).drop i = [] := by simp
    simp only [c, decide_false, cond_false, e, List.all_nil, Bool.true_and]
    exact hl
  | succ d ih =>
    intro i n hi hn
    obtain ⟨n, rfl⟩ : ∃ k, n = k + 1 := ⟨n - 1, by omega⟩
    have h1 : i < mw := by omega
    have h3 : i < ws.length := by omega
    rw [round1]
    have h4 : (0 : Int) ≤ (i : Int) := Int.natCast_nonneg _
    have h5 : (i : Int) < (mw : Int) := by omega
    rw [Int.toNat_natCast, gz_eq h3, hw, crowd.hi_eq, crowd.win_eq, drop_take_cons hx h1, List.all_cons, wrap_nat i (by omega), ih (i + 1) n (by omega) (by omega)]
    generalize ((ws.take mw).drop (i + 1)).all (crowd.win r) = rest
    generalize (cs.take mc).all crowd.cin = rest2
    generalize crowd.win r ws[i] = b
    simp only [h4, h5, h3, h0, decide_true, Bool.and_self, Bool.or_self, Bool.not_false, cond_true]
    cases b <;> rfl
theorem run : ∀ args v new, R args = some (true, v, new) → ∃ fuel, runFn Try.prog (orc [⟨45, l00In.R⟩]) hd dr none fuel (bodyOf Try.f38) 95 [2] args [] = some (v, new) := by
  intro args v new h
  unfold R at h
  split at h
  · rename_i u r ws mw cs mc
    simp only [Option.some.injEq, Prod.mk.injEq, decide_eq_true_eq] at h
    obtain ⟨⟨h1, h2, h3, h4⟩, rfl, rfl⟩ := h
    have e1 : (ws.take mw).length = mw := by simp; omega
    have e2 : (cs.take mc).length = mc := by simp; omega
    refine ⟨mw + mc + 1, ?_⟩
    rw [start]
    by_cases c1 : 1 ≤ u ∧ u ≤ 8
    case neg =>
      have c1' : (decide (1 ≤ u) && decide (u ≤ 8)) = false := by simp only [Bool.and_eq_false_iff, decide_eq_false_iff_not]; omega
      simp [crowd.sp, c1']
    by_cases c2 : 1 ≤ r ∧ r ≤ 8
    case neg =>
      have c2' : (decide (1 ≤ r) && decide (r ≤ 8)) = false := by simp only [Bool.and_eq_false_iff, decide_eq_false_iff_not]; omega
      simp [crowd.sp, c1, c2']
    by_cases c3 : (mw : Int) < 1
    · have : ¬ 1 ≤ mw := by omega
      simp [crowd.sp, c1, c2, c3, e1, this]
    by_cases c4 : (8 : Int) < (mw : Int)
    · have : ¬ mw ≤ 8 := by omega
      simp [crowd.sp, c1, c2, c3, c4, e1, this]
    have c3' : 1 ≤ mw := by omega
    have c4' : mw ≤ 8 := by omega
    have hp : 0 ≤ u * r := Int.mul_nonneg (by omega) (by omega)
    have hp' : u * r ≤ 8 * 8 := Int.mul_le_mul (by omega) (by omega) (by omega) (by omega)
    have hw : IntKind.i64.wrap (u * r) = u * r := IntWalk.i64_in _ (by omega)
    by_cases c5 : (mc : Int) = u * r
    case neg =>
      have : ((mc : Int) != u * r) = true := by simpa using c5
      simp [crowd.sp, c1, c2, c3, c4, e1, e2, hw, this, c5, c3', c4']
    have hl := loop1 u r ws cs mw mc (mw + mc + 1) c2.1 c2.2 h1 (by omega) h3 (by omega) (by omega) mw 0 (mw + mc + 1) (by omega) (by omega)
    have c5' : ((mc : Int) != u * r) = false := by simpa using c5
    have p1 : decide (1 ≤ u) = true := decide_eq_true c1.1
    have p2 : decide (u ≤ 8) = true := decide_eq_true c1.2
    have p3 : decide (1 ≤ r) = true := decide_eq_true c2.1
    have p4 : decide (r ≤ 8) = true := decide_eq_true c2.2
    have p5 : decide ((mw : Int) < 1) = false := decide_eq_false c3
    have p6 : decide ((8 : Int) < (mw : Int)) = false := decide_eq_false c4
    have p7 : decide (1 ≤ (ws.take mw).length) = true := decide_eq_true (by rw [e1]; exact c3')
    have p8 : decide ((ws.take mw).length ≤ 8) = true := decide_eq_true (by rw [e1]; exact c4')
    have p9 : decide (((cs.take mc).length : Int) = u * r) = true := decide_eq_true (by rw [e2]; exact c5)
    rw [hw, c5', p1, p2, p3, p4, p5, p6]
    unfold crowd.sp
    rw [p1, p2, p3, p4, p7, p8, p9]
    exact hl
  · cases h
theorem ok : EntOk Try.prog ⟨38, R⟩ :=
  ent_okA mixed (A := (orc [⟨45, l00In.R⟩])) (orc_ok (by simp only [List.mem_cons, List.not_mem_nil, or_false, forall_eq_or_imp, forall_eq]; exact l00In.ok)) Try.func38 (by kernel_rfl) (by kernel_rfl) (n := 95) (ts := [2]) (hd := hd) (dr := dr) (cut := none) (by kernel_rfl) (by kernel_rfl) (by kernel_rfl) run
end l06Is


namespace iValidCrowd
def R : List AVal → Option (Bool × AVal × List Blk)
  | [.agg [.int .i64 u, .int .i64 r, .ro (.ints .i64 ws) mw 1, .ro (.ints .i64 cs) mc 1]] => some (decide (mw ≤ ws.length ∧ mw ≤ 4611686018427387904 ∧ mc ≤ cs.length ∧ mc ≤ 4611686018427387904), .bool (crowd.sp u r (ws.take mw) (cs.take mc)), [])
  | _ => none
theorem go (u r : Int) (ws cs : List Int) (mw mc : Nat) :
  runFn Try.prog (orc [⟨68, within.R⟩, ⟨46, areMany.R⟩]) hd0 Dr.std (some 0) 0 (bodyOf Try.f51) 33 [2] [.agg [.int .i64 u, .int .i64 r, .ro (.ints .i64 ws) mw 1, .ro (.ints .i64 cs) mc 1]] []
  = (bif true && true then bif true && true then bif true && true then bif true && (true && true || true && true) then bif decide ((1 : Int) ≤ u) && decide (u ≤ (8 : Int)) then bif true && true then bif true && (true && true || true && true) then bif decide ((1 : Int) ≤ r) && decide (r ≤ (8 : Int)) then bif true && true then bif true && true then bif decide ((0 : Int) ≤ r) then bif decide (mw ≤ ws.length ∧ mw ≤ (4611686018427387904 : Nat)) && (true && (true && (true && (true && (true && true)))) || true && true) then bif decide ((1 : Int) ≤ (↑mw : Int)) && decide ((↑mw : Int) ≤ (8 : Int)) && (List.take mw ws).all fun x => decide ((1 : Int) ≤ x) && decide (x ≤ IntKind.i64.wrap (ishl.sv IntKind.i64 (1 : Int) r - (1 : Int))) then bif true && true then bif decide (mc ≤ cs.length ∧ mc ≤ (4611686018427387904 : Nat)) && (true && (true && (true && true)) || true && true) then some (AVal.bool (decide (IntKind.i64.wrap (u * r) ≤ (↑mc : Int)) && decide ((↑mc : Int) ≤ IntKind.i64.wrap (u * r)) && (List.take mc cs).all fun x => decide ((-100000 : Int) ≤ x) && decide (x ≤ (100000 : Int))), []) else none else none else some (AVal.bool false, []) else none else none else none else none else some (AVal.bool false, []) else none else none else some (AVal.bool false, []) else none else none else none else none) := by kernel_rfl
theorem run : ∀ args v new, R args = some (true, v, new) → ∃ fuel, runFn Try.prog (orc [⟨68, within.R⟩, ⟨46, areMany.R⟩]) hd0 Dr.std (some 0) fuel (bodyOf Try.f51) 33 [2] args [] = some (v, new) := by
  intro args v new h
  unfold R at h
  split at h
  · rename_i u r ws mw cs mc
    simp only [Option.some.injEq, Prod.mk.injEq, decide_eq_true_eq] at h
    obtain ⟨⟨h1, h2, h3, h4⟩, rfl, rfl⟩ := h
    have e1 : (ws.take mw).length = mw := by simp; omega
    have e2 : (cs.take mc).length = mc := by simp; omega
    refine ⟨0, ?_⟩
    rw [go, crowd.hi_eq', crowd.winf_eq, crowd.cinf_eq]
    by_cases c1 : 1 ≤ u ∧ u ≤ 8
    case neg =>
      have c1' : (decide (1 ≤ u) && decide (u ≤ 8)) = false := by simp only [Bool.and_eq_false_iff, decide_eq_false_iff_not]; omega
      simp [crowd.sp, c1']
    by_cases c2 : 1 ≤ r ∧ r ≤ 8
    case neg =>
      have c2' : (decide (1 ≤ r) && decide (r ≤ 8)) = false := by simp only [Bool.and_eq_false_iff, decide_eq_false_iff_not]; omega
      simp [crowd.sp, c1, c2']
    have hp : 0 ≤ u * r := Int.mul_nonneg (by omega) (by omega)
    have hp' : u * r ≤ 8 * 8 := Int.mul_le_mul (by omega) (by omega) (by omega) (by omega)
    have hw : IntKind.i64.wrap (u * r) = u * r := IntWalk.i64_in _ (by omega)
    have h0 : (0 : Int) ≤ r := by omega
    have d1 : decide ((1 : Int) ≤ (mw : Int)) = decide (1 ≤ mw) := by congr 1; apply propext; omega
    have d2 : decide ((mw : Int) ≤ 8) = decide (mw ≤ 8) := by congr 1; apply propext; omega
    have d3 : (decide (u * r ≤ (mc : Int)) && decide ((mc : Int) ≤ u * r)) = decide ((mc : Int) = u * r) := by
      rw [← Bool.decide_and]; congr 1; apply propext; omega
    simp only [h0, c1, c2, h1, h2, h3, h4, hw, d1, d2, d3, e1, e2, crowd.sp, and_self, decide_true, Bool.and_self, Bool.or_self, Bool.and_true, Bool.true_and, Bool.or_true, cond_true]
    generalize (ws.take mw).all (crowd.win r) = b1
    generalize (cs.take mc).all crowd.cin = b2
    generalize (decide (1 ≤ mw) && decide (mw ≤ 8)) = b3
    generalize decide ((mc : Int) = u * r) = b4
    cases b1 <;> cases b2 <;> cases b3 <;> cases b4 <;> rfl
  · cases h
theorem ok : EntOk Try.prog ⟨51, R⟩ :=
  ent_okA mixed (A := (orc [⟨68, within.R⟩, ⟨46, areMany.R⟩])) (orc_ok (by simp only [List.mem_cons, List.not_mem_nil, or_false, forall_eq_or_imp, forall_eq]; exact ⟨within.ok, areMany.ok⟩)) Try.func51 (by kernel_rfl) (by kernel_rfl) (n := 33) (ts := [2]) (hd := hd0) (dr := Dr.std) (cut := (some 0)) (by kernel_rfl) (by kernel_rfl) (by kernel_rfl) run
end iValidCrowd


end Go.Proofs.Ytgeglpommdckgaa.Ab
