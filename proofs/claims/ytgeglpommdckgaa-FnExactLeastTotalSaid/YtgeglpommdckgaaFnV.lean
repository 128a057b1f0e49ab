/-
  Functions: costs and totals of crowds.
-/
import Derived.Test.YtgeglpommdckgaaFnU
import Derived.Test.YtgeglpommdckgaaFnS
import Derived.Test.YtgeglpommdckgaaFnC
namespace Go.Proofs.Ytgeglpommdckgaa.Ab
open Go
set_option linter.unusedVariables false
set_option linter.unusedSimpArgs false
set_option maxRecDepth 100000

def pays.sv (u r : Int) (ws cs xs : List Int) : List Int := xs.map (pay.sv u r ws cs xs)
theorem pays_length (u r : Int) (ws cs xs : List Int) : (pays.sv u r ws cs xs).length = xs.length := by simp [pays.sv]
def total.sv (u r : Int) (ws cs xs : List Int) : Int := bif load.sp u r ws cs xs then sumOf.sp (pays.sv u r ws cs xs) else 0

namespace iCosts
def dr : Nat → Dr := Dr.std
def R : List AVal → Option (Bool × AVal × List Blk)
  | [.agg [.int .i64 u, .int .i64 r, .ro (.ints .i64 ws) mw 1, .ro (.ints .i64 cs) mc 1], .ro (.ints .i64 xs) l 1] => some (decide (mw ≤ ws.length ∧ mw ≤ 4611686018427387904 ∧ mc ≤ cs.length ∧ mc ≤ 4611686018427387904 ∧ l ≤ xs.length ∧ l ≤ 4611686018427387904) && load.sp u r (ws.take mw) (cs.take mc) (xs.take l), .own 0 0 (pays.sv u r (ws.take mw) (cs.take mc) (xs.take l)).length 0 1, [⟨.typ (.ints .i64 (pays.sv u r (ws.take mw) (cs.take mc) (xs.take l))), 0⟩])
  | _ => none
def hd : Nat → Head := fun _ => ⟨[2, 5, 6, 12, 13, 14], some 3⟩
noncomputable def L (f n : Nat) (s : State) := loopAt Try.prog (orcW [⟨80, iPays.R⟩] [⟨55, slClone.R⟩]) hd dr 0 f (bodyOf Try.f72) 0 [true, true, true, false, true] (retK Try.prog [4] 0 none) n s
theorem start (u r : Int) (ws cs : List Int) (mw mc : Nat) (xs : List Int) (l : Nat) (f : Nat) :
  runFn Try.prog (orcW [⟨80, iPays.R⟩] [⟨55, slClone.R⟩]) hd dr none f (bodyOf Try.f72) 29 [4] [.agg [.int .i64 u, .int .i64 r, .ro (.ints .i64 ws) mw 1, .ro (.ints .i64 cs) mc 1], .ro (.ints .i64 xs) l 1] []
  = (bif decide ((0 : Nat) < l ∧ l ≤ xs.length ∧ l ≤ (1048576 : Nat)) && (true && true || true && (true && true)) then L f f (mkS (29 : Nat) [((2 : Nat), AVal.ptr (0 : Nat) (0 : Nat) (0 : Nat)), ((5 : Nat), AVal.own (1 : Nat) (0 : Nat) l (0 : Nat) (1 : Nat)), ((6 : Nat), AVal.own ((1 : Nat) + (1 : Nat)) (0 : Nat) (0 : Nat) (0 : Nat) (1 : Nat)), ((12 : Nat), AVal.ro (Cont.ints IntKind.i64 xs) l (1 : Nat)), ((13 : Nat), AVal.int IntKind.i64 (↑l : Int)), ((14 : Nat), AVal.int IntKind.i64 (0 : Int))] [{ c := BC.cells [AVal.int IntKind.i64 u, AVal.int IntKind.i64 r, AVal.ro (Cont.ints IntKind.i64 ws) mw (1 : Nat), AVal.ro (Cont.ints IntKind.i64 cs) mc (1 : Nat)], ver := (0 : Nat) }, { c := BC.typ (Cont.ints IntKind.i64 (List.take l xs)), ver := (0 : Nat) }, { c := BC.typ (Cont.ints IntKind.i64 (List.replicate (0 : Nat) (0 : Int))), ver := (0 : Nat) }]) else none) := by kernel_rfl
theorem round (u r : Int) (ws cs : List Int) (mw mc : Nat) (xs : List Int) (l : Nat) (zs ys : List Int) (i f n : Nat) :
  L f (n + 1) (mkS 29 [(2, .ptr 0 0 0), (5, .own 1 0 l 0 1), (6, .own 2 0 i 0 1), (12, .ro (.ints .i64 xs) l 1), (13, .int .i64 l), (14, .int .i64 i)] [⟨.cells [.int .i64 u, .int .i64 r, .ro (.ints .i64 ws) mw 1, .ro (.ints .i64 cs) mc 1], 0⟩, ⟨.typ (.ints .i64 zs), 0⟩, ⟨.typ (.ints .i64 ys), 0⟩])
  = (bif decide ((↑i : Int) < (↑l : Int)) then bif true && (decide ((0 : Int) ≤ (↑i : Int)) && decide ((↑i : Int) < (↑l : Int))) then bif decide ((↑i : Int).toNat < xs.length) then bif true && true && (true && true && (true && true && (true && true && true))) then bif decide (mw ≤ ws.length ∧ mw ≤ (4611686018427387904 : Nat) ∧ mc ≤ cs.length ∧ mc ≤ (4611686018427387904 : Nat) ∧ l = zs.length ∧ l ≤ (4611686018427387904 : Nat) ∧ (0 : Int) ≤ (↑i : Int) ∧ (↑i : Int) < (↑l : Int)) && load.sp u r (List.take mw ws) (List.take mc cs) (zs.set (↑i : Int).toNat (gz xs (↑i : Int).toNat)) && (true && (true && true)) then bif (1 : Nat) == (1 : Nat) && (1 : Nat) == (1 : Nat) && (true && (true && true) && (true && true && (decide (i + (List.take (1 : Nat) (List.drop (0 : Nat) ((List.replicate (1 : Nat) (0 : Int)).set (0 : Nat) (pay.sv u r (List.take mw ws) (List.take mc cs) (zs.set (↑i : Int).toNat (gz xs (↑i : Int).toNat)) (gz xs (↑i : Int).toNat))))).length ≤ (4611686018427387904 : Nat)) && decide ((i + (List.take (1 : Nat) (List.drop (0 : Nat) ((List.replicate (1 : Nat) (0 : Int)).set (0 : Nat) (pay.sv u r (List.take mw ws) (List.take mc cs) (zs.set (↑i : Int).toNat (gz xs (↑i : Int).toNat)) (gz xs (↑i : Int).toNat))))).length) * (8 : Nat) ≤ (140737488355328 : Nat))))) then L f n (mkS (29 : Nat) [((2 : Nat), AVal.ptr (0 : Nat) (0 : Nat) (0 : Nat)), ((5 : Nat), AVal.own (1 : Nat) (0 : Nat) l (0 : Nat) (1 : Nat)), ((6 : Nat), AVal.own (2 : Nat) (0 : Nat) (i + (List.take (1 : Nat) (List.drop (0 : Nat) ((List.replicate (1 : Nat) (0 : Int)).set (0 : Nat) (pay.sv u r (List.take mw ws) (List.take mc cs) (zs.set (↑i : Int).toNat (gz xs (↑i : Int).toNat)) (gz xs (↑i : Int).toNat))))).length) (0 : Nat) (1 : Nat)), ((12 : Nat), AVal.ro (Cont.ints IntKind.i64 xs) l (1 : Nat)), ((13 : Nat), AVal.int IntKind.i64 (↑l : Int)), ((14 : Nat), AVal.int IntKind.i64 (IntKind.i64.wrap ((↑i : Int) + (1 : Int))))] [{ c := BC.cells [AVal.int IntKind.i64 u, AVal.int IntKind.i64 r, AVal.ro (Cont.ints IntKind.i64 ws) mw (1 : Nat), AVal.ro (Cont.ints IntKind.i64 cs) mc (1 : Nat)], ver := (0 : Nat) }, { c := BC.typ (Cont.ints IntKind.i64 zs), ver := (0 : Nat) }, { c := BC.typ (Cont.ints IntKind.i64 (List.take i ys ++ List.take (1 : Nat) (List.drop (0 : Nat) ((List.replicate (1 : Nat) (0 : Int)).set (0 : Nat) (pay.sv u r (List.take mw ws) (List.take mc cs) (zs.set (↑i : Int).toNat (gz xs (↑i : Int).toNat)) (gz xs (↑i : Int).toNat)))))), ver := (0 : Nat) }]) else none else none else none else none else none else some (AVal.own (2 : Nat) (0 : Nat) i (0 : Nat) (1 : Nat), [{ c := BC.cells [AVal.int IntKind.i64 u, AVal.int IntKind.i64 r, AVal.ro (Cont.ints IntKind.i64 ws) mw (1 : Nat), AVal.ro (Cont.ints IntKind.i64 cs) mc (1 : Nat)], ver := (0 : Nat) }, { c := BC.typ (Cont.ints IntKind.i64 zs), ver := (0 : Nat) }, { c := BC.typ (Cont.ints IntKind.i64 ys), ver := (0 : Nat) }])) := by kernel_rfl
theorem loop (u r : Int) (ws cs : List Int) (mw mc : Nat) (xs : List Int) (l : Nat) (f : Nat) (h1c : mw ≤ ws.length) (h2c : mw ≤ 4611686018427387904) (h3c : mc ≤ cs.length) (h4c : mc ≤ 4611686018427387904) (hx : l ≤ xs.length) (hb : l ≤ 1000) (hv : load.sp u r (ws.take mw) (cs.take mc) (xs.take l) = true) (e3 : (xs.take l).length = l) : ∀ (d i n : Nat) (ys : List Int), i + d = l → d < n → ys.length = i → ys = (pays.sv u r (ws.take mw) (cs.take mc) (xs.take l)).take i →
    L f n (mkS 29 [(2, .ptr 0 0 0), (5, .own 1 0 l 0 1), (6, .own 2 0 i 0 1), (12, .ro (.ints .i64 xs) l 1), (13, .int .i64 l), (14, .int .i64 i)] [⟨.cells [.int .i64 u, .int .i64 r, .ro (.ints .i64 ws) mw 1, .ro (.ints .i64 cs) mc 1], 0⟩, ⟨.typ (.ints .i64 (xs.take l)), 0⟩, ⟨.typ (.ints .i64 ys), 0⟩]) = some (.own 2 0 l 0 1, [⟨.cells [.int .i64 u, .int .i64 r, .ro (.ints .i64 ws) mw 1, .ro (.ints .i64 cs) mc 1], 0⟩, ⟨.typ (.ints .i64 (xs.take l)), 0⟩, ⟨.typ (.ints .i64 (pays.sv u r (ws.take mw) (cs.take mc) (xs.take l))), 0⟩]) := by
  intro d
  induction d with
  | zero =>
    intro i n ys hi hn hl ht
    obtain ⟨n, rfl⟩ : ∃ k, n = k + 1 := ⟨n - 1, by omega⟩
    obtain rfl : i = l := by omega
    rw [round]
    have : ys = pays.sv u r (ws.take mw) (cs.take mc) (xs.take i) := by rw [ht, List.take_of_length_le (by rw [pays_length, e3]; omega)]
    subst this
    simp
  | succ d ih =>
    intro i n ys hi hn hl ht
    obtain ⟨n, rfl⟩ : ∃ k, n = k + 1 := ⟨n - 1, by omega⟩
    have h1 : i < l := by omega
    have h4 : (0 : Int) ≤ (i : Int) := Int.natCast_nonneg _
    have h5 : (i : Int) < (l : Int) := by omega
    have h2 : i < xs.length := by omega
    rw [round]
    have hget : (pays.sv u r (ws.take mw) (cs.take mc) (xs.take l))[i]'(by rw [pays_length, e3]; exact h1) = pay.sv u r (ws.take mw) (cs.take mc) (xs.take l) xs[i] := by simp [pays.sv]
    have hv2 : i < (pays.sv u r (ws.take mw) (cs.take mc) (xs.take l)).length := by rw [pays_length, e3]; exact h1
    have hnext : ys ++ [pay.sv u r (ws.take mw) (cs.take mc) (xs.take l) xs[i]] = (pays.sv u r (ws.take mw) (cs.take mc) (xs.take l)).take (i + 1) := by
      rw [List.take_add_one, ← ht, List.getElem?_eq_getElem hv2, hget]; rfl
    have htk : ys.take i = ys := List.take_of_length_le (by omega)
    have k0 : i + 1 ≤ 4611686018427387904 := by omega
    have k1 : (i + 1) * 8 ≤ 140737488355328 := by omega
    have hself : (xs.take l).set i xs[i] = xs.take l := by
      have : xs[i] = (xs.take l)[i]'(by rw [e3]; exact h1) := by simp
      rw [this, List.set_getElem_self]
    have hb6 : l ≤ 4611686018427387904 := by omega
    simp only [Int.toNat_natCast, gz_eq h2, hself, e3, h4, h5, h2, h1c, h2c, h3c, h4c, hb6, hv, htk, one_set, List.length_singleton, k0, k1, Nat.le_refl, and_self, decide_true, Bool.and_self, Bool.or_self, Bool.and_true, Bool.true_and, Bool.or_true, cond_true, Nat.reduceBEq, wrap_nat i (by omega)]
    rw [hnext]
    exact ih (i + 1) n _ (by omega) (by omega) (by rw [List.length_take, pays_length, e3]; omega) rfl
theorem run : ∀ args v new, R args = some (true, v, new) → ∃ fuel, regc [2] (runFn Try.prog (orcW [⟨80, iPays.R⟩] [⟨55, slClone.R⟩]) hd dr none fuel (bodyOf Try.f72) 29 [4] args []) = some (v, new) := by
  intro args v new h
  unfold R at h
  split at h
  · rename_i u r ws mw cs mc xs l
    simp only [Option.some.injEq, Prod.mk.injEq, Bool.and_eq_true, decide_eq_true_eq, Bool.not_eq_true'] at h
    obtain ⟨⟨⟨h1, h2, h3, h4, h5, h6⟩, hv⟩, rfl, rfl⟩ := h
    have e1 : (ws.take mw).length = mw := by simp; omega
    have e2 : (cs.take mc).length = mc := by simp; omega
    have e3 : (xs.take l).length = l := by simp; omega
    obtain ⟨v1, v2, v3, v4, v5, v6, v7⟩ := load.valid hv
    rw [e3] at v5
    refine ⟨l + 1, ?_⟩
    rw [start]
    have hl := loop u r ws cs mw mc xs l (l + 1) h1 h2 h3 h4 h5 (by omega) hv e3 l 0 (l + 1) [] (by omega) (by omega) rfl (by simp)
    have p0 : 0 < l := by omega
    have p1 : l ≤ 1048576 := by omega
    rw [pays_length, e3]
    simp only [p0, p1, h5, and_self, decide_true, Bool.and_self, Bool.or_self, Bool.and_true, Bool.true_and, Bool.or_true, cond_true]
    exact (congrArg (regc [2]) hl).trans rfl
  · cases h
theorem ok : EntOk Try.prog ⟨72, R⟩ :=
  ent_okAG (ks := [2]) mixed (A := (orcW [⟨80, iPays.R⟩] [⟨55, slClone.R⟩])) (orcW_ok (by simp only [List.mem_cons, List.not_mem_nil, or_false, forall_eq_or_imp, forall_eq]; exact iPays.ok) (by simp only [List.mem_cons, List.not_mem_nil, or_false, forall_eq_or_imp, forall_eq]; exact slClone.ok)) Try.func72 (by kernel_rfl) (by kernel_rfl) (n := 29) (ts := [4]) (hd := hd) (dr := dr) (cut := none) (by kernel_rfl) (by kernel_rfl) (by kernel_rfl) run
end iCosts

namespace iTotal
def R : List AVal → Option (Bool × AVal × List Blk)
  | [.agg [.int .i64 u, .int .i64 r, .ro (.ints .i64 ws) mw 1, .ro (.ints .i64 cs) mc 1], .ro (.ints .i64 xs) l 1] => some (decide (mw ≤ ws.length ∧ mw ≤ 4611686018427387904 ∧ mc ≤ cs.length ∧ mc ≤ 4611686018427387904 ∧ l ≤ xs.length ∧ l ≤ 4611686018427387904) && load.sp u r (ws.take mw) (cs.take mc) (xs.take l), .int .i64 (sumOf.sp (pays.sv u r (ws.take mw) (cs.take mc) (xs.take l))), [])
  | _ => none
theorem go (u r : Int) (ws cs : List Int) (mw mc : Nat) (xs : List Int) (l : Nat) :
  runFn Try.prog (orc [⟨72, iCosts.R⟩, ⟨71, sumOf.R⟩]) hd0 Dr.std (some 0) 0 (bodyOf Try.f54) 9 [4] [.agg [.int .i64 u, .int .i64 r, .ro (.ints .i64 ws) mw 1, .ro (.ints .i64 cs) mc 1], .ro (.ints .i64 xs) l 1] []
  = (bif true && true && (true && true && (true && true && (true && true && true))) then bif decide (mw ≤ ws.length ∧ mw ≤ (4611686018427387904 : Nat) ∧ mc ≤ cs.length ∧ mc ≤ (4611686018427387904 : Nat) ∧ l ≤ xs.length ∧ l ≤ (4611686018427387904 : Nat)) && load.sp u r (List.take mw ws) (List.take mc cs) (List.take l xs) && (true && (true && (true && (true && true))) && (true && true) || true && (true && true)) then bif decide ((pays.sv u r (List.take mw ws) (List.take mc cs) (List.take l xs)).length ≤ (pays.sv u r (List.take mw ws) (List.take mc cs) (List.take l xs)).length ∧ (pays.sv u r (List.take mw ws) (List.take mc cs) (List.take l xs)).length ≤ (4611686018427387904 : Nat)) && (false && true || true && true) then some (AVal.int IntKind.i64 (sumOf.sp (List.take (pays.sv u r (List.take mw ws) (List.take mc cs) (List.take l xs)).length (pays.sv u r (List.take mw ws) (List.take mc cs) (List.take l xs)))), []) else none else none else none) := by kernel_rfl
theorem run : ∀ args v new, R args = some (true, v, new) → ∃ fuel, runFn Try.prog (orc [⟨72, iCosts.R⟩, ⟨71, sumOf.R⟩]) hd0 Dr.std (some 0) fuel (bodyOf Try.f54) 9 [4] args [] = some (v, new) := by
  intro args v new h
  unfold R at h
  split at h
  · rename_i u r ws mw cs mc xs l
    simp only [Option.some.injEq, Prod.mk.injEq, Bool.and_eq_true, decide_eq_true_eq, Bool.not_eq_true'] at h
    obtain ⟨⟨⟨h1, h2, h3, h4, h5, h6⟩, hv⟩, rfl, rfl⟩ := h
    have e1 : (ws.take mw).length = mw := by simp; omega
    have e2 : (cs.take mc).length = mc := by simp; omega
    have e3 : (xs.take l).length = l := by simp; omega
    obtain ⟨v1, v2, v3, v4, v5, v6, v7⟩ := load.valid hv
    rw [e3] at v5
    refine ⟨0, ?_⟩
    rw [go]
    have p1 : (pays.sv u r (ws.take mw) (cs.take mc) (xs.take l)).length ≤ 4611686018427387904 := by rw [pays_length, e3]; omega
    simp only [h1, h2, h3, h4, h5, h6, hv, p1, Nat.le_refl, List.take_length, and_self, decide_true, Bool.and_self, Bool.or_self, Bool.and_true, Bool.true_and, Bool.or_true, cond_true]
  · cases h
theorem ok : EntOk Try.prog ⟨54, R⟩ :=
  ent_okA mixed (A := (orc [⟨72, iCosts.R⟩, ⟨71, sumOf.R⟩])) (orc_ok (by simp only [List.mem_cons, List.not_mem_nil, or_false, forall_eq_or_imp, forall_eq]; exact ⟨iCosts.ok, sumOf.ok⟩)) Try.func54 (by kernel_rfl) (by kernel_rfl) (n := 9) (ts := [4]) (hd := hd0) (dr := Dr.std) (cut := (some 0)) (by kernel_rfl) (by kernel_rfl) (by kernel_rfl) run
end iTotal

namespace l06Total
def dr : Nat → Dr := Dr.std
def R : List AVal → Option (Bool × AVal × List Blk)
  | [.rom [.int .i64 u, .int .i64 r, .ro (.ints .i64 ws) mw 1, .ro (.ints .i64 cs) mc 1] 0, .ro (.ints .i64 xs) l 1] => some (decide (mw ≤ ws.length ∧ mw ≤ 4611686018427387904 ∧ mc ≤ cs.length ∧ mc ≤ 4611686018427387904 ∧ l ≤ xs.length ∧ l ≤ 4611686018427387904) && load.sp u r (ws.take mw) (cs.take mc) (xs.take l), .int .i64 (sumOf.sp (pays.sv u r (ws.take mw) (cs.take mc) (xs.take l))), [])
  | _ => none
def hd : Nat → Head := fun _ => ⟨[0, 1, 5, 6], none⟩
noncomputable def L (f n : Nat) (s : State) := loopAt Try.prog (orc [⟨70, l06Pays.R⟩]) hd dr 0 f (bodyOf Try.f49) 0 [true, true, false, true] (retK Try.prog [4] 0 none) n s
theorem start (u r : Int) (ws cs : List Int) (mw mc : Nat) (xs : List Int) (l : Nat) (f : Nat) :
  runFn Try.prog (orc [⟨70, l06Pays.R⟩]) hd dr none f (bodyOf Try.f49) 22 [4] [.rom [.int .i64 u, .int .i64 r, .ro (.ints .i64 ws) mw 1, .ro (.ints .i64 cs) mc 1] 0, .ro (.ints .i64 xs) l 1] []
  = (L f f (mkS (22 : Nat) [((0 : Nat), AVal.rom [AVal.int IntKind.i64 u, AVal.int IntKind.i64 r, AVal.ro (Cont.ints IntKind.i64 ws) mw (1 : Nat), AVal.ro (Cont.ints IntKind.i64 cs) mc (1 : Nat)] (0 : Nat)), ((1 : Nat), AVal.ro (Cont.ints IntKind.i64 xs) l (1 : Nat)), ((5 : Nat), AVal.int IntKind.i64 (0 : Int)), ((6 : Nat), AVal.int IntKind.i64 (0 : Int))] [])) := by kernel_rfl
theorem round (u r : Int) (ws cs : List Int) (mw mc : Nat) (xs : List Int) (l : Nat) (a : Int) (i f n : Nat) :
  L f (n + 1) (mkS 22 [(0, .rom [.int .i64 u, .int .i64 r, .ro (.ints .i64 ws) mw 1, .ro (.ints .i64 cs) mc 1] 0), (1, .ro (.ints .i64 xs) l 1), (5, .int .i64 a), (6, .int .i64 i)] [])
  = (bif decide ((↑i : Int) < u) then bif decide (mw ≤ ws.length ∧ mw ≤ (4611686018427387904 : Nat) ∧ mc ≤ cs.length ∧ mc ≤ (4611686018427387904 : Nat) ∧ l ≤ xs.length ∧ l ≤ (4611686018427387904 : Nat) ∧ (0 : Int) ≤ (↑i : Int) ∧ (↑i : Int) < (↑l : Int)) && load.sp u r (List.take mw ws) (List.take mc cs) (List.take l xs) && (true && (true && (true && (true && true))) && (true && (true && true)) || true && true) then L f n (mkS (22 : Nat) [((0 : Nat), AVal.rom [AVal.int IntKind.i64 u, AVal.int IntKind.i64 r, AVal.ro (Cont.ints IntKind.i64 ws) mw (1 : Nat), AVal.ro (Cont.ints IntKind.i64 cs) mc (1 : Nat)] (0 : Nat)), ((1 : Nat), AVal.ro (Cont.ints IntKind.i64 xs) l (1 : Nat)), ((5 : Nat), AVal.int IntKind.i64 (IntKind.i64.wrap (a + pay.sv u r (List.take mw ws) (List.take mc cs) (List.take l xs) (gz xs (↑i : Int).toNat)))), ((6 : Nat), AVal.int IntKind.i64 (IntKind.i64.wrap ((↑i : Int) + (1 : Int))))] []) else none else some (AVal.int IntKind.i64 a, [])) := by kernel_rfl
theorem loop (u r : Int) (ws cs : List Int) (mw mc : Nat) (xs : List Int) (l : Nat) (f : Nat) (h1c : mw ≤ ws.length) (h2c : mw ≤ 4611686018427387904) (h3c : mc ≤ cs.length) (h4c : mc ≤ 4611686018427387904) (hx : l ≤ xs.length) (hb : l ≤ 1000) (hv : load.sp u r (ws.take mw) (cs.take mc) (xs.take l) = true) (hul : (l : Int) = u) : ∀ (d i n : Nat) (a : Int), i + d = l → d < n →
    L f n (mkS 22 [(0, .rom [.int .i64 u, .int .i64 r, .ro (.ints .i64 ws) mw 1, .ro (.ints .i64 cs) mc 1] 0), (1, .ro (.ints .i64 xs) l 1), (5, .int .i64 a), (6, .int .i64 i)] []) = some (.int .i64 ((((xs.take l).drop i).map (pay.sv u r (ws.take mw) (cs.take mc) (xs.take l))).foldl (fun s x => IntKind.i64.wrap (s + x)) a), []) := by
  intro d
  induction d with
  | zero =>
    intro i n a hi hn 
    obtain ⟨n, rfl⟩ : ∃ k, n = k + 1 := ⟨n - 1, by omega⟩
    obtain rfl : i = l := by omega
    rw [round]
    have e : (xs.take i).drop i = [] := by simp
    have c : ¬ ((i : Int) < u) := by omega
    simp [e, c]
  | succ d ih =>
    intro i n a hi hn 
    obtain ⟨n, rfl⟩ : ∃ k, n = k + 1 := ⟨n - 1, by omega⟩
    have h1 : i < l := by omega
    have h4 : (0 : Int) ≤ (i : Int) := Int.natCast_nonneg _
    have h5 : (i : Int) < (l : Int) := by omega
    have h2 : i < xs.length := by omega
    rw [round]
    have hb6 : l ≤ 4611686018427387904 := by omega
    have h6 : (i : Int) < u := by omega
    rw [drop_take_cons hx h1, List.map_cons, List.foldl_cons]
    simp only [Int.toNat_natCast, gz_eq h2, h4, h5, h6, h2, h1c, h2c, h3c, h4c, hx, hb6, hv, and_self, decide_true, Bool.and_self, Bool.or_self, Bool.and_true, Bool.true_and, Bool.or_true, cond_true, wrap_nat i (by omega)]
    exact ih (i + 1) n _ (by omega) (by omega)
theorem run : ∀ args v new, R args = some (true, v, new) → ∃ fuel, runFn Try.prog (orc [⟨70, l06Pays.R⟩]) hd dr none fuel (bodyOf Try.f49) 22 [4] args [] = some (v, new) := by
  intro args v new h
  unfold R at h
  split at h
  · rename_i u r ws mw cs mc xs l
    simp only [Option.some.injEq, Prod.mk.injEq, Bool.and_eq_true, decide_eq_true_eq, Bool.not_eq_true'] at h
    obtain ⟨⟨⟨h1, h2, h3, h4, h5, h6⟩, hv⟩, rfl, rfl⟩ := h
    have e1 : (ws.take mw).length = mw := by simp; omega
    have e2 : (cs.take mc).length = mc := by simp; omega
    have e3 : (xs.take l).length = l := by simp; omega
    obtain ⟨v1, v2, v3, v4, v5, v6, v7⟩ := load.valid hv
    rw [e3] at v5
    refine ⟨l + 1, ?_⟩
    rw [start]
    exact loop u r ws cs mw mc xs l (l + 1) h1 h2 h3 h4 h5 (by omega) hv v5 l 0 (l + 1) 0 (by omega) (by omega)
  · cases h
theorem ok : EntOk Try.prog ⟨49, R⟩ :=
  ent_okA mixed (A := (orc [⟨70, l06Pays.R⟩])) (orc_ok (by simp only [List.mem_cons, List.not_mem_nil, or_false, forall_eq_or_imp, forall_eq]; exact l06Pays.ok)) Try.func49 (by kernel_rfl) (by kernel_rfl) (n := 22) (ts := [4]) (hd := hd) (dr := dr) (cut := none) (by kernel_rfl) (by kernel_rfl) (by kernel_rfl) run
end l06Total




end Go.Proofs.Ytgeglpommdckgaa.Ab
