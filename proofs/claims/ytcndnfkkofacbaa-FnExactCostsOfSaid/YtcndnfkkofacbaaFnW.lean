/-
  Functions: what all users of crowds pay.
-/
import Derived.Test.YtcndnfkkofacbaaFnV
namespace Go.Proofs.Ytcndnfkkofacbaa.Ab
open Go
set_option linter.unusedVariables false
set_option linter.unusedSimpArgs false
set_option maxRecDepth 100000

namespace iCostsOf_t
def R : List AVal → Option (Bool × AVal × List Blk)
  | [.agg [.int .i64 u, .int .i64 r, .ro (.ints .i64 ws) mw 1, .ro (.ints .i64 cs) mc 1], .ro (.ints .i64 xs) l 1] => some (decide (mw ≤ ws.length ∧ mw ≤ 4611686018427387904 ∧ mc ≤ cs.length ∧ mc ≤ 4611686018427387904 ∧ l ≤ xs.length ∧ l ≤ 4611686018427387904) && load.sp u r (ws.take mw) (cs.take mc) (xs.take l), .tup [.own 0 0 (pays.sv u r (ws.take mw) (cs.take mc) (xs.take l)).length 0 1, .bool true], [⟨.typ (.ints .i64 (pays.sv u r (ws.take mw) (cs.take mc) (xs.take l))), 0⟩])
  | _ => none
theorem go (u r : Int) (ws cs : List Int) (mw mc : Nat) (xs : List Int) (l : Nat) :
  runFn Try.prog (orc [⟨88, chosen.R⟩, ⟨101, iCosts.R⟩]) hd0 Dr.std none 0 (bodyOf Try.f45) 13 [4, 5] [.agg [.int .i64 u, .int .i64 r, .ro (.ints .i64 ws) mw 1, .ro (.ints .i64 cs) mc 1], .ro (.ints .i64 xs) l 1] []
  = (bif true && true && (true && true && (true && true && (true && true && true))) then bif decide (mw ≤ ws.length ∧ mw ≤ (4611686018427387904 : Nat) ∧ mc ≤ cs.length ∧ mc ≤ (4611686018427387904 : Nat) ∧ l ≤ xs.length ∧ l ≤ (4611686018427387904 : Nat)) && (true && (true && (true && (true && true))) && (true && true) || true && true) then bif !load.sp u r (List.take mw ws) (List.take mc cs) (List.take l xs) then some (AVal.tup [AVal.nils, AVal.bool false], [{ c := BC.cells [AVal.int IntKind.i64 u, AVal.int IntKind.i64 r, AVal.ro (Cont.ints IntKind.i64 ws) mw (1 : Nat), AVal.ro (Cont.ints IntKind.i64 cs) mc (1 : Nat)], ver := (0 : Nat) }]) else bif true && true && (true && true && (true && true && (true && true && true))) then bif decide (mw ≤ ws.length ∧ mw ≤ (4611686018427387904 : Nat) ∧ mc ≤ cs.length ∧ mc ≤ (4611686018427387904 : Nat) ∧ l ≤ xs.length ∧ l ≤ (4611686018427387904 : Nat)) && load.sp u r (List.take mw ws) (List.take mc cs) (List.take l xs) && (true && (true && (true && (true && true))) && (true && true) || true && (true && true)) then some (AVal.tup [AVal.own (1 : Nat) (0 : Nat) (pays.sv u r (List.take mw ws) (List.take mc cs) (List.take l xs)).length (0 : Nat) (1 : Nat), AVal.bool true], [{ c := BC.cells [AVal.int IntKind.i64 u, AVal.int IntKind.i64 r, AVal.ro (Cont.ints IntKind.i64 ws) mw (1 : Nat), AVal.ro (Cont.ints IntKind.i64 cs) mc (1 : Nat)], ver := (0 : Nat) }, { c := BC.typ (Cont.ints IntKind.i64 (pays.sv u r (List.take mw ws) (List.take mc cs) (List.take l xs))), ver := (0 : Nat) }]) else none else none else none else none) := by kernel_rfl
theorem run : ∀ args v new, R args = some (true, v, new) → ∃ fuel, regc [1] (runFn Try.prog (orc [⟨88, chosen.R⟩, ⟨101, iCosts.R⟩]) hd0 Dr.std none fuel (bodyOf Try.f45) 13 [4, 5] args []) = some (v, new) := by
  intro args v new h
  unfold R at h
  split at h
  · rename_i u r ws mw cs mc xs l
    simp only [Option.some.injEq, Prod.mk.injEq, Bool.and_eq_true, decide_eq_true_eq, Bool.not_eq_true'] at h
    obtain ⟨⟨⟨h1, h2, h3, h4, h5, h6⟩, hv⟩, rfl, rfl⟩ := h
    refine ⟨0, ?_⟩
    rw [go]
    simp only [h1, h2, h3, h4, h5, h6, hv, and_self, decide_true, Bool.and_self, Bool.or_self, Bool.and_true, Bool.true_and, Bool.or_true, cond_true, cond_false, Bool.not_true, Bool.not_false]
    try rfl
  · cases h
theorem ok : EntOk Try.prog ⟨45, R⟩ :=
  ent_okAG (ks := [1]) mixed (A := (orc [⟨88, chosen.R⟩, ⟨101, iCosts.R⟩])) (orc_ok (by simp only [List.mem_cons, List.not_mem_nil, or_false, forall_eq_or_imp, forall_eq]; exact ⟨chosen.ok, iCosts.ok⟩)) Try.func45 (by kernel_rfl) (by kernel_rfl) (n := 13) (ts := [4, 5]) (hd := hd0) (dr := Dr.std) (cut := none) (by kernel_rfl) (by kernel_rfl) (by kernel_rfl) run
end iCostsOf_t

namespace iCostsOf_f
def R : List AVal → Option (Bool × AVal × List Blk)
  | [.agg [.int .i64 u, .int .i64 r, .ro (.ints .i64 ws) mw 1, .ro (.ints .i64 cs) mc 1], .ro (.ints .i64 xs) l 1] => some (decide (mw ≤ ws.length ∧ mw ≤ 4611686018427387904 ∧ mc ≤ cs.length ∧ mc ≤ 4611686018427387904 ∧ l ≤ xs.length ∧ l ≤ 4611686018427387904) && !load.sp u r (ws.take mw) (cs.take mc) (xs.take l), .tup [.nils, .bool false], [])
  | _ => none
theorem go (u r : Int) (ws cs : List Int) (mw mc : Nat) (xs : List Int) (l : Nat) :
  runFn Try.prog (orc [⟨88, chosen.R⟩]) hd0 Dr.std (some 0) 0 (bodyOf Try.f45) 13 [4, 5] [.agg [.int .i64 u, .int .i64 r, .ro (.ints .i64 ws) mw 1, .ro (.ints .i64 cs) mc 1], .ro (.ints .i64 xs) l 1] []
  = (bif true && true && (true && true && (true && true && (true && true && true))) then bif decide (mw ≤ ws.length ∧ mw ≤ (4611686018427387904 : Nat) ∧ mc ≤ cs.length ∧ mc ≤ (4611686018427387904 : Nat) ∧ l ≤ xs.length ∧ l ≤ (4611686018427387904 : Nat)) && (true && (true && (true && (true && true))) && (true && true) || true && true) then bif !load.sp u r (List.take mw ws) (List.take mc cs) (List.take l xs) then some (AVal.tup [AVal.nils, AVal.bool false], []) else bif true && true && (true && true && (true && true && (true && true && true))) then none else none else none else none) := by kernel_rfl
theorem run : ∀ args v new, R args = some (true, v, new) → ∃ fuel, runFn Try.prog (orc [⟨88, chosen.R⟩]) hd0 Dr.std (some 0) fuel (bodyOf Try.f45) 13 [4, 5] args [] = some (v, new) := by
  intro args v new h
  unfold R at h
  split at h
  · rename_i u r ws mw cs mc xs l
    simp only [Option.some.injEq, Prod.mk.injEq, Bool.and_eq_true, decide_eq_true_eq, Bool.not_eq_true'] at h
    obtain ⟨⟨⟨h1, h2, h3, h4, h5, h6⟩, hv⟩, rfl, rfl⟩ := h
    refine ⟨0, ?_⟩
    rw [go]
    simp only [h1, h2, h3, h4, h5, h6, hv, and_self, decide_true, Bool.and_self, Bool.or_self, Bool.and_true, Bool.true_and, Bool.or_true, cond_true, cond_false, Bool.not_true, Bool.not_false]
    try rfl
  · cases h
theorem ok : EntOk Try.prog ⟨45, R⟩ :=
  ent_okA mixed (A := (orc [⟨88, chosen.R⟩])) (orc_ok (by simp only [List.mem_cons, List.not_mem_nil, or_false, forall_eq_or_imp, forall_eq]; exact chosen.ok)) Try.func45 (by kernel_rfl) (by kernel_rfl) (n := 13) (ts := [4, 5]) (hd := hd0) (dr := Dr.std) (cut := (some 0)) (by kernel_rfl) (by kernel_rfl) (by kernel_rfl) run
end iCostsOf_f

namespace iCostsOf
def Rt := iCostsOf_t.R
def Rf := iCostsOf_f.R
theorem okt : EntOk Try.prog ⟨45, Rt⟩ := iCostsOf_t.ok
theorem okf : EntOk Try.prog ⟨45, Rf⟩ := iCostsOf_f.ok
end iCostsOf

namespace sCostsOf_t
def R : List AVal → Option (Bool × AVal × List Blk)
  | [.agg [.int .i64 u, .int .i64 r, .ro (.ints .i64 ws) mw 1, .ro (.ints .i64 cs) mc 1], .ro (.ints .i64 xs) l 1] => some (decide (mw ≤ ws.length ∧ mw ≤ 4611686018427387904 ∧ mc ≤ cs.length ∧ mc ≤ 4611686018427387904 ∧ l ≤ xs.length ∧ l ≤ 4611686018427387904) && load.sp u r (ws.take mw) (cs.take mc) (xs.take l), .tup [.own 0 0 (pays.sv u r (ws.take mw) (cs.take mc) (xs.take l)).length 0 1, .bool true], [⟨.typ (.ints .i64 (pays.sv u r (ws.take mw) (cs.take mc) (xs.take l))), 0⟩])
  | _ => none
def hd : Nat → Head := fun _ => ⟨[1, 2, 6, 7], some 2⟩
noncomputable def L (f n : Nat) (s : State) := loopAt Try.prog (orc [⟨85, l06Can.R⟩, ⟨100, l06Pays.R⟩]) hd Dr.std 0 f (bodyOf Try.f44) 0 [true, true, true, false, true] (retK Try.prog [4, 5] 0 none) n s
theorem start (u r : Int) (ws cs : List Int) (mw mc : Nat) (xs : List Int) (l : Nat) (f : Nat) :
  runFn Try.prog (orc [⟨85, l06Can.R⟩, ⟨100, l06Pays.R⟩]) hd Dr.std none f (bodyOf Try.f44) 25 [4, 5] [.agg [.int .i64 u, .int .i64 r, .ro (.ints .i64 ws) mw 1, .ro (.ints .i64 cs) mc 1], .ro (.ints .i64 xs) l 1] []
  = (bif decide (mw ≤ ws.length ∧ mw ≤ (4611686018427387904 : Nat) ∧ mc ≤ cs.length ∧ mc ≤ (4611686018427387904 : Nat) ∧ l ≤ xs.length ∧ l ≤ (4611686018427387904 : Nat)) && (false && (true && true) || true && true) then bif !load.sp u r (List.take mw ws) (List.take mc cs) (List.take l xs) then some (AVal.tup [AVal.nils, AVal.bool false], [{ c := BC.cells [AVal.int IntKind.i64 u, AVal.int IntKind.i64 r, AVal.ro (Cont.ints IntKind.i64 ws) mw (1 : Nat), AVal.ro (Cont.ints IntKind.i64 cs) mc (1 : Nat)], ver := (0 : Nat) }]) else L f f (mkS (25 : Nat) [((1 : Nat), AVal.ro (Cont.ints IntKind.i64 xs) l (1 : Nat)), ((2 : Nat), AVal.ptr (0 : Nat) (0 : Nat) (0 : Nat)), ((6 : Nat), AVal.own (1 : Nat) (0 : Nat) (0 : Nat) (0 : Nat) (1 : Nat)), ((7 : Nat), AVal.int IntKind.i64 (0 : Int))] [{ c := BC.cells [AVal.int IntKind.i64 u, AVal.int IntKind.i64 r, AVal.ro (Cont.ints IntKind.i64 ws) mw (1 : Nat), AVal.ro (Cont.ints IntKind.i64 cs) mc (1 : Nat)], ver := (0 : Nat) }, { c := BC.typ (Cont.ints IntKind.i64 (List.replicate (0 : Nat) (0 : Int))), ver := (0 : Nat) }]) else none) := by kernel_rfl
theorem round (u r : Int) (ws cs : List Int) (mw mc : Nat) (xs : List Int) (l : Nat) (ys : List Int) (i f n : Nat) :
  L f (n + 1) (mkS 25 [(1, .ro (.ints .i64 xs) l 1), (2, .ptr 0 0 0), (6, .own 1 0 i 0 1), (7, .int .i64 i)] [⟨.cells [.int .i64 u, .int .i64 r, .ro (.ints .i64 ws) mw 1, .ro (.ints .i64 cs) mc 1], 0⟩, ⟨.typ (.ints .i64 ys), 0⟩])
  = (bif true && true then bif decide ((↑i : Int) < u) then bif decide (mw ≤ ws.length ∧ mw ≤ (4611686018427387904 : Nat) ∧ mc ≤ cs.length ∧ mc ≤ (4611686018427387904 : Nat) ∧ l ≤ xs.length ∧ l ≤ (4611686018427387904 : Nat) ∧ (0 : Int) ≤ (↑i : Int) ∧ (↑i : Int) < (↑l : Int)) && load.sp u r (List.take mw ws) (List.take mc cs) (List.take l xs) && (false && (true && (true && true)) || true && true) then bif (1 : Nat) == (1 : Nat) && (1 : Nat) == (1 : Nat) && (true && (true && true) && (true && true && (decide (i + (List.take (1 : Nat) (List.drop (0 : Nat) ((List.replicate (1 : Nat) (0 : Int)).set (0 : Nat) (pay.sv u r (List.take mw ws) (List.take mc cs) (List.take l xs) (gz xs (↑i : Int).toNat))))).length ≤ (4611686018427387904 : Nat)) && decide ((i + (List.take (1 : Nat) (List.drop (0 : Nat) ((List.replicate (1 : Nat) (0 : Int)).set (0 : Nat) (pay.sv u r (List.take mw ws) (List.take mc cs) (List.take l xs) (gz xs (↑i : Int).toNat))))).length) * (8 : Nat) ≤ (140737488355328 : Nat))))) then L f n (mkS (25 : Nat) [((1 : Nat), AVal.ro (Cont.ints IntKind.i64 xs) l (1 : Nat)), ((2 : Nat), AVal.ptr (0 : Nat) (0 : Nat) (0 : Nat)), ((6 : Nat), AVal.own (1 : Nat) (0 : Nat) (i + (List.take (1 : Nat) (List.drop (0 : Nat) ((List.replicate (1 : Nat) (0 : Int)).set (0 : Nat) (pay.sv u r (List.take mw ws) (List.take mc cs) (List.take l xs) (gz xs (↑i : Int).toNat))))).length) (0 : Nat) (1 : Nat)), ((7 : Nat), AVal.int IntKind.i64 (IntKind.i64.wrap ((↑i : Int) + (1 : Int))))] [{ c := BC.cells [AVal.int IntKind.i64 u, AVal.int IntKind.i64 r, AVal.ro (Cont.ints IntKind.i64 ws) mw (1 : Nat), AVal.ro (Cont.ints IntKind.i64 cs) mc (1 : Nat)], ver := (0 : Nat) }, { c := BC.typ (Cont.ints IntKind.i64 (List.take i ys ++ List.take (1 : Nat) (List.drop (0 : Nat) ((List.replicate (1 : Nat) (0 : Int)).set (0 : Nat) (pay.sv u r (List.take mw ws) (List.take mc cs) (List.take l xs) (gz xs (↑i : Int).toNat)))))), ver := (0 : Nat) }]) else none else none else some (AVal.tup [AVal.own (1 : Nat) (0 : Nat) i (0 : Nat) (1 : Nat), AVal.bool true], [{ c := BC.cells [AVal.int IntKind.i64 u, AVal.int IntKind.i64 r, AVal.ro (Cont.ints IntKind.i64 ws) mw (1 : Nat), AVal.ro (Cont.ints IntKind.i64 cs) mc (1 : Nat)], ver := (0 : Nat) }, { c := BC.typ (Cont.ints IntKind.i64 ys), ver := (0 : Nat) }]) else none) := by kernel_rfl
theorem loop (u r : Int) (ws cs : List Int) (mw mc : Nat) (xs : List Int) (l : Nat) (f : Nat) (h1c : mw ≤ ws.length) (h2c : mw ≤ 4611686018427387904) (h3c : mc ≤ cs.length) (h4c : mc ≤ 4611686018427387904) (hx : l ≤ xs.length) (hb : l ≤ 1000) (hv : load.sp u r (ws.take mw) (cs.take mc) (xs.take l) = true) (hul : (l : Int) = u) (e3 : (xs.take l).length = l) : ∀ (d i n : Nat) (ys : List Int), i + d = l → d < n → ys.length = i → ys = (pays.sv u r (ws.take mw) (cs.take mc) (xs.take l)).take i →
    L f n (mkS 25 [(1, .ro (.ints .i64 xs) l 1), (2, .ptr 0 0 0), (6, .own 1 0 i 0 1), (7, .int .i64 i)] [⟨.cells [.int .i64 u, .int .i64 r, .ro (.ints .i64 ws) mw 1, .ro (.ints .i64 cs) mc 1], 0⟩, ⟨.typ (.ints .i64 ys), 0⟩]) = some (.tup [.own 1 0 l 0 1, .bool true], [⟨.cells [.int .i64 u, .int .i64 r, .ro (.ints .i64 ws) mw 1, .ro (.ints .i64 cs) mc 1], 0⟩, ⟨.typ (.ints .i64 (pays.sv u r (ws.take mw) (cs.take mc) (xs.take l))), 0⟩]) := by
  intro d
  induction d with
  | zero =>
    intro i n ys hi hn hl ht
    obtain ⟨n, rfl⟩ : ∃ k, n = k + 1 := ⟨n - 1, by omega⟩
    obtain rfl : i = l := by omega
    rw [round]
    have : ys = pays.sv u r (ws.take mw) (cs.take mc) (xs.take i) := by rw [ht, List.take_of_length_le (by rw [pays_length, e3]; omega)]
    subst this
    have c : ¬ ((i : Int) < u) := by omega
    simp [c]
  | succ d ih =>
    intro i n ys hi hn hl ht
    obtain ⟨n, rfl⟩ : ∃ k, n = k + 1 := ⟨n - 1, by omega⟩
    have h1 : i < l := by omega
    have h4 : (0 : Int) ≤ (i : Int) := Int.natCast_nonneg _
    have h5 : (i : Int) < (l : Int) := by omega
    have h2 : i < xs.length := by omega
    rw [round]
    have hget : (pays.sv u r (ws.take mw) (cs.take mc) (xs.take l))[i]'(by rw [pays_length, e3]; exact h1) = pay.sv u r (ws.take mw) (cs.take mc) (xs.take l) xs[i] := by simp [pays.sv]
    have hv2 : i < (pays.sv u r (ws.take mw) (cs.take mc) (xs.take l)).length := by rw [pays_length, e3]; exact h1
    have hnext : ys ++ [pay.sv u r (ws.take mw) (cs.take mc) (xs.take l) xs[i]] = (pays.sv u r (ws.take mw) (cs.take mc) (xs.take l)).take (i + 1) := by
      rw [List.take_add_one, ← ht, List.getElem?_eq_getElem hv2, hget]; rfl
    have htk : ys.take i = ys := List.take_of_length_le (by omega)
    have k0 : i + 1 ≤ 4611686018427387904 := by omega
    have k1 : (i + 1) * 8 ≤ 140737488355328 := by omega
    have h6 : (i : Int) < u := by omega
    have hb6 : l ≤ 4611686018427387904 := by omega
    simp only [Int.toNat_natCast, gz_eq h2, e3, h4, h5, h6, h2, h1c, h2c, h3c, h4c, hx, hb6, hv, htk, one_set, List.length_singleton, k0, k1, Nat.le_refl, and_self, decide_true, Bool.and_self, Bool.or_self, Bool.and_true, Bool.true_and, Bool.or_true, cond_true, Nat.reduceBEq, wrap_nat i (by omega)]
    rw [hnext]
    exact ih (i + 1) n _ (by omega) (by omega) (by rw [List.length_take, pays_length, e3]; omega) rfl
theorem run : ∀ args v new, R args = some (true, v, new) → ∃ fuel, regc [1] (runFn Try.prog (orc [⟨85, l06Can.R⟩, ⟨100, l06Pays.R⟩]) hd Dr.std none fuel (bodyOf Try.f44) 25 [4, 5] args []) = some (v, new) := by
  intro args v new h
  unfold R at h
  split at h
  · rename_i u r ws mw cs mc xs l
    simp only [Option.some.injEq, Prod.mk.injEq, Bool.and_eq_true, decide_eq_true_eq, Bool.not_eq_true'] at h
    obtain ⟨⟨⟨h1, h2, h3, h4, h5, h6⟩, hv⟩, rfl, rfl⟩ := h
    have e3 : (xs.take l).length = l := by simp; omega
    obtain ⟨v1, v2, v3, v4, v5, v6, v7⟩ := load.valid hv
    rw [e3] at v5
    refine ⟨l + 1, ?_⟩
    rw [start]
    have hl := loop u r ws cs mw mc xs l (l + 1) h1 h2 h3 h4 h5 (by omega) hv v5 e3 l 0 (l + 1) [] (by omega) (by omega) rfl (by simp)
    rw [pays_length, e3]
    have hd : decide (mw ≤ ws.length ∧ mw ≤ 4611686018427387904 ∧ mc ≤ cs.length ∧ mc ≤ 4611686018427387904 ∧ l ≤ xs.length ∧ l ≤ 4611686018427387904) = true := decide_eq_true ⟨h1, h2, h3, h4, h5, h6⟩
    rw [hd, hv]
    exact (congrArg (regc [1]) hl).trans rfl
  · cases h
theorem ok : EntOk Try.prog ⟨44, R⟩ :=
  ent_okAG (ks := [1]) mixed (A := (orc [⟨85, l06Can.R⟩, ⟨100, l06Pays.R⟩])) (orc_ok (by simp only [List.mem_cons, List.not_mem_nil, or_false, forall_eq_or_imp, forall_eq]; exact ⟨l06Can.ok, l06Pays.ok⟩)) Try.func44 (by kernel_rfl) (by kernel_rfl) (n := 25) (ts := [4, 5]) (hd := hd) (dr := Dr.std) (cut := none) (by kernel_rfl) (by kernel_rfl) (by kernel_rfl) run
end sCostsOf_t

namespace sCostsOf_f
def R : List AVal → Option (Bool × AVal × List Blk)
  | [.agg [.int .i64 u, .int .i64 r, .ro (.ints .i64 ws) mw 1, .ro (.ints .i64 cs) mc 1], .ro (.ints .i64 xs) l 1] => some (decide (mw ≤ ws.length ∧ mw ≤ 4611686018427387904 ∧ mc ≤ cs.length ∧ mc ≤ 4611686018427387904 ∧ l ≤ xs.length ∧ l ≤ 4611686018427387904) && !load.sp u r (ws.take mw) (cs.take mc) (xs.take l), .tup [.nils, .bool false], [])
  | _ => none
def hd : Nat → Head := fun _ => ⟨[1, 2, 6, 7], some 2⟩
noncomputable def L (f n : Nat) (s : State) := loopAt Try.prog (orc [⟨85, l06Can.R⟩]) hd Dr.std 0 f (bodyOf Try.f44) 0 [true, true, true, false, true] (retK Try.prog [4, 5] 0 (some 0)) n s
theorem start (u r : Int) (ws cs : List Int) (mw mc : Nat) (xs : List Int) (l : Nat) (f : Nat) :
  runFn Try.prog (orc [⟨85, l06Can.R⟩]) hd Dr.std (some 0) f (bodyOf Try.f44) 25 [4, 5] [.agg [.int .i64 u, .int .i64 r, .ro (.ints .i64 ws) mw 1, .ro (.ints .i64 cs) mc 1], .ro (.ints .i64 xs) l 1] []
  = (bif decide (mw ≤ ws.length ∧ mw ≤ (4611686018427387904 : Nat) ∧ mc ≤ cs.length ∧ mc ≤ (4611686018427387904 : Nat) ∧ l ≤ xs.length ∧ l ≤ (4611686018427387904 : Nat)) && (false && (true && true) || true && true) then bif !load.sp u r (List.take mw ws) (List.take mc cs) (List.take l xs) then some (AVal.tup [AVal.nils, AVal.bool false], []) else L f f (mkS (25 : Nat) [((1 : Nat), AVal.ro (Cont.ints IntKind.i64 xs) l (1 : Nat)), ((2 : Nat), AVal.ptr (0 : Nat) (0 : Nat) (0 : Nat)), ((6 : Nat), AVal.own (1 : Nat) (0 : Nat) (0 : Nat) (0 : Nat) (1 : Nat)), ((7 : Nat), AVal.int IntKind.i64 (0 : Int))] [{ c := BC.cells [AVal.int IntKind.i64 u, AVal.int IntKind.i64 r, AVal.ro (Cont.ints IntKind.i64 ws) mw (1 : Nat), AVal.ro (Cont.ints IntKind.i64 cs) mc (1 : Nat)], ver := (0 : Nat) }, { c := BC.typ (Cont.ints IntKind.i64 (List.replicate (0 : Nat) (0 : Int))), ver := (0 : Nat) }]) else none) := by kernel_rfl
theorem run : ∀ args v new, R args = some (true, v, new) → ∃ fuel, runFn Try.prog (orc [⟨85, l06Can.R⟩]) hd Dr.std (some 0) fuel (bodyOf Try.f44) 25 [4, 5] args [] = some (v, new) := by
  intro args v new h
  unfold R at h
  split at h
  · rename_i u r ws mw cs mc xs l
    simp only [Option.some.injEq, Prod.mk.injEq, Bool.and_eq_true, decide_eq_true_eq, Bool.not_eq_true'] at h
    obtain ⟨⟨⟨h1, h2, h3, h4, h5, h6⟩, hv⟩, rfl, rfl⟩ := h
    refine ⟨0, ?_⟩
    rw [start]
    simp only [h1, h2, h3, h4, h5, h6, hv, and_self, decide_true, Bool.and_self, Bool.or_self, Bool.and_true, Bool.true_and, Bool.or_true, cond_true, cond_false, Bool.not_true, Bool.not_false]
    try rfl
  · cases h
theorem ok : EntOk Try.prog ⟨44, R⟩ :=
  ent_okA mixed (A := (orc [⟨85, l06Can.R⟩])) (orc_ok (by simp only [List.mem_cons, List.not_mem_nil, or_false, forall_eq_or_imp, forall_eq]; exact l06Can.ok)) Try.func44 (by kernel_rfl) (by kernel_rfl) (n := 25) (ts := [4, 5]) (hd := hd) (dr := Dr.std) (cut := (some 0)) (by kernel_rfl) (by kernel_rfl) (by kernel_rfl) run
end sCostsOf_f

namespace sCostsOf
def Rt := sCostsOf_t.R
def Rf := sCostsOf_f.R
theorem okt : EntOk Try.prog ⟨44, Rt⟩ := sCostsOf_t.ok
theorem okf : EntOk Try.prog ⟨44, Rf⟩ := sCostsOf_f.ok
end sCostsOf

namespace FnExactCostsOft
def R : List AVal → Option (Bool × AVal × List Blk)
  | [.agg [.int .i64 u, .int .i64 r, .ro (.ints .i64 ws) mw 1, .ro (.ints .i64 cs) mc 1], .ro (.ints .i64 xs) l 1] => some (decide (mw ≤ ws.length ∧ mc ≤ cs.length ∧ mw ≤ 9223372036854775807 ∧ mc ≤ 9223372036854775807 ∧ l ≤ xs.length) && (decide ((1048576 : Int) - (mw : Int) < 0 ∨ (1048576 : Int) - (mw : Int) - (mc : Int) < 0 ∨ (1048576 : Int) < (l : Int)) || (load.sp u r (ws.take mw) (cs.take mc) (xs.take l))), .bool true, [])
  | _ => none
theorem go (u r : Int) (ws cs : List Int) (mw mc : Nat) (xs : List Int) (l : Nat) :
  runFn Try.prog (orcW [⟨36, markCrowd.R⟩, ⟨25, markInt64S.R⟩] [⟨29, szCrowd.R⟩, ⟨31, toCrowd.R⟩, ⟨33, eqCrowd.R⟩, ⟨22, toInt64S.R⟩, ⟨44, sCostsOf.Rt⟩, ⟨45, iCostsOf.Rt⟩, ⟨24, eqInt64N.R⟩, ⟨26, heldInt64S.R⟩]) hd0 Dr.std (some 0) 0 (bodyOf Try.f10) 117 [4] [.agg [.int .i64 u, .int .i64 r, .ro (.ints .i64 ws) mw 1, .ro (.ints .i64 cs) mc 1], .ro (.ints .i64 xs) l 1] []
  = (bif decide ((1048576 : Int) < (↑l : Int)) then some (AVal.bool true, []) else bif true && true && (true && true && (true && true && (true && true && true))) then bif decide (mw ≤ (9223372036854775807 : Nat) ∧ mc ≤ (9223372036854775807 : Nat) ∧ (0 : Int) ≤ (1048576 : Int) ∧ (1048576 : Int) ≤ (9223372036854775807 : Int)) && (true && (true && (true && (true && true))) && true || true && true) then bif decide ((bif decide ((1048576 : Int) - (↑mw : Int) < (0 : Int)) then (-1 : Int) else bif decide ((1048576 : Int) - (↑mw : Int) - (↑mc : Int) < (0 : Int)) then (-1 : Int) else (1048576 : Int) - (↑mw : Int) - (↑mc : Int)) < (0 : Int)) then some (AVal.bool true, []) else bif true && true && (true && true && (true && true && (true && true && true))) then bif decide (mw ≤ ws.length ∧ mw ≤ (1048576 : Nat) ∧ mc ≤ cs.length ∧ mc ≤ (1048576 : Nat)) && (true && (true && (true && (true && true))) && true || true && (true && (true && (true && true))) && (true && (true && true))) then bif decide (l ≤ xs.length ∧ l ≤ (1048576 : Nat)) && (true && true || true && (true && true)) then bif decide (mw ≤ (List.take mw ws).length ∧ mw ≤ (4611686018427387904 : Nat) ∧ mc ≤ (List.take mc cs).length ∧ mc ≤ (4611686018427387904 : Nat) ∧ l ≤ (List.take l xs).length ∧ l ≤ (4611686018427387904 : Nat)) && load.sp u r (List.take mw (List.take mw ws)) (List.take mc (List.take mc cs)) (List.take l (List.take l xs)) && (true && (true && (false && (false && true))) && (false && true) || true && true && (true && true)) then bif true && true && (true && true && (true && true && (true && true && true))) then bif decide (mw ≤ ws.length ∧ mw ≤ (1048576 : Nat) ∧ mc ≤ cs.length ∧ mc ≤ (1048576 : Nat)) && (true && (true && (true && (true && true))) && true || true && (true && (true && (true && true))) && (true && (true && true))) then bif true && (true && (true && (true && (true && (true && true))))) then bif decide (l ≤ xs.length ∧ l ≤ (1048576 : Nat)) && (true && true || true && (true && true)) then bif true && true && (true && true && (true && true && (true && true && true))) then bif decide (mw ≤ (List.take mw ws).length ∧ mw ≤ (4611686018427387904 : Nat) ∧ mc ≤ (List.take mc cs).length ∧ mc ≤ (4611686018427387904 : Nat) ∧ l ≤ (List.take l xs).length ∧ l ≤ (4611686018427387904 : Nat)) && load.sp u r (List.take mw (List.take mw ws)) (List.take mc (List.take mc cs)) (List.take l (List.take l xs)) && (true && (true && (false && (false && true))) && (false && true) || true && true && (true && true)) then bif decide ((pays.sv u r (List.take mw (List.take mw ws)) (List.take mc (List.take mc cs)) (List.take l (List.take l xs))).length ≤ (pays.sv u r (List.take mw (List.take mw ws)) (List.take mc (List.take mc cs)) (List.take l (List.take l xs))).length ∧ (pays.sv u r (List.take mw (List.take mw ws)) (List.take mc (List.take mc cs)) (List.take l (List.take l xs))).length ≤ (pays.sv u r (List.take mw (List.take mw ws)) (List.take mc (List.take mc cs)) (List.take l (List.take l xs))).length ∧ (pays.sv u r (List.take mw (List.take mw ws)) (List.take mc (List.take mc cs)) (List.take l (List.take l xs))).length ≤ (4611686018427387904 : Nat)) && (false && (false && true) || true && true) then bif !decide (List.take (pays.sv u r (List.take mw (List.take mw ws)) (List.take mc (List.take mc cs)) (List.take l (List.take l xs))).length (pays.sv u r (List.take mw (List.take mw ws)) (List.take mc (List.take mc cs)) (List.take l (List.take l xs))) = List.take (pays.sv u r (List.take mw (List.take mw ws)) (List.take mc (List.take mc cs)) (List.take l (List.take l xs))).length (pays.sv u r (List.take mw (List.take mw ws)) (List.take mc (List.take mc cs)) (List.take l (List.take l xs)))) then some (AVal.bool false, []) else bif true && true && (true && true && (true && true && (true && true && true))) then bif true && true && (true && true && (true && true && (true && true && true))) then bif decide (mw ≤ ws.length ∧ mw ≤ (1048576 : Nat) ∧ mc ≤ cs.length ∧ mc ≤ (1048576 : Nat)) && (true && (true && (true && (true && true))) && true || true && (true && (true && (true && true))) && (true && (true && true))) then bif decide (mw ≤ (List.take mw ws).length ∧ mw ≤ (List.take mw ws).length ∧ mw ≤ (4611686018427387904 : Nat) ∧ mc ≤ (List.take mc cs).length ∧ mc ≤ (List.take mc cs).length ∧ mc ≤ (4611686018427387904 : Nat)) && (true && (true && (false && (false && true))) && (true && (true && (false && (false && true))) && true) || true && true) then bif !(decide (u = u) && (decide (r = r) && (decide (List.take mw (List.take mw ws) = List.take mw (List.take mw ws)) && decide (List.take mc (List.take mc cs) = List.take mc (List.take mc cs))))) then some (AVal.bool false, []) else bif decide (l ≤ xs.length ∧ l ≤ (1048576 : Nat)) && (true && true || true && (true && true)) then bif decide (l ≤ (List.take l xs).length ∧ l ≤ (List.take l xs).length ∧ l ≤ (4611686018427387904 : Nat)) && (false && (false && true) || true && true) then bif !decide (List.take l (List.take l xs) = List.take l (List.take l xs)) then some (AVal.bool false, []) else bif true && true && (true && true && (true && true && (true && true && true))) then bif decide (mw = (List.take mw ws).length ∧ mw ≤ (1048576 : Nat) ∧ mc = (List.take mc cs).length ∧ mc ≤ (1048576 : Nat) ∧ (0 : Int) ≤ (1 : Int) ∧ (1 : Int) ≤ (100000000 : Int)) && (true && (true && true) && (true && (true && true))) then bif decide (l = (List.take l xs).length ∧ l ≤ (4611686018427387904 : Nat) ∧ (0 : Int) ≤ (1 : Int) + (↑mw : Int) + (↑mc : Int) ∧ (1 : Int) + (↑mw : Int) + (↑mc : Int) ≤ (1000000000 : Int)) && (true && true && (true && true)) then bif decide ((1 : Int) + (↑mw : Int) + (↑mc : Int) + (↑l : Int) < (0 : Int)) then some (AVal.bool false, []) else bif decide ((pays.sv u r (List.take mw (List.take mw ws)) (List.take mc (List.take mc cs)) (List.take l (List.take l xs))).length ≤ (pays.sv u r (List.take mw (List.take mw ws)) (List.take mc (List.take mc cs)) (List.take l (List.take l xs))).length ∧ (pays.sv u r (List.take mw (List.take mw ws)) (List.take mc (List.take mc cs)) (List.take l (List.take l xs))).length ≤ (pays.sv u r (List.take mw (List.take mw ws)) (List.take mc (List.take mc cs)) (List.take l (List.take l xs))).length ∧ (pays.sv u r (List.take mw (List.take mw ws)) (List.take mc (List.take mc cs)) (List.take l (List.take l xs))).length ≤ (4611686018427387904 : Nat)) && (false && (false && true) || true && true) then bif !decide (List.take (pays.sv u r (List.take mw (List.take mw ws)) (List.take mc (List.take mc cs)) (List.take l (List.take l xs))).length (pays.sv u r (List.take mw (List.take mw ws)) (List.take mc (List.take mc cs)) (List.take l (List.take l xs))) = List.take (pays.sv u r (List.take mw (List.take mw ws)) (List.take mc (List.take mc cs)) (List.take l (List.take l xs))).length (pays.sv u r (List.take mw (List.take mw ws)) (List.take mc (List.take mc cs)) (List.take l (List.take l xs)))) then some (AVal.bool false, []) else bif decide ((pays.sv u r (List.take mw (List.take mw ws)) (List.take mc (List.take mc cs)) (List.take l (List.take l xs))).length = (pays.sv u r (List.take mw (List.take mw ws)) (List.take mc (List.take mc cs)) (List.take l (List.take l xs))).length ∧ (pays.sv u r (List.take mw (List.take mw ws)) (List.take mc (List.take mc cs)) (List.take l (List.take l xs))).length ≤ (4611686018427387904 : Nat) ∧ (0 : Int) ≤ (1 : Int) ∧ (1 : Int) ≤ (1000000000 : Int)) && (true && true && (true && true)) then bif decide ((pays.sv u r (List.take mw (List.take mw ws)) (List.take mc (List.take mc cs)) (List.take l (List.take l xs))).length ≤ (marks.sv (1 : Int) (pays.sv u r (List.take mw (List.take mw ws)) (List.take mc (List.take mc cs)) (List.take l (List.take l xs))).length).length ∧ (pays.sv u r (List.take mw (List.take mw ws)) (List.take mc (List.take mc cs)) (List.take l (List.take l xs))).length ≤ (4611686018427387904 : Nat) ∧ (0 : Int) ≤ (1 : Int) ∧ (1 : Int) ≤ (1000000000 : Int)) && (false && true || true && true) then bif decide ((bif decide (List.take (pays.sv u r (List.take mw (List.take mw ws)) (List.take mc (List.take mc cs)) (List.take l (List.take l xs))).length (marks.sv (1 : Int) (pays.sv u r (List.take mw (List.take mw ws)) (List.take mc (List.take mc cs)) (List.take l (List.take l xs))).length) = marks.sv (1 : Int) (pays.sv u r (List.take mw (List.take mw ws)) (List.take mc (List.take mc cs)) (List.take l (List.take l xs))).length) then (1 : Int) + (↑(pays.sv u r (List.take mw (List.take mw ws)) (List.take mc (List.take mc cs)) (List.take l (List.take l xs))).length : Int) else (-1 : Int)) < (0 : Int)) then some (AVal.bool false, []) else bif (bif decide (List.take (pays.sv u r (List.take mw (List.take mw ws)) (List.take mc (List.take mc cs)) (List.take l (List.take l xs))).length (marks.sv (1 : Int) (pays.sv u r (List.take mw (List.take mw ws)) (List.take mc (List.take mc cs)) (List.take l (List.take l xs))).length) = marks.sv (1 : Int) (pays.sv u r (List.take mw (List.take mw ws)) (List.take mc (List.take mc cs)) (List.take l (List.take l xs))).length) then (1 : Int) + (↑(pays.sv u r (List.take mw (List.take mw ws)) (List.take mc (List.take mc cs)) (List.take l (List.take l xs))).length : Int) else (-1 : Int)) != (1 : Int) + (↑(pays.sv u r (List.take mw (List.take mw ws)) (List.take mc (List.take mc cs)) (List.take l (List.take l xs))).length : Int) then some (AVal.bool false, []) else bif true && true && (true && true && (true && true && (true && true && true))) then bif decide (mw ≤ ws.length ∧ mw ≤ (1048576 : Nat) ∧ mc ≤ cs.length ∧ mc ≤ (1048576 : Nat)) && (true && (true && (true && (true && true))) && true || true && (true && (true && (true && true))) && (true && (true && true))) then bif decide (l ≤ xs.length ∧ l ≤ (1048576 : Nat)) && (true && true || true && (true && true)) then bif decide (mw ≤ (List.take mw ws).length ∧ mw ≤ (4611686018427387904 : Nat) ∧ mc ≤ (List.take mc cs).length ∧ mc ≤ (4611686018427387904 : Nat) ∧ l ≤ (List.take l xs).length ∧ l ≤ (4611686018427387904 : Nat)) && load.sp u r (List.take mw (List.take mw ws)) (List.take mc (List.take mc cs)) (List.take l (List.take l xs)) && (true && (true && (false && (false && true))) && (false && true) || true && true && (true && true)) then bif decide ((pays.sv u r (List.take mw (List.take mw ws)) (List.take mc (List.take mc cs)) (List.take l (List.take l xs))).length ≤ (pays.sv u r (List.take mw (List.take mw ws)) (List.take mc (List.take mc cs)) (List.take l (List.take l xs))).length ∧ (pays.sv u r (List.take mw (List.take mw ws)) (List.take mc (List.take mc cs)) (List.take l (List.take l xs))).length ≤ (pays.sv u r (List.take mw (List.take mw ws)) (List.take mc (List.take mc cs)) (List.take l (List.take l xs))).length ∧ (pays.sv u r (List.take mw (List.take mw ws)) (List.take mc (List.take mc cs)) (List.take l (List.take l xs))).length ≤ (4611686018427387904 : Nat)) && (false && (false && true) || true && true) then bif !decide (List.take (pays.sv u r (List.take mw (List.take mw ws)) (List.take mc (List.take mc cs)) (List.take l (List.take l xs))).length (pays.sv u r (List.take mw (List.take mw ws)) (List.take mc (List.take mc cs)) (List.take l (List.take l xs))) = List.take (pays.sv u r (List.take mw (List.take mw ws)) (List.take mc (List.take mc cs)) (List.take l (List.take l xs))).length (pays.sv u r (List.take mw (List.take mw ws)) (List.take mc (List.take mc cs)) (List.take l (List.take l xs)))) then some (AVal.bool false, []) else bif decide ((pays.sv u r (List.take mw (List.take mw ws)) (List.take mc (List.take mc cs)) (List.take l (List.take l xs))).length ≤ (marks.sv (1 : Int) (pays.sv u r (List.take mw (List.take mw ws)) (List.take mc (List.take mc cs)) (List.take l (List.take l xs))).length).length ∧ (pays.sv u r (List.take mw (List.take mw ws)) (List.take mc (List.take mc cs)) (List.take l (List.take l xs))).length ≤ (4611686018427387904 : Nat) ∧ (0 : Int) ≤ (1 : Int) ∧ (1 : Int) ≤ (1000000000 : Int)) && (false && true || true && true) then bif decide ((bif decide (List.take (pays.sv u r (List.take mw (List.take mw ws)) (List.take mc (List.take mc cs)) (List.take l (List.take l xs))).length (marks.sv (1 : Int) (pays.sv u r (List.take mw (List.take mw ws)) (List.take mc (List.take mc cs)) (List.take l (List.take l xs))).length) = marks.sv (1 : Int) (pays.sv u r (List.take mw (List.take mw ws)) (List.take mc (List.take mc cs)) (List.take l (List.take l xs))).length) then (1 : Int) + (↑(pays.sv u r (List.take mw (List.take mw ws)) (List.take mc (List.take mc cs)) (List.take l (List.take l xs))).length : Int) else (-1 : Int)) < (0 : Int)) then some (AVal.bool false, []) else bif (bif decide (List.take (pays.sv u r (List.take mw (List.take mw ws)) (List.take mc (List.take mc cs)) (List.take l (List.take l xs))).length (marks.sv (1 : Int) (pays.sv u r (List.take mw (List.take mw ws)) (List.take mc (List.take mc cs)) (List.take l (List.take l xs))).length) = marks.sv (1 : Int) (pays.sv u r (List.take mw (List.take mw ws)) (List.take mc (List.take mc cs)) (List.take l (List.take l xs))).length) then (1 : Int) + (↑(pays.sv u r (List.take mw (List.take mw ws)) (List.take mc (List.take mc cs)) (List.take l (List.take l xs))).length : Int) else (-1 : Int)) != (1 : Int) + (↑(pays.sv u r (List.take mw (List.take mw ws)) (List.take mc (List.take mc cs)) (List.take l (List.take l xs))).length : Int) then some (AVal.bool false, []) else some (AVal.bool true, []) else none else none else none else none else none else none else none else none else none else none else none else none else none else none else none else none else none else none else none else none else none else none else none else none else none else none else none else none else none else none else none) := by kernel_rfl
theorem run : ∀ args v new, R args = some (true, v, new) → ∃ fuel, runFn Try.prog (orcW [⟨36, markCrowd.R⟩, ⟨25, markInt64S.R⟩] [⟨29, szCrowd.R⟩, ⟨31, toCrowd.R⟩, ⟨33, eqCrowd.R⟩, ⟨22, toInt64S.R⟩, ⟨44, sCostsOf.Rt⟩, ⟨45, iCostsOf.Rt⟩, ⟨24, eqInt64N.R⟩, ⟨26, heldInt64S.R⟩]) hd0 Dr.std (some 0) fuel (bodyOf Try.f10) 117 [4] args [] = some (v, new) := by
  intro args v new h
  unfold R at h
  split at h
  · rename_i u r ws mw cs mc xs l
    simp only [Option.some.injEq, Prod.mk.injEq, Bool.or_eq_true, Bool.and_eq_true, decide_eq_true_eq, Bool.not_eq_true'] at h
    obtain ⟨⟨⟨h1, h2, h3, h4, h5⟩, hc⟩, rfl, rfl⟩ := h
    refine ⟨0, ?_⟩
    rw [go]
    have z1 : (0 : Int) ≤ 1048576 := by decide
    have z2 : (1048576 : Int) ≤ 9223372036854775807 := by decide
    have z3 : (-1 : Int) < 0 := by decide
    by_cases b0 : (1048576 : Int) < (l : Int)
    · simp only [b0, List.take_take, Nat.min_self, Nat.le_refl, List.take_length, marks_length, take_marks, one_neg, i0_1, i1_b, true_and, and_true, and_self, decide_true, decide_false, Bool.and_self, Bool.or_self, Bool.and_true, Bool.true_and, Bool.and_false, Bool.false_and, Bool.or_true, Bool.true_or, Bool.or_false, Bool.false_or, Bool.not_true, Bool.not_false, cond_true, cond_false, bne_self_eq_false, beq_self_eq_true]
    by_cases a1 : (1048576 : Int) - (mw : Int) < 0
    · simp only [a1, b0, h3, h4, z1, z2, z3, List.take_take, Nat.min_self, Nat.le_refl, List.take_length, marks_length, take_marks, one_neg, i0_1, i1_b, true_and, and_true, and_self, decide_true, decide_false, Bool.and_self, Bool.or_self, Bool.and_true, Bool.true_and, Bool.and_false, Bool.false_and, Bool.or_true, Bool.true_or, Bool.or_false, Bool.false_or, Bool.not_true, Bool.not_false, cond_true, cond_false, bne_self_eq_false, beq_self_eq_true]
    by_cases a2 : (1048576 : Int) - (mw : Int) - (mc : Int) < 0
    · simp only [a1, a2, b0, h3, h4, z1, z2, z3, List.take_take, Nat.min_self, Nat.le_refl, List.take_length, marks_length, take_marks, one_neg, i0_1, i1_b, true_and, and_true, and_self, decide_true, decide_false, Bool.and_self, Bool.or_self, Bool.and_true, Bool.true_and, Bool.and_false, Bool.false_and, Bool.or_true, Bool.true_or, Bool.or_false, Bool.false_or, Bool.not_true, Bool.not_false, cond_true, cond_false, bne_self_eq_false, beq_self_eq_true]
    rcases hc with hc | hc
    · exact absurd hc (by omega)
    have b1 : mw ≤ 1048576 := by omega
    have b2 : mc ≤ 1048576 := by omega
    have b5 : mw ≤ 4611686018427387904 := by omega
    have b6 : mc ≤ 4611686018427387904 := by omega
    have e1 : (ws.take mw).length = mw := by simp; omega
    have e2 : (cs.take mc).length = mc := by simp; omega
    have b7 : l ≤ 1048576 := by omega
    have b8 : l ≤ 4611686018427387904 := by omega
    have e3 : (xs.take l).length = l := by simp; omega
    have k1 : (0 : Int) ≤ 1 + (mw : Int) + (mc : Int) := by omega
    have k2 : 1 + (mw : Int) + (mc : Int) ≤ 1000000000 := by omega
    have k3 : ¬ (1 + (mw : Int) + (mc : Int) < 0) := by omega
    have k0 : (1 : Int) ≤ 100000000 := by decide
    have k4 : ¬ (1 + (mw : Int) + (mc : Int) + (l : Int) < 0) := by omega
    have o0 : (pays.sv u r (ws.take mw) (cs.take mc) (xs.take l)).length ≤ 4611686018427387904 := by rw [pays_length, e3]; omega
    simp only [b0, h3, h4, z1, z2, z3, a1, a2, b1, b2, b5, b6, e1, e2, h1, h2, b7, b8, e3, h5, k0, k1, k2, k3, hc, k4, o0, List.take_take, Nat.min_self, Nat.le_refl, List.take_length, marks_length, take_marks, one_neg, i0_1, i1_b, true_and, and_true, and_self, decide_true, decide_false, Bool.and_self, Bool.or_self, Bool.and_true, Bool.true_and, Bool.and_false, Bool.false_and, Bool.or_true, Bool.true_or, Bool.or_false, Bool.false_or, Bool.not_true, Bool.not_false, cond_true, cond_false, bne_self_eq_false, beq_self_eq_true]
  · cases h
theorem ok : EntOk Try.prog ⟨10, R⟩ :=
  ent_okA mixed (A := (orcW [⟨36, markCrowd.R⟩, ⟨25, markInt64S.R⟩] [⟨29, szCrowd.R⟩, ⟨31, toCrowd.R⟩, ⟨33, eqCrowd.R⟩, ⟨22, toInt64S.R⟩, ⟨44, sCostsOf.Rt⟩, ⟨45, iCostsOf.Rt⟩, ⟨24, eqInt64N.R⟩, ⟨26, heldInt64S.R⟩])) (orcW_ok (by simp only [List.mem_cons, List.not_mem_nil, or_false, forall_eq_or_imp, forall_eq]; exact ⟨markCrowd.ok, markInt64S.ok⟩) (by simp only [List.mem_cons, List.not_mem_nil, or_false, forall_eq_or_imp, forall_eq]; exact ⟨szCrowd.ok, toCrowd.ok, eqCrowd.ok, toInt64S.ok, sCostsOf.okt, iCostsOf.okt, eqInt64N.ok, heldInt64S.ok⟩)) Try.func10 (by kernel_rfl) (by kernel_rfl) (n := 117) (ts := [4]) (hd := hd0) (dr := Dr.std) (cut := (some 0)) (by kernel_rfl) (by kernel_rfl) (by kernel_rfl) run
end FnExactCostsOft

namespace FnExactCostsOff
def R : List AVal → Option (Bool × AVal × List Blk)
  | [.agg [.int .i64 u, .int .i64 r, .ro (.ints .i64 ws) mw 1, .ro (.ints .i64 cs) mc 1], .ro (.ints .i64 xs) l 1] => some (decide (mw ≤ ws.length ∧ mc ≤ cs.length ∧ mw ≤ 9223372036854775807 ∧ mc ≤ 9223372036854775807 ∧ l ≤ xs.length) && (decide ((1048576 : Int) - (mw : Int) < 0 ∨ (1048576 : Int) - (mw : Int) - (mc : Int) < 0 ∨ (1048576 : Int) < (l : Int)) || !(load.sp u r (ws.take mw) (cs.take mc) (xs.take l))), .bool true, [])
  | _ => none
theorem go (u r : Int) (ws cs : List Int) (mw mc : Nat) (xs : List Int) (l : Nat) :
  runFn Try.prog (orcW [⟨36, markCrowd.R⟩, ⟨25, markInt64S.R⟩] [⟨29, szCrowd.R⟩, ⟨31, toCrowd.R⟩, ⟨33, eqCrowd.R⟩, ⟨22, toInt64S.R⟩, ⟨44, sCostsOf.Rf⟩, ⟨45, iCostsOf.Rf⟩, ⟨24, eqInt64N.R⟩, ⟨26, heldInt64S.R⟩]) hd0 Dr.std (some 0) 0 (bodyOf Try.f10) 117 [4] [.agg [.int .i64 u, .int .i64 r, .ro (.ints .i64 ws) mw 1, .ro (.ints .i64 cs) mc 1], .ro (.ints .i64 xs) l 1] []
  = (bif decide ((1048576 : Int) < (↑l : Int)) then some (AVal.bool true, []) else bif true && true && (true && true && (true && true && (true && true && true))) then bif decide (mw ≤ (9223372036854775807 : Nat) ∧ mc ≤ (9223372036854775807 : Nat) ∧ (0 : Int) ≤ (1048576 : Int) ∧ (1048576 : Int) ≤ (9223372036854775807 : Int)) && (true && (true && (true && (true && true))) && true || true && true) then bif decide ((bif decide ((1048576 : Int) - (↑mw : Int) < (0 : Int)) then (-1 : Int) else bif decide ((1048576 : Int) - (↑mw : Int) - (↑mc : Int) < (0 : Int)) then (-1 : Int) else (1048576 : Int) - (↑mw : Int) - (↑mc : Int)) < (0 : Int)) then some (AVal.bool true, []) else bif true && true && (true && true && (true && true && (true && true && true))) then bif decide (mw ≤ ws.length ∧ mw ≤ (1048576 : Nat) ∧ mc ≤ cs.length ∧ mc ≤ (1048576 : Nat)) && (true && (true && (true && (true && true))) && true || true && (true && (true && (true && true))) && (true && (true && true))) then bif decide (l ≤ xs.length ∧ l ≤ (1048576 : Nat)) && (true && true || true && (true && true)) then bif decide (mw ≤ (List.take mw ws).length ∧ mw ≤ (4611686018427387904 : Nat) ∧ mc ≤ (List.take mc cs).length ∧ mc ≤ (4611686018427387904 : Nat) ∧ l ≤ (List.take l xs).length ∧ l ≤ (4611686018427387904 : Nat)) && !load.sp u r (List.take mw (List.take mw ws)) (List.take mc (List.take mc cs)) (List.take l (List.take l xs)) && (true && (true && (false && (false && true))) && (false && true) || true && true) then bif true && true && (true && true && (true && true && (true && true && true))) then bif decide (mw ≤ ws.length ∧ mw ≤ (1048576 : Nat) ∧ mc ≤ cs.length ∧ mc ≤ (1048576 : Nat)) && (true && (true && (true && (true && true))) && true || true && (true && (true && (true && true))) && (true && (true && true))) then bif true && (true && (true && (true && (true && (true && true))))) then bif decide (l ≤ xs.length ∧ l ≤ (1048576 : Nat)) && (true && true || true && (true && true)) then bif true && true && (true && true && (true && true && (true && true && true))) then bif decide (mw ≤ (List.take mw ws).length ∧ mw ≤ (4611686018427387904 : Nat) ∧ mc ≤ (List.take mc cs).length ∧ mc ≤ (4611686018427387904 : Nat) ∧ l ≤ (List.take l xs).length ∧ l ≤ (4611686018427387904 : Nat)) && !load.sp u r (List.take mw (List.take mw ws)) (List.take mc (List.take mc cs)) (List.take l (List.take l xs)) && (true && (true && (false && (false && true))) && (false && true) || true && true) then bif true && true && (true && true && (true && true && (true && true && true))) then bif true && true && (true && true && (true && true && (true && true && true))) then bif decide (mw ≤ ws.length ∧ mw ≤ (1048576 : Nat) ∧ mc ≤ cs.length ∧ mc ≤ (1048576 : Nat)) && (true && (true && (true && (true && true))) && true || true && (true && (true && (true && true))) && (true && (true && true))) then bif decide (mw ≤ (List.take mw ws).length ∧ mw ≤ (List.take mw ws).length ∧ mw ≤ (4611686018427387904 : Nat) ∧ mc ≤ (List.take mc cs).length ∧ mc ≤ (List.take mc cs).length ∧ mc ≤ (4611686018427387904 : Nat)) && (true && (true && (false && (false && true))) && (true && (true && (false && (false && true))) && true) || true && true) then bif !(decide (u = u) && (decide (r = r) && (decide (List.take mw (List.take mw ws) = List.take mw (List.take mw ws)) && decide (List.take mc (List.take mc cs) = List.take mc (List.take mc cs))))) then some (AVal.bool false, []) else bif decide (l ≤ xs.length ∧ l ≤ (1048576 : Nat)) && (true && true || true && (true && true)) then bif decide (l ≤ (List.take l xs).length ∧ l ≤ (List.take l xs).length ∧ l ≤ (4611686018427387904 : Nat)) && (false && (false && true) || true && true) then bif !decide (List.take l (List.take l xs) = List.take l (List.take l xs)) then some (AVal.bool false, []) else bif true && true && (true && true && (true && true && (true && true && true))) then bif decide (mw = (List.take mw ws).length ∧ mw ≤ (1048576 : Nat) ∧ mc = (List.take mc cs).length ∧ mc ≤ (1048576 : Nat) ∧ (0 : Int) ≤ (1 : Int) ∧ (1 : Int) ≤ (100000000 : Int)) && (true && (true && true) && (true && (true && true))) then bif decide (l = (List.take l xs).length ∧ l ≤ (4611686018427387904 : Nat) ∧ (0 : Int) ≤ (1 : Int) + (↑mw : Int) + (↑mc : Int) ∧ (1 : Int) + (↑mw : Int) + (↑mc : Int) ≤ (1000000000 : Int)) && (true && true && (true && true)) then bif decide ((1 : Int) + (↑mw : Int) + (↑mc : Int) + (↑l : Int) < (0 : Int)) then some (AVal.bool false, []) else bif true && (true && true) then bif true && true && (true && true && (true && true && (true && true && true))) then bif decide (mw ≤ ws.length ∧ mw ≤ (1048576 : Nat) ∧ mc ≤ cs.length ∧ mc ≤ (1048576 : Nat)) && (true && (true && (true && (true && true))) && true || true && (true && (true && (true && true))) && (true && (true && true))) then bif decide (l ≤ xs.length ∧ l ≤ (1048576 : Nat)) && (true && true || true && (true && true)) then bif decide (mw ≤ (List.take mw ws).length ∧ mw ≤ (4611686018427387904 : Nat) ∧ mc ≤ (List.take mc cs).length ∧ mc ≤ (4611686018427387904 : Nat) ∧ l ≤ (List.take l xs).length ∧ l ≤ (4611686018427387904 : Nat)) && !load.sp u r (List.take mw (List.take mw ws)) (List.take mc (List.take mc cs)) (List.take l (List.take l xs)) && (true && (true && (false && (false && true))) && (false && true) || true && true) then some (AVal.bool true, []) else none else none else none else none else none else none else none else none else none else none else none else none else none else none else none else none else none else none else none else none else none else none else none else none else none else none) := by kernel_rfl
theorem run : ∀ args v new, R args = some (true, v, new) → ∃ fuel, runFn Try.prog (orcW [⟨36, markCrowd.R⟩, ⟨25, markInt64S.R⟩] [⟨29, szCrowd.R⟩, ⟨31, toCrowd.R⟩, ⟨33, eqCrowd.R⟩, ⟨22, toInt64S.R⟩, ⟨44, sCostsOf.Rf⟩, ⟨45, iCostsOf.Rf⟩, ⟨24, eqInt64N.R⟩, ⟨26, heldInt64S.R⟩]) hd0 Dr.std (some 0) fuel (bodyOf Try.f10) 117 [4] args [] = some (v, new) := by
  intro args v new h
  unfold R at h
  split at h
  · rename_i u r ws mw cs mc xs l
    simp only [Option.some.injEq, Prod.mk.injEq, Bool.or_eq_true, Bool.and_eq_true, decide_eq_true_eq, Bool.not_eq_true'] at h
    obtain ⟨⟨⟨h1, h2, h3, h4, h5⟩, hc⟩, rfl, rfl⟩ := h
    refine ⟨0, ?_⟩
    rw [go]
    have z1 : (0 : Int) ≤ 1048576 := by decide
    have z2 : (1048576 : Int) ≤ 9223372036854775807 := by decide
    have z3 : (-1 : Int) < 0 := by decide
    by_cases b0 : (1048576 : Int) < (l : Int)
    · simp only [b0, List.take_take, Nat.min_self, Nat.le_refl, List.take_length, marks_length, take_marks, one_neg, i0_1, i1_b, true_and, and_true, and_self, decide_true, decide_false, Bool.and_self, Bool.or_self, Bool.and_true, Bool.true_and, Bool.and_false, Bool.false_and, Bool.or_true, Bool.true_or, Bool.or_false, Bool.false_or, Bool.not_true, Bool.not_false, cond_true, cond_false, bne_self_eq_false, beq_self_eq_true]
    by_cases a1 : (1048576 : Int) - (mw : Int) < 0
    · simp only [a1, b0, h3, h4, z1, z2, z3, List.take_take, Nat.min_self, Nat.le_refl, List.take_length, marks_length, take_marks, one_neg, i0_1, i1_b, true_and, and_true, and_self, decide_true, decide_false, Bool.and_self, Bool.or_self, Bool.and_true, Bool.true_and, Bool.and_false, Bool.false_and, Bool.or_true, Bool.true_or, Bool.or_false, Bool.false_or, Bool.not_true, Bool.not_false, cond_true, cond_false, bne_self_eq_false, beq_self_eq_true]
    by_cases a2 : (1048576 : Int) - (mw : Int) - (mc : Int) < 0
    · simp only [a1, a2, b0, h3, h4, z1, z2, z3, List.take_take, Nat.min_self, Nat.le_refl, List.take_length, marks_length, take_marks, one_neg, i0_1, i1_b, true_and, and_true, and_self, decide_true, decide_false, Bool.and_self, Bool.or_self, Bool.and_true, Bool.true_and, Bool.and_false, Bool.false_and, Bool.or_true, Bool.true_or, Bool.or_false, Bool.false_or, Bool.not_true, Bool.not_false, cond_true, cond_false, bne_self_eq_false, beq_self_eq_true]
    rcases hc with hc | hc
    · exact absurd hc (by omega)
    have b1 : mw ≤ 1048576 := by omega
    have b2 : mc ≤ 1048576 := by omega
    have b5 : mw ≤ 4611686018427387904 := by omega
    have b6 : mc ≤ 4611686018427387904 := by omega
    have e1 : (ws.take mw).length = mw := by simp; omega
    have e2 : (cs.take mc).length = mc := by simp; omega
    have b7 : l ≤ 1048576 := by omega
    have b8 : l ≤ 4611686018427387904 := by omega
    have e3 : (xs.take l).length = l := by simp; omega
    have k1 : (0 : Int) ≤ 1 + (mw : Int) + (mc : Int) := by omega
    have k2 : 1 + (mw : Int) + (mc : Int) ≤ 1000000000 := by omega
    have k3 : ¬ (1 + (mw : Int) + (mc : Int) < 0) := by omega
    have k0 : (1 : Int) ≤ 100000000 := by decide
    have k4 : ¬ (1 + (mw : Int) + (mc : Int) + (l : Int) < 0) := by omega
    simp only [b0, h3, h4, z1, z2, z3, a1, a2, b1, b2, b5, b6, e1, e2, h1, h2, b7, b8, e3, h5, k0, k1, k2, k3, hc, k4, List.take_take, Nat.min_self, Nat.le_refl, List.take_length, marks_length, take_marks, one_neg, i0_1, i1_b, true_and, and_true, and_self, decide_true, decide_false, Bool.and_self, Bool.or_self, Bool.and_true, Bool.true_and, Bool.and_false, Bool.false_and, Bool.or_true, Bool.true_or, Bool.or_false, Bool.false_or, Bool.not_true, Bool.not_false, cond_true, cond_false, bne_self_eq_false, beq_self_eq_true]
  · cases h
theorem ok : EntOk Try.prog ⟨10, R⟩ :=
  ent_okA mixed (A := (orcW [⟨36, markCrowd.R⟩, ⟨25, markInt64S.R⟩] [⟨29, szCrowd.R⟩, ⟨31, toCrowd.R⟩, ⟨33, eqCrowd.R⟩, ⟨22, toInt64S.R⟩, ⟨44, sCostsOf.Rf⟩, ⟨45, iCostsOf.Rf⟩, ⟨24, eqInt64N.R⟩, ⟨26, heldInt64S.R⟩])) (orcW_ok (by simp only [List.mem_cons, List.not_mem_nil, or_false, forall_eq_or_imp, forall_eq]; exact ⟨markCrowd.ok, markInt64S.ok⟩) (by simp only [List.mem_cons, List.not_mem_nil, or_false, forall_eq_or_imp, forall_eq]; exact ⟨szCrowd.ok, toCrowd.ok, eqCrowd.ok, toInt64S.ok, sCostsOf.okf, iCostsOf.okf, eqInt64N.ok, heldInt64S.ok⟩)) Try.func10 (by kernel_rfl) (by kernel_rfl) (n := 117) (ts := [4]) (hd := hd0) (dr := Dr.std) (cut := (some 0)) (by kernel_rfl) (by kernel_rfl) (by kernel_rfl) run
end FnExactCostsOff

namespace FnExactCostsOf
def R : List AVal → Option (Bool × AVal × List Blk)
  | [.agg [.int .i64 u, .int .i64 r, .ro (.ints .i64 ws) mw 1, .ro (.ints .i64 cs) mc 1], .ro (.ints .i64 xs) l 1] => some (decide (mw ≤ ws.length ∧ mc ≤ cs.length ∧ mw ≤ 9223372036854775807 ∧ mc ≤ 9223372036854775807 ∧ l ≤ xs.length), .bool true, [])
  | _ => none
theorem ok : EntOk Try.prog ⟨10, R⟩ := by
  refine EntOk.cases FnExactCostsOft.ok FnExactCostsOff.ok fun args v new h => ?_
  unfold R at h
  split at h
  · rename_i u r ws mw cs mc xs l
    simp only [Option.some.injEq, Prod.mk.injEq, decide_eq_true_eq] at h
    obtain ⟨h, rfl, rfl⟩ := h
    simp only [FnExactCostsOft.R, FnExactCostsOff.R, Option.some.injEq, Prod.mk.injEq, Bool.or_eq_true, Bool.and_eq_true, decide_eq_true_eq, Bool.not_eq_true', and_true]
    cases hc : (load.sp u r (ws.take mw) (cs.take mc) (xs.take l) : Bool)
    · exact .inr ⟨h, .inr rfl⟩
    · exact .inl ⟨h, .inr rfl⟩
  · cases h
end FnExactCostsOf

end Go.Proofs.Ytcndnfkkofacbaa.Ab
