/-
  Functions: crowds are copied and compared.
-/
import Derived.Test.YtmaegbgkpjbohaaFnB
namespace Go.Proofs.Ytmaegbgkpjbohaa.Ab
open Go
set_option linter.unusedVariables false
set_option linter.unusedSimpArgs false
set_option maxRecDepth 100000

namespace l02Equal
def R : List AVal → Option (Bool × AVal × List Blk)
  | [.ro (.ints .i64 xs) m 1, .ro (.ints .i64 ys) k 1] => some (decide (m ≤ xs.length ∧ k ≤ ys.length ∧ m ≤ 4611686018427387904), .bool (decide (xs.take m = ys.take k)), [])
  | _ => none
def hd : Nat → Head := fun _ => ⟨[0, 1, 4, 5], none⟩
noncomputable def L (f n : Nat) (s : State) := loopAt Try.prog (orc []) hd Dr.std 0 f (bodyOf Try.f57) 0 [true, true, false, true] (retK Try.prog [4] 0 none) n s
theorem start (xs ys : List Int) (m k f : Nat) :
  runFn Try.prog (orc []) hd Dr.std none f (bodyOf Try.f57) 26 [4] [.ro (.ints .i64 xs) m 1, .ro (.ints .i64 ys) k 1] []
  = (bif (↑m : Int) != (↑k : Int) then some (AVal.bool false, []) else L f f (mkS (26 : Nat) [((0 : Nat), AVal.ro (Cont.ints IntKind.i64 xs) m (1 : Nat)), ((1 : Nat), AVal.ro (Cont.ints IntKind.i64 ys) k (1 : Nat)), ((4 : Nat), AVal.bool false), ((5 : Nat), AVal.int IntKind.i64 (0 : Int))] [])) := by kernel_rfl
theorem round (xs ys : List Int) (m k i : Nat) (f n : Nat) :
  L f (n + 1) (mkS 26 [(0, .ro (.ints .i64 xs) m 1), (1, .ro (.ints .i64 ys) k 1), (4, .bool false), (5, .int .i64 i)] [])
  = (bif decide ((↑i : Int) < (↑m : Int)) then bif true && (decide ((0 : Int) ≤ (↑i : Int)) && decide ((↑i : Int) < (↑m : Int))) then bif decide ((↑i : Int).toNat < xs.length) then bif true && (decide ((0 : Int) ≤ (↑i : Int)) && decide ((↑i : Int) < (↑k : Int))) then bif decide ((↑i : Int).toNat < ys.length) then bif gz xs (↑i : Int).toNat != gz ys (↑i : Int).toNat then some (AVal.bool false, []) else L f n (mkS (26 : Nat) [((0 : Nat), AVal.ro (Cont.ints IntKind.i64 xs) m (1 : Nat)), ((1 : Nat), AVal.ro (Cont.ints IntKind.i64 ys) k (1 : Nat)), ((4 : Nat), AVal.bool false), ((5 : Nat), AVal.int IntKind.i64 (IntKind.i64.wrap ((↑i : Int) + (1 : Int))))] []) else none else none else none else none else some (AVal.bool true, [])) := by kernel_rfl
theorem loop (xs ys : List Int) (m f : Nat) (hx : m ≤ xs.length) (hy : m ≤ ys.length) (hb : m ≤ 4611686018427387904) : ∀ (d i n : Nat), i + d = m → d < n →
    L f n (mkS 26 [(0, .ro (.ints .i64 xs) m 1), (1, .ro (.ints .i64 ys) m 1), (4, .bool false), (5, .int .i64 i)] []) = some (.bool (decide ((xs.take m).drop i = (ys.take m).drop i)), []) := by
  intro d
  induction d with
  | zero =>
    intro i n hi hn
    obtain ⟨n, rfl⟩ : ∃ k, n = k + 1 := ⟨n - 1, by omega⟩
    obtain rfl : i = m := by omega
    rw [round]
    simp
  | succ d ih =>
    intro i n hi hn
    obtain ⟨n, rfl⟩ : ∃ k, n = k + 1 := ⟨n - 1, by omega⟩
    have h1 : i < m := by omega
    have h2 : i < xs.length := by omega
    have h3 : i < ys.length := by omega
    rw [round]
    have h4 : (0 : Int) ≤ (i : Int) := Int.natCast_nonneg _
    have h5 : (i : Int) < (m : Int) := by omega
    simp only [h4, h5, h2, h3, decide_true, Bool.and_self, cond_true, Int.toNat_natCast, wrap_nat i (by omega), gz_eq h2, gz_eq h3]
    rw [drop_take_cons hx h1, drop_take_cons hy h1]
    by_cases hc : xs[i] = ys[i]
    · have : (xs[i] != ys[i]) = false := by simp [hc]
      simp only [this, cond_false]
      rw [ih (i + 1) n (by omega) (by omega)]
      simp [hc]
    · have : (xs[i] != ys[i]) = true := by simp [hc]
      simp [this, hc]
theorem run : ∀ args v new, R args = some (true, v, new) → ∃ fuel, runFn Try.prog (orc []) hd Dr.std none fuel (bodyOf Try.f57) 26 [4] args [] = some (v, new) := by
  intro args v new h
  unfold R at h
  split at h
  · rename_i xs m ys k
    simp only [Option.some.injEq, Prod.mk.injEq, decide_eq_true_eq] at h
    obtain ⟨⟨h1, h2, h3⟩, rfl, rfl⟩ := h
    refine ⟨m + 1, ?_⟩
    rw [start]
    by_cases hmk : m = k
    · subst hmk
      simp only [bne_self_eq_false, cond_false]
      simpa using loop xs ys m (m + 1) h1 h2 h3 m 0 (m + 1) (by omega) (by omega)
    · have c : ((m : Int) != (k : Int)) = true := by simp only [bne_iff_ne, ne_eq, Int.natCast_inj]; exact hmk
      have c2 : ¬ xs.take m = ys.take k := fun h => by
        have := congrArg List.length h
        simp only [List.length_take] at this; omega
      simp [c, c2]
  · cases h
theorem ok : EntOk Try.prog ⟨57, R⟩ :=
  ent_ok (es := []) mixed (by simp) Try.func57 (by kernel_rfl) (by kernel_rfl) (n := 26) (ts := [4]) (hd := hd) (dr := Dr.std) (cut := none) (by kernel_rfl) (by kernel_rfl) (by kernel_rfl) run
end l02Equal

namespace slEqual
def R : List AVal → Option (Bool × AVal × List Blk)
  | [.ro (.ints .i64 xs) m 1, .ro (.ints .i64 ys) k 1] => some (decide (m ≤ xs.length ∧ k ≤ ys.length ∧ m ≤ 4611686018427387904), .bool (decide (xs.take m = ys.take k)), [])
  | _ => none
def hd : Nat → Head := fun _ => ⟨[0, 1, 4, 12, 13], none⟩
noncomputable def L (f n : Nat) (s : State) := loopAt Try.prog (orc []) hd Dr.std 0 f (bodyOf Try.f58) 0 [true, true, false, true] (retK Try.prog [4] 0 none) n s
theorem start (xs ys : List Int) (m k f : Nat) :
  runFn Try.prog (orc []) hd Dr.std none f (bodyOf Try.f58) 26 [4] [.ro (.ints .i64 xs) m 1, .ro (.ints .i64 ys) k 1] []
  = (bif (↑m : Int) != (↑k : Int) then some (AVal.bool false, []) else L f f (mkS (26 : Nat) [((0 : Nat), AVal.ro (Cont.ints IntKind.i64 xs) m (1 : Nat)), ((1 : Nat), AVal.ro (Cont.ints IntKind.i64 ys) k (1 : Nat)), ((4 : Nat), AVal.bool false), ((12 : Nat), AVal.int IntKind.i64 (↑m : Int)), ((13 : Nat), AVal.int IntKind.i64 (0 : Int))] [])) := by kernel_rfl
theorem round (xs ys : List Int) (m k i : Nat) (f n : Nat) :
  L f (n + 1) (mkS 26 [(0, .ro (.ints .i64 xs) m 1), (1, .ro (.ints .i64 ys) k 1), (4, .bool false), (12, .int .i64 m), (13, .int .i64 i)] [])
  = (bif decide ((↑i : Int) < (↑m : Int)) then bif true && (decide ((0 : Int) ≤ (↑i : Int)) && decide ((↑i : Int) < (↑m : Int))) then bif decide ((↑i : Int).toNat < xs.length) then bif true && (decide ((0 : Int) ≤ (↑i : Int)) && decide ((↑i : Int) < (↑k : Int))) then bif decide ((↑i : Int).toNat < ys.length) then bif gz xs (↑i : Int).toNat != gz ys (↑i : Int).toNat then some (AVal.bool false, []) else L f n (mkS (26 : Nat) [((0 : Nat), AVal.ro (Cont.ints IntKind.i64 xs) m (1 : Nat)), ((1 : Nat), AVal.ro (Cont.ints IntKind.i64 ys) k (1 : Nat)), ((4 : Nat), AVal.bool false), ((12 : Nat), AVal.int IntKind.i64 (↑m : Int)), ((13 : Nat), AVal.int IntKind.i64 (IntKind.i64.wrap ((↑i : Int) + (1 : Int))))] []) else none else none else none else none else some (AVal.bool true, [])) := by kernel_rfl
theorem loop (xs ys : List Int) (m f : Nat) (hx : m ≤ xs.length) (hy : m ≤ ys.length) (hb : m ≤ 4611686018427387904) : ∀ (d i n : Nat), i + d = m → d < n →
    L f n (mkS 26 [(0, .ro (.ints .i64 xs) m 1), (1, .ro (.ints .i64 ys) m 1), (4, .bool false), (12, .int .i64 m), (13, .int .i64 i)] []) = some (.bool (decide ((xs.take m).drop i = (ys.take m).drop i)), []) := by
  intro d
  induction d with
  | zero =>
    intro i n hi hn
    obtain ⟨n, rfl⟩ : ∃ k, n = k + 1 := ⟨n - 1, by omega⟩
    obtain rfl : i = m := by omega
    rw [round]
    simp
  | succ d ih =>
    intro i n hi hn
    obtain ⟨n, rfl⟩ : ∃ k, n = k + 1 := ⟨n - 1, by omega⟩
    have h1 : i < m := by omega
    have h2 : i < xs.length := by omega
    have h3 : i < ys.length := by omega
    rw [round]
    have h4 : (0 : Int) ≤ (i : Int) := Int.natCast_nonneg _
    have h5 : (i : Int) < (m : Int) := by omega
    simp only [h4, h5, h2, h3, decide_true, Bool.and_self, cond_true, Int.toNat_natCast, wrap_nat i (by omega), gz_eq h2, gz_eq h3]
    rw [drop_take_cons hx h1, drop_take_cons hy h1]
    by_cases hc : xs[i] = ys[i]
    · have : (xs[i] != ys[i]) = false := by simp [hc]
      simp only [this, cond_false]
      rw [ih (i + 1) n (by omega) (by omega)]
      simp [hc]
    · have : (xs[i] != ys[i]) = true := by simp [hc]
      simp [this, hc]
theorem run : ∀ args v new, R args = some (true, v, new) → ∃ fuel, runFn Try.prog (orc []) hd Dr.std none fuel (bodyOf Try.f58) 26 [4] args [] = some (v, new) := by
  intro args v new h
  unfold R at h
  split at h
  · rename_i xs m ys k
    simp only [Option.some.injEq, Prod.mk.injEq, decide_eq_true_eq] at h
    obtain ⟨⟨h1, h2, h3⟩, rfl, rfl⟩ := h
    refine ⟨m + 1, ?_⟩
    rw [start]
    by_cases hmk : m = k
    · subst hmk
      simp only [bne_self_eq_false, cond_false]
      simpa using loop xs ys m (m + 1) h1 h2 h3 m 0 (m + 1) (by omega) (by omega)
    · have c : ((m : Int) != (k : Int)) = true := by simp only [bne_iff_ne, ne_eq, Int.natCast_inj]; exact hmk
      have c2 : ¬ xs.take m = ys.take k := fun h => by
        have := congrArg List.length h
        simp only [List.length_take] at this; omega
      simp [c, c2]
  · cases h
theorem ok : EntOk Try.prog ⟨58, R⟩ :=
  ent_ok (es := []) mixed (by simp) Try.func58 (by kernel_rfl) (by kernel_rfl) (n := 26) (ts := [4]) (hd := hd) (dr := Dr.std) (cut := none) (by kernel_rfl) (by kernel_rfl) (by kernel_rfl) run
end slEqual

namespace szInt64S
def R : List AVal → Option (Bool × AVal × List Blk)
  | [.ro (.ints .i64 xs) m 1, .int .i64 l] => some (decide (m ≤ 9223372036854775807 ∧ 0 ≤ l ∧ l ≤ 9223372036854775807), .int .i64 (bif decide (l - m < 0) then -1 else l - m), [])
  | _ => none
theorem go (xs : List Int) (m : Nat) (l : Int) :
  runFn Try.prog (orc []) hd0 Dr.std none 0 (bodyOf Try.f56) 12 [4] [.ro (.ints .i64 xs) m 1, .int .i64 l] []
  = (bif decide (IntKind.i64.wrap (l - (↑m : Int)) < (0 : Int)) then some (AVal.int IntKind.i64 (-1 : Int), []) else some (AVal.int IntKind.i64 (IntKind.i64.wrap (l - (↑m : Int))), [])) := by kernel_rfl
theorem run : ∀ args v new, R args = some (true, v, new) → ∃ fuel, runFn Try.prog (orc []) hd0 Dr.std none fuel (bodyOf Try.f56) 12 [4] args [] = some (v, new) := by
  intro args v new h
  unfold R at h
  split at h
  · rename_i xs m l
    simp only [Option.some.injEq, Prod.mk.injEq, decide_eq_true_eq] at h
    obtain ⟨⟨h1, h2, h3⟩, rfl, rfl⟩ := h
    refine ⟨0, ?_⟩
    rw [go]
    have e : IntKind.i64.wrap (l - m) = l - m := IntWalk.i64_in _ (by omega)
    rw [e]
    cases decide (l - (m : Int) < 0) <;> rfl
  · cases h
theorem ok : EntOk Try.prog ⟨56, R⟩ :=
  ent_ok (es := []) mixed (by simp) Try.func56 (by kernel_rfl) (by kernel_rfl) (n := 12) (ts := [4]) (hd := hd0) (dr := Dr.std) (cut := none) (by kernel_rfl) (by kernel_rfl) (by kernel_rfl) run
end szInt64S

namespace szCrowd
def R : List AVal → Option (Bool × AVal × List Blk)
  | [.agg [.int .i64 u, .int .i64 r, .ro (.ints .i64 ws) mw 1, .ro (.ints .i64 cs) mc 1], .int .i64 l] => some (decide (mw ≤ 9223372036854775807 ∧ mc ≤ 9223372036854775807 ∧ 0 ≤ l ∧ l ≤ 9223372036854775807), .int .i64 (bif decide (l - mw < 0) then -1 else bif decide (l - mw - mc < 0) then -1 else l - mw - mc), [])
  | _ => none
theorem go (u r : Int) (ws cs : List Int) (mw mc : Nat) (l : Int) :
  runFn Try.prog (orc [⟨56, szInt64S.R⟩]) hd0 Dr.std (some 0) 0 (bodyOf Try.f20) 18 [4] [.agg [.int .i64 u, .int .i64 r, .ro (.ints .i64 ws) mw 1, .ro (.ints .i64 cs) mc 1], .int .i64 l] []
  = (bif true && true then bif decide (mw ≤ (9223372036854775807 : Nat) ∧ (0 : Int) ≤ l ∧ l ≤ (9223372036854775807 : Int)) && (true && (true && true) || true && true) then bif decide ((bif decide (l - (↑mw : Int) < (0 : Int)) then (-1 : Int) else l - (↑mw : Int)) < (0 : Int)) then some (AVal.int IntKind.i64 (-1 : Int), []) else bif true && true then bif decide (mc ≤ (9223372036854775807 : Nat) ∧ ((0 : Int) ≤ bif decide (l - (↑mw : Int) < (0 : Int)) then (-1 : Int) else l - (↑mw : Int)) ∧ (bif decide (l - (↑mw : Int) < (0 : Int)) then (-1 : Int) else l - (↑mw : Int)) ≤ (9223372036854775807 : Int)) && (true && (true && true) || true && true) then bif decide ((bif decide ((bif decide (l - (↑mw : Int) < (0 : Int)) then (-1 : Int) else l - (↑mw : Int)) - (↑mc : Int) < (0 : Int)) then (-1 : Int) else (bif decide (l - (↑mw : Int) < (0 : Int)) then (-1 : Int) else l - (↑mw : Int)) - (↑mc : Int)) < (0 : Int)) then some (AVal.int IntKind.i64 (-1 : Int), []) else some (AVal.int IntKind.i64 (bif decide ((bif decide (l - (↑mw : Int) < (0 : Int)) then (-1 : Int) else l - (↑mw : Int)) - (↑mc : Int) < (0 : Int)) then (-1 : Int) else (bif decide (l - (↑mw : Int) < (0 : Int)) then (-1 : Int) else l - (↑mw : Int)) - (↑mc : Int)), []) else none else none else none else none) := by kernel_rfl
theorem run : ∀ args v new, R args = some (true, v, new) → ∃ fuel, runFn Try.prog (orc [⟨56, szInt64S.R⟩]) hd0 Dr.std (some 0) fuel (bodyOf Try.f20) 18 [4] args [] = some (v, new) := by
  intro args v new h
  unfold R at h
  split at h
  · rename_i u r ws mw cs mc l
    simp only [Option.some.injEq, Prod.mk.injEq, decide_eq_true_eq] at h
    obtain ⟨⟨h1, h2, h3, h4⟩, rfl, rfl⟩ := h
    refine ⟨0, ?_⟩
    rw [go]
    by_cases a : l - (mw : Int) < 0
    · simp [a, h1, h3, h4]
    · have a' : 0 ≤ l - (mw : Int) := by omega
      have a3 : (mw : Int) ≤ l := by omega
      have a2 : l - (mw : Int) ≤ 9223372036854775807 := by omega
      by_cases b : l - (mw : Int) - (mc : Int) < 0
      · simp [a, a', a2, a3, b, h1, h2, h3, h4]
      · simp [a, a', a2, a3, b, h1, h2, h3, h4]
  · cases h
theorem ok : EntOk Try.prog ⟨20, R⟩ :=
  ent_ok (es := [⟨56, szInt64S.R⟩]) mixed (by simp only [List.mem_cons, List.not_mem_nil, or_false, forall_eq_or_imp, forall_eq]; exact szInt64S.ok) Try.func20 (by kernel_rfl) (by kernel_rfl) (n := 18) (ts := [4]) (hd := hd0) (dr := Dr.std) (cut := some 0) (by kernel_rfl) (by kernel_rfl) (by kernel_rfl) run
end szCrowd

namespace toCrowd
def R : List AVal → Option (Bool × AVal × List Blk)
  | [.agg [.int .i64 u, .int .i64 r, .ro (.ints .i64 ws) mw 1, .ro (.ints .i64 cs) mc 1]] => some (decide (mw ≤ ws.length ∧ mw ≤ 1048576 ∧ mc ≤ cs.length ∧ mc ≤ 1048576), .agg [.int .i64 u, .int .i64 r, .own 0 0 mw 0 1, .own 1 0 mc 0 1], [⟨.typ (.ints .i64 (ws.take mw)), 0⟩, ⟨.typ (.ints .i64 (cs.take mc)), 0⟩])
  | _ => none
theorem go (u r : Int) (ws cs : List Int) (mw mc : Nat) :
  regc [3, 4] (runFn Try.prog (orc [⟨15, toInt64S.R⟩]) hd0 Dr.std none 0 (bodyOf Try.f22) 19 [.cell 2 31] [.agg [.int .i64 u, .int .i64 r, .ro (.ints .i64 ws) mw 1, .ro (.ints .i64 cs) mc 1]] [])
  = (match bif true && true then bif true && (true && (true && true)) then bif true && true then bif true && (true && (true && true)) then bif true && true then bif decide (mw ≤ ws.length ∧ mw ≤ (1048576 : Nat)) && (true && true || true && (true && true)) then bif true && (true && (true && true)) then bif true && true then bif decide (mc ≤ cs.length ∧ mc ≤ (1048576 : Nat)) && (true && true || true && (true && true)) then bif true && (true && (true && true)) then bif true && true && (true && true && (true && true && (true && true && true))) then bif true && (true && (true && (true && (true && (true && true))))) then bif true && true && (true && true && (true && true && (true && true && true))) && true then some (AVal.agg [AVal.int IntKind.i64 u, AVal.int IntKind.i64 r, AVal.own ((1 : Nat) + (1 : Nat) + (1 : Nat) + (0 : Nat)) (0 : Nat) mw (0 : Nat) (1 : Nat), AVal.own ((1 : Nat) + (1 : Nat) + (1 : Nat) + (1 : Nat) + (0 : Nat)) (0 : Nat) mc (0 : Nat) (1 : Nat)], [{ c := BC.cells [AVal.int IntKind.i64 u, AVal.int IntKind.i64 r, AVal.ro (Cont.ints IntKind.i64 ws) mw (1 : Nat), AVal.ro (Cont.ints IntKind.i64 cs) mc (1 : Nat)], ver := (0 : Nat) }, { c := BC.cells [AVal.int IntKind.i64 u, AVal.int IntKind.i64 r, AVal.own ((1 : Nat) + (1 : Nat) + (1 : Nat) + (0 : Nat)) (0 : Nat) mw (0 : Nat) (1 : Nat), AVal.own ((1 : Nat) + (1 : Nat) + (1 : Nat) + (1 : Nat) + (0 : Nat)) (0 : Nat) mc (0 : Nat) (1 : Nat)], ver := (0 : Nat) }, { c := BC.cells [AVal.int IntKind.i64 u, AVal.int IntKind.i64 r, AVal.own ((1 : Nat) + (1 : Nat) + (1 : Nat) + (0 : Nat)) (0 : Nat) mw (0 : Nat) (1 : Nat), AVal.own ((1 : Nat) + (1 : Nat) + (1 : Nat) + (1 : Nat) + (0 : Nat)) (0 : Nat) mc (0 : Nat) (1 : Nat)], ver := (0 : Nat) }, { c := BC.typ (Cont.ints IntKind.i64 (List.take mw ws)), ver := (0 : Nat) }, { c := BC.typ (Cont.ints IntKind.i64 (List.take mc cs)), ver := (0 : Nat) }]) else none else none else none else none else none else none else none else none else none else none else none else none else none with
| some (v, h) =>
  bif true && (ltN (3 : Nat) (hlen h) && (ltN (4 : Nat) (hlen h) && true)) then
    some
      (AVal.re [(3 : Nat), (4 : Nat)] h v,
        match nth h (3 : Nat) with
        | some b => { c := BC.re [(3 : Nat), (4 : Nat)] h b.c, ver := b.ver } :: reB [(3 : Nat), (4 : Nat)] h [(4 : Nat)]
        | none => { c := BC.cells [], ver := (0 : Nat) } :: reB [(3 : Nat), (4 : Nat)] h [(4 : Nat)])
  else none
| none => none) := by kernel_rfl
theorem run : ∀ args v new, R args = some (true, v, new) → ∃ fuel, regc [3, 4] (runFn Try.prog (orc [⟨15, toInt64S.R⟩]) hd0 Dr.std none fuel (bodyOf Try.f22) 19 [.cell 2 31] args []) = some (v, new) := by
  intro args v new h
  unfold R at h
  split at h
  · simp only [Option.some.injEq, Prod.mk.injEq, decide_eq_true_eq] at h
    obtain ⟨⟨h1, h2, h3, h4⟩, rfl, rfl⟩ := h
    refine ⟨0, ?_⟩
    rw [go]
    simp only [h1, h2, h3, h4, and_self, decide_true, Bool.and_self, Bool.or_self, Bool.and_true, Bool.or_true, Bool.true_and, cond_true]
    rfl
  · cases h
theorem ok : EntOk Try.prog ⟨22, R⟩ :=
  ent_okG (ks := [3, 4]) (es := [⟨15, toInt64S.R⟩]) mixed (by simp only [List.mem_cons, List.not_mem_nil, or_false, forall_eq_or_imp, forall_eq]; exact toInt64S.ok) Try.func22 (by kernel_rfl) (by kernel_rfl) (n := 19) (ts := [.cell 2 31]) (hd := hd0) (dr := Dr.std) (cut := none) (by kernel_rfl) (by kernel_rfl) (by kernel_rfl) run
end toCrowd

namespace eqCrowd
def R : List AVal → Option (Bool × AVal × List Blk)
  | [.agg [.int .i64 u, .int .i64 r, .ro (.ints .i64 ws) mw 1, .ro (.ints .i64 cs) mc 1], .agg [.int .i64 u', .int .i64 r', .ro (.ints .i64 ws') mw' 1, .ro (.ints .i64 cs') mc' 1]] => some (decide (mw ≤ ws.length ∧ mw' ≤ ws'.length ∧ mw ≤ 4611686018427387904 ∧ mc ≤ cs.length ∧ mc' ≤ cs'.length ∧ mc ≤ 4611686018427387904), .bool (decide (u = u') && (decide (r = r') && (decide (ws.take mw = ws'.take mw') && decide (cs.take mc = cs'.take mc')))), [])
  | _ => none
theorem go (u r : Int) (ws cs : List Int) (mw mc : Nat) (u' r' : Int) (ws' cs' : List Int) (mw' mc' : Nat) :
  runFn Try.prog (orc [⟨17, eqInt64S.R⟩]) hd0 Dr.std (some 0) 0 (bodyOf Try.f24) 27 [4] [.agg [.int .i64 u, .int .i64 r, .ro (.ints .i64 ws) mw 1, .ro (.ints .i64 cs) mc 1], .agg [.int .i64 u', .int .i64 r', .ro (.ints .i64 ws') mw' 1, .ro (.ints .i64 cs') mc' 1]] []
  = (bif true && true then bif true && true then bif u != u' then some (AVal.bool false, []) else bif true && true then bif true && true then bif r != r' then some (AVal.bool false, []) else bif true && true then bif true && true then bif decide (mw ≤ ws.length ∧ mw' ≤ ws'.length ∧ mw ≤ (4611686018427387904 : Nat)) && (true && (true && true) || true && true) then bif !decide (List.take mw ws = List.take mw' ws') then some (AVal.bool false, []) else bif true && true then bif true && true then bif decide (mc ≤ cs.length ∧ mc' ≤ cs'.length ∧ mc ≤ (4611686018427387904 : Nat)) && (true && (true && true) || true && true) then bif !decide (List.take mc cs = List.take mc' cs') then some (AVal.bool false, []) else some (AVal.bool true, []) else none else none else none else none else none else none else none else none else none else none) := by kernel_rfl
theorem run : ∀ args v new, R args = some (true, v, new) → ∃ fuel, runFn Try.prog (orc [⟨17, eqInt64S.R⟩]) hd0 Dr.std (some 0) fuel (bodyOf Try.f24) 27 [4] args [] = some (v, new) := by
  intro args v new h
  unfold R at h
  split at h
  · rename_i u r ws mw cs mc u' r' ws' mw' cs' mc'
    simp only [Option.some.injEq, Prod.mk.injEq, decide_eq_true_eq] at h
    obtain ⟨⟨h1, h2, h3, h4, h5, h6⟩, rfl, rfl⟩ := h
    refine ⟨0, ?_⟩
    rw [go]
    simp only [h1, h2, h3, h4, h5, h6, and_self, decide_true, Bool.and_self, Bool.or_self, Bool.and_true, Bool.or_true, Bool.true_and, cond_true]
    have b1 : ∀ a b : Int, (a != b) = !decide (a = b) := fun _ _ => rfl
    have b2 : ∀ a b : Int, (a == b) = decide (a = b) := fun _ _ => rfl
    simp only [b1, b2]
    cases decide (u = u') <;> cases decide (r = r') <;> cases decide (ws.take mw = ws'.take mw') <;> cases decide (cs.take mc = cs'.take mc') <;> rfl
  · cases h
theorem ok : EntOk Try.prog ⟨24, R⟩ :=
  ent_ok (es := [⟨17, eqInt64S.R⟩]) mixed (by simp only [List.mem_cons, List.not_mem_nil, or_false, forall_eq_or_imp, forall_eq]; exact eqInt64S.ok) Try.func24 (by kernel_rfl) (by kernel_rfl) (n := 27) (ts := [4]) (hd := hd0) (dr := Dr.std) (cut := some 0) (by kernel_rfl) (by kernel_rfl) (by kernel_rfl) run
end eqCrowd

namespace sSameCrowd
def R : List AVal → Option (Bool × AVal × List Blk)
  | [.agg [.int .i64 u, .int .i64 r, .ro (.ints .i64 ws) mw 1, .ro (.ints .i64 cs) mc 1], .agg [.int .i64 u', .int .i64 r', .ro (.ints .i64 ws') mw' 1, .ro (.ints .i64 cs') mc' 1]] => some (decide (mw ≤ ws.length ∧ mw' ≤ ws'.length ∧ mw ≤ 4611686018427387904 ∧ mc ≤ cs.length ∧ mc' ≤ cs'.length ∧ mc ≤ 4611686018427387904), .bool (decide (u = u') && (decide (r = r') && (decide (ws.take mw = ws'.take mw') && decide (cs.take mc = cs'.take mc')))), [])
  | _ => none
theorem go (u r : Int) (ws cs : List Int) (mw mc : Nat) (u' r' : Int) (ws' cs' : List Int) (mw' mc' : Nat) :
  runFn Try.prog (orc [⟨57, l02Equal.R⟩]) hd0 Dr.std (some 0) 0 (bodyOf Try.f21) 31 [4] [.agg [.int .i64 u, .int .i64 r, .ro (.ints .i64 ws) mw 1, .ro (.ints .i64 cs) mc 1], .agg [.int .i64 u', .int .i64 r', .ro (.ints .i64 ws') mw' 1, .ro (.ints .i64 cs') mc' 1]] []
  = (bif true && true then bif true && true then bif u == u' then bif true && true then bif true && true then bif r == r' then bif true && true then bif true && true then bif decide (mw ≤ ws.length ∧ mw' ≤ ws'.length ∧ mw ≤ (4611686018427387904 : Nat)) && (true && (true && true) || true && true) then bif decide (List.take mw ws = List.take mw' ws') then bif true && true then bif true && true then bif decide (mc ≤ cs.length ∧ mc' ≤ cs'.length ∧ mc ≤ (4611686018427387904 : Nat)) && (true && (true && true) || true && true) then some (AVal.bool (decide (List.take mc cs = List.take mc' cs')), []) else none else none else none else some (AVal.bool false, []) else none else none else none else some (AVal.bool false, []) else none else none else some (AVal.bool false, []) else none else none) := by kernel_rfl
theorem run : ∀ args v new, R args = some (true, v, new) → ∃ fuel, runFn Try.prog (orc [⟨57, l02Equal.R⟩]) hd0 Dr.std (some 0) fuel (bodyOf Try.f21) 31 [4] args [] = some (v, new) := by
  intro args v new h
  unfold R at h
  split at h
  · rename_i u r ws mw cs mc u' r' ws' mw' cs' mc'
    simp only [Option.some.injEq, Prod.mk.injEq, decide_eq_true_eq] at h
    obtain ⟨⟨h1, h2, h3, h4, h5, h6⟩, rfl, rfl⟩ := h
    refine ⟨0, ?_⟩
    rw [go]
    simp only [h1, h2, h3, h4, h5, h6, and_self, decide_true, Bool.and_self, Bool.or_self, Bool.and_true, Bool.or_true, Bool.true_and, cond_true]
    have b1 : ∀ a b : Int, (a != b) = !decide (a = b) := fun _ _ => rfl
    have b2 : ∀ a b : Int, (a == b) = decide (a = b) := fun _ _ => rfl
    simp only [b1, b2]
    cases decide (u = u') <;> cases decide (r = r') <;> cases decide (ws.take mw = ws'.take mw') <;> cases decide (cs.take mc = cs'.take mc') <;> rfl
  · cases h
theorem ok : EntOk Try.prog ⟨21, R⟩ :=
  ent_ok (es := [⟨57, l02Equal.R⟩]) mixed (by simp only [List.mem_cons, List.not_mem_nil, or_false, forall_eq_or_imp, forall_eq]; exact l02Equal.ok) Try.func21 (by kernel_rfl) (by kernel_rfl) (n := 31) (ts := [4]) (hd := hd0) (dr := Dr.std) (cut := some 0) (by kernel_rfl) (by kernel_rfl) (by kernel_rfl) run
end sSameCrowd

namespace iSameCrowd
def R : List AVal → Option (Bool × AVal × List Blk)
  | [.agg [.int .i64 u, .int .i64 r, .ro (.ints .i64 ws) mw 1, .ro (.ints .i64 cs) mc 1], .agg [.int .i64 u', .int .i64 r', .ro (.ints .i64 ws') mw' 1, .ro (.ints .i64 cs') mc' 1]] => some (decide (mw ≤ ws.length ∧ mw' ≤ ws'.length ∧ mw ≤ 4611686018427387904 ∧ mc ≤ cs.length ∧ mc' ≤ cs'.length ∧ mc ≤ 4611686018427387904), .bool (decide (u = u') && (decide (r = r') && (decide (ws.take mw = ws'.take mw') && decide (cs.take mc = cs'.take mc')))), [])
  | _ => none
theorem go (u r : Int) (ws cs : List Int) (mw mc : Nat) (u' r' : Int) (ws' cs' : List Int) (mw' mc' : Nat) :
  runFn Try.prog (orc [⟨58, slEqual.R⟩]) hd0 Dr.std (some 0) 0 (bodyOf Try.f23) 31 [4] [.agg [.int .i64 u, .int .i64 r, .ro (.ints .i64 ws) mw 1, .ro (.ints .i64 cs) mc 1], .agg [.int .i64 u', .int .i64 r', .ro (.ints .i64 ws') mw' 1, .ro (.ints .i64 cs') mc' 1]] []
  = (bif true && true then bif true && true then bif u == u' then bif true && true then bif true && true then bif r == r' then bif true && true then bif true && true then bif decide (mw ≤ ws.length ∧ mw' ≤ ws'.length ∧ mw ≤ (4611686018427387904 : Nat)) && (true && (true && true) || true && true) then bif decide (List.take mw ws = List.take mw' ws') then bif true && true then bif true && true then bif decide (mc ≤ cs.length ∧ mc' ≤ cs'.length ∧ mc ≤ (4611686018427387904 : Nat)) && (true && (true && true) || true && true) then some (AVal.bool (decide (List.take mc cs = List.take mc' cs')), []) else none else none else none else some (AVal.bool false, []) else none else none else none else some (AVal.bool false, []) else none else none else some (AVal.bool false, []) else none else none) := by kernel_rfl
theorem run : ∀ args v new, R args = some (true, v, new) → ∃ fuel, runFn Try.prog (orc [⟨58, slEqual.R⟩]) hd0 Dr.std (some 0) fuel (bodyOf Try.f23) 31 [4] args [] = some (v, new) := by
  intro args v new h
  unfold R at h
  split at h
  · rename_i u r ws mw cs mc u' r' ws' mw' cs' mc'
    simp only [Option.some.injEq, Prod.mk.injEq, decide_eq_true_eq] at h
    obtain ⟨⟨h1, h2, h3, h4, h5, h6⟩, rfl, rfl⟩ := h
    refine ⟨0, ?_⟩
    rw [go]
    simp only [h1, h2, h3, h4, h5, h6, and_self, decide_true, Bool.and_self, Bool.or_self, Bool.and_true, Bool.or_true, Bool.true_and, cond_true]
    have b1 : ∀ a b : Int, (a != b) = !decide (a = b) := fun _ _ => rfl
    have b2 : ∀ a b : Int, (a == b) = decide (a = b) := fun _ _ => rfl
    simp only [b1, b2]
    cases decide (u = u') <;> cases decide (r = r') <;> cases decide (ws.take mw = ws'.take mw') <;> cases decide (cs.take mc = cs'.take mc') <;> rfl
  · cases h
theorem ok : EntOk Try.prog ⟨23, R⟩ :=
  ent_ok (es := [⟨58, slEqual.R⟩]) mixed (by simp only [List.mem_cons, List.not_mem_nil, or_false, forall_eq_or_imp, forall_eq]; exact slEqual.ok) Try.func23 (by kernel_rfl) (by kernel_rfl) (n := 31) (ts := [4]) (hd := hd0) (dr := Dr.std) (cut := some 0) (by kernel_rfl) (by kernel_rfl) (by kernel_rfl) run
end iSameCrowd

namespace FnExactSameCrowd
def dr : Nat → Dr := fun i => bif eqN i 8 then ⟨some [0, 2, 1, 3, 4, 5], false⟩ else ⟨none, false⟩
def R : List AVal → Option (Bool × AVal × List Blk)
  | [.agg [.int .i64 u, .int .i64 r, .ro (.ints .i64 ws) mw 1, .ro (.ints .i64 cs) mc 1], .agg [.int .i64 u', .int .i64 r', .ro (.ints .i64 ws') mw' 1, .ro (.ints .i64 cs') mc' 1]] => some (decide (mw ≤ ws.length ∧ mc ≤ cs.length ∧ mw' ≤ ws'.length ∧ mc' ≤ cs'.length ∧ mw ≤ 9223372036854775807 ∧ mc ≤ 9223372036854775807 ∧ mw' ≤ 9223372036854775807 ∧ mc' ≤ 9223372036854775807), .bool true, [])
  | _ => none
theorem go (u r : Int) (ws cs : List Int) (mw mc : Nat) (u' r' : Int) (ws' cs' : List Int) (mw' mc' : Nat) :
  runFn Try.prog (orc [⟨20, szCrowd.R⟩, ⟨22, toCrowd.R⟩, ⟨21, sSameCrowd.R⟩, ⟨23, iSameCrowd.R⟩, ⟨24, eqCrowd.R⟩]) hd0 dr (some 0) 0 (bodyOf Try.f5) 45 [4] [.agg [.int .i64 u, .int .i64 r, .ro (.ints .i64 ws) mw 1, .ro (.ints .i64 cs) mc 1], .agg [.int .i64 u', .int .i64 r', .ro (.ints .i64 ws') mw' 1, .ro (.ints .i64 cs') mc' 1]] []
  = (bif true && true && (true && true && (true && true && (true && true && true))) then bif decide (mw ≤ (9223372036854775807 : Nat) ∧ mc ≤ (9223372036854775807 : Nat) ∧ (0 : Int) ≤ (1048576 : Int) ∧ (1048576 : Int) ≤ (9223372036854775807 : Int)) && (true && (true && (true && (true && true))) && true || true && true) then bif decide ((bif decide ((1048576 : Int) - (↑mw : Int) < (0 : Int)) then (-1 : Int) else bif decide ((1048576 : Int) - (↑mw : Int) - (↑mc : Int) < (0 : Int)) then (-1 : Int) else (1048576 : Int) - (↑mw : Int) - (↑mc : Int)) < (0 : Int)) then some (AVal.bool true, []) else bif true && true && (true && true && (true && true && (true && true && true))) then bif decide (mw' ≤ (9223372036854775807 : Nat) ∧ mc' ≤ (9223372036854775807 : Nat) ∧ ((0 : Int) ≤ bif decide ((1048576 : Int) - (↑mw : Int) < (0 : Int)) then (-1 : Int) else bif decide ((1048576 : Int) - (↑mw : Int) - (↑mc : Int) < (0 : Int)) then (-1 : Int) else (1048576 : Int) - (↑mw : Int) - (↑mc : Int)) ∧ (bif decide ((1048576 : Int) - (↑mw : Int) < (0 : Int)) then (-1 : Int) else bif decide ((1048576 : Int) - (↑mw : Int) - (↑mc : Int) < (0 : Int)) then (-1 : Int) else (1048576 : Int) - (↑mw : Int) - (↑mc : Int)) ≤ (9223372036854775807 : Int)) && (true && (true && (true && (true && true))) && (true && true) || true && true) then bif decide ((bif decide ((bif decide ((1048576 : Int) - (↑mw : Int) < (0 : Int)) then (-1 : Int) else bif decide ((1048576 : Int) - (↑mw : Int) - (↑mc : Int) < (0 : Int)) then (-1 : Int) else (1048576 : Int) - (↑mw : Int) - (↑mc : Int)) - (↑mw' : Int) < (0 : Int)) then (-1 : Int) else bif decide ((bif decide ((1048576 : Int) - (↑mw : Int) < (0 : Int)) then (-1 : Int) else bif decide ((1048576 : Int) - (↑mw : Int) - (↑mc : Int) < (0 : Int)) then (-1 : Int) else (1048576 : Int) - (↑mw : Int) - (↑mc : Int)) - (↑mw' : Int) - (↑mc' : Int) < (0 : Int)) then (-1 : Int) else (bif decide ((1048576 : Int) - (↑mw : Int) < (0 : Int)) then (-1 : Int) else bif decide ((1048576 : Int) - (↑mw : Int) - (↑mc : Int) < (0 : Int)) then (-1 : Int) else (1048576 : Int) - (↑mw : Int) - (↑mc : Int)) - (↑mw' : Int) - (↑mc' : Int)) < (0 : Int)) then some (AVal.bool true, []) else bif true && true && (true && true && (true && true && (true && true && true))) then bif true && true && (true && true && (true && true && (true && true && true))) then bif decide (mw ≤ ws.length ∧ mw ≤ (1048576 : Nat) ∧ mc ≤ cs.length ∧ mc ≤ (1048576 : Nat)) && (true && (true && (true && (true && true))) && true || true && (true && (true && (true && true))) && (true && (true && true))) then bif decide (mw' ≤ ws'.length ∧ mw' ≤ (1048576 : Nat) ∧ mc' ≤ cs'.length ∧ mc' ≤ (1048576 : Nat)) && (true && (true && (true && (true && true))) && true || true && (true && (true && (true && true))) && (true && (true && true))) then bif decide (mw ≤ (List.take mw ws).length ∧ mw' ≤ (List.take mw' ws').length ∧ mw ≤ (4611686018427387904 : Nat) ∧ mc ≤ (List.take mc cs).length ∧ mc' ≤ (List.take mc' cs').length ∧ mc ≤ (4611686018427387904 : Nat)) && (true && (true && (false && (false && true))) && (true && (true && (false && (false && true))) && true) || true && true) then bif true && true && (true && true && (true && true && (true && true && true))) then bif decide (mw ≤ ws.length ∧ mw ≤ (1048576 : Nat) ∧ mc ≤ cs.length ∧ mc ≤ (1048576 : Nat)) && (true && (true && (true && (true && true))) && true || true && (true && (true && (true && true))) && (true && (true && true))) then bif true && (true && (true && (true && (true && (true && true))))) then bif true && true && (true && true && (true && true && (true && true && true))) then bif decide (mw' ≤ ws'.length ∧ mw' ≤ (1048576 : Nat) ∧ mc' ≤ cs'.length ∧ mc' ≤ (1048576 : Nat)) && (true && (true && (true && (true && true))) && true || true && (true && (true && (true && true))) && (true && (true && true))) then bif true && (true && (true && (true && (true && (true && true))))) then bif true && true && (true && true && (true && true && (true && true && true))) then bif true && true && (true && true && (true && true && (true && true && true))) then bif decide (mw ≤ (List.take mw ws).length ∧ mw' ≤ (List.take mw' ws').length ∧ mw ≤ (4611686018427387904 : Nat) ∧ mc ≤ (List.take mc cs).length ∧ mc' ≤ (List.take mc' cs').length ∧ mc ≤ (4611686018427387904 : Nat)) && (true && (true && (false && (false && true))) && (true && (true && (false && (false && true))) && true) || true && true) then bif !(decide (u = u') && (decide (r = r') && (decide (List.take mw (List.take mw ws) = List.take mw' (List.take mw' ws')) && decide (List.take mc (List.take mc cs) = List.take mc' (List.take mc' cs'))))) == (decide (u = u') && (decide (r = r') && (decide (List.take mw (List.take mw ws) = List.take mw' (List.take mw' ws')) && decide (List.take mc (List.take mc cs) = List.take mc' (List.take mc' cs'))))) then some (AVal.bool false, []) else bif true && true && (true && true && (true && true && (true && true && true))) then bif true && true && (true && true && (true && true && (true && true && true))) then bif decide (mw ≤ ws.length ∧ mw ≤ (1048576 : Nat) ∧ mc ≤ cs.length ∧ mc ≤ (1048576 : Nat)) && (true && (true && (true && (true && true))) && true || true && (true && (true && (true && true))) && (true && (true && true))) then bif decide (mw ≤ (List.take mw ws).length ∧ mw ≤ (List.take mw ws).length ∧ mw ≤ (4611686018427387904 : Nat) ∧ mc ≤ (List.take mc cs).length ∧ mc ≤ (List.take mc cs).length ∧ mc ≤ (4611686018427387904 : Nat)) && (true && (true && (false && (false && true))) && (true && (true && (false && (false && true))) && true) || true && true) then bif !(decide (u = u) && (decide (r = r) && (decide (List.take mw (List.take mw ws) = List.take mw (List.take mw ws)) && decide (List.take mc (List.take mc cs) = List.take mc (List.take mc cs))))) then some (AVal.bool false, []) else bif true && true && (true && true && (true && true && (true && true && true))) then bif true && true && (true && true && (true && true && (true && true && true))) then bif decide (mw' ≤ ws'.length ∧ mw' ≤ (1048576 : Nat) ∧ mc' ≤ cs'.length ∧ mc' ≤ (1048576 : Nat)) && (true && (true && (true && (true && true))) && true || true && (true && (true && (true && true))) && (true && (true && true))) then bif decide (mw' ≤ (List.take mw' ws').length ∧ mw' ≤ (List.take mw' ws').length ∧ mw' ≤ (4611686018427387904 : Nat) ∧ mc' ≤ (List.take mc' cs').length ∧ mc' ≤ (List.take mc' cs').length ∧ mc' ≤ (4611686018427387904 : Nat)) && (true && (true && (false && (false && true))) && (true && (true && (false && (false && true))) && true) || true && true) then bif !(decide (u' = u') && (decide (r' = r') && (decide (List.take mw' (List.take mw' ws') = List.take mw' (List.take mw' ws')) && decide (List.take mc' (List.take mc' cs') = List.take mc' (List.take mc' cs'))))) then some (AVal.bool false, []) else some (AVal.bool true, []) else none else none else none else none else none else none else none else none else none else none else none else none else none else none else none else none else none else none else none else none else none else none else none else none else none else none) := by kernel_rfl
theorem run : ∀ args v new, R args = some (true, v, new) → ∃ fuel, runFn Try.prog (orc [⟨20, szCrowd.R⟩, ⟨22, toCrowd.R⟩, ⟨21, sSameCrowd.R⟩, ⟨23, iSameCrowd.R⟩, ⟨24, eqCrowd.R⟩]) hd0 dr (some 0) fuel (bodyOf Try.f5) 45 [4] args [] = some (v, new) := by
  intro args v new h
  unfold R at h
  split at h
  · rename_i u r ws mw cs mc u' r' ws' mw' cs' mc'
    simp only [Option.some.injEq, Prod.mk.injEq, decide_eq_true_eq] at h
    obtain ⟨⟨h1, h2, h3, h4, h5, h6, h7, h8⟩, rfl, rfl⟩ := h
    refine ⟨0, ?_⟩
    rw [go]
    have z1 : (0 : Int) ≤ 1048576 := by decide
    have z2 : (1048576 : Int) ≤ 9223372036854775807 := by decide
    have z3 : (-1 : Int) < 0 := by decide
    by_cases a1 : (1048576 : Int) - (mw : Int) < 0
    · simp only [a1, h5, h6, z1, z2, z3, and_self, decide_true, Bool.and_self, Bool.or_self, Bool.and_true, Bool.or_true, Bool.true_and, cond_true]
    by_cases a2 : (1048576 : Int) - (mw : Int) - (mc : Int) < 0
    · simp only [a1, a2, h5, h6, z1, z2, z3, and_self, decide_true, decide_false, Bool.and_self, Bool.or_self, Bool.and_true, Bool.or_true, Bool.true_and, cond_true, cond_false]
    have a3 : (0 : Int) ≤ 1048576 - (mw : Int) - (mc : Int) := by omega
    have a4 : (1048576 : Int) - (mw : Int) - (mc : Int) ≤ 9223372036854775807 := by omega
    by_cases a5 : (1048576 : Int) - (mw : Int) - (mc : Int) - (mw' : Int) < 0
    · simp only [a1, a2, a3, a4, a5, h5, h6, h7, h8, z1, z2, z3, and_self, decide_true, decide_false, Bool.and_self, Bool.or_self, Bool.and_true, Bool.or_true, Bool.true_and, cond_true, cond_false]
    by_cases a6 : (1048576 : Int) - (mw : Int) - (mc : Int) - (mw' : Int) - (mc' : Int) < 0
    · simp only [a1, a2, a3, a4, a5, a6, h5, h6, h7, h8, z1, z2, z3, and_self, decide_true, decide_false, Bool.and_self, Bool.or_self, Bool.and_true, Bool.or_true, Bool.true_and, cond_true, cond_false]
    have b1 : mw ≤ 1048576 := by omega
    have b2 : mc ≤ 1048576 := by omega
    have b3 : mw' ≤ 1048576 := by omega
    have b4 : mc' ≤ 1048576 := by omega
    have b5 : mw ≤ 4611686018427387904 := by omega
    have b6 : mc ≤ 4611686018427387904 := by omega
    have b7 : mw' ≤ 4611686018427387904 := by omega
    have b8 : mc' ≤ 4611686018427387904 := by omega
    have e1 : mw ≤ (ws.take mw).length := by simp; omega
    have e2 : mc ≤ (cs.take mc).length := by simp; omega
    have e3 : mw' ≤ (ws'.take mw').length := by simp; omega
    have e4 : mc' ≤ (cs'.take mc').length := by simp; omega
    simp only [a1, a2, a3, a4, a5, a6, b1, b2, b3, b4, b5, b6, b7, b8, e1, e2, e3, e4, h1, h2, h3, h4, h5, h6, h7, h8, z1, z2, z3, and_self, decide_true, decide_false, Bool.and_self, Bool.or_self, Bool.and_true, Bool.or_true, Bool.true_and, cond_true, cond_false, beq_self_eq_true, Bool.not_true]
  · cases h
theorem ok : EntOk Try.prog ⟨5, R⟩ :=
  ent_ok (es := [⟨20, szCrowd.R⟩, ⟨22, toCrowd.R⟩, ⟨21, sSameCrowd.R⟩, ⟨23, iSameCrowd.R⟩, ⟨24, eqCrowd.R⟩]) mixed (by simp only [List.mem_cons, List.not_mem_nil, or_false, forall_eq_or_imp, forall_eq]; exact ⟨szCrowd.ok, toCrowd.ok, sSameCrowd.ok, iSameCrowd.ok, eqCrowd.ok⟩) Try.func5 (by kernel_rfl) (by kernel_rfl) (n := 45) (ts := [4]) (hd := hd0) (dr := dr) (cut := some 0) (by kernel_rfl) (by kernel_rfl) (by kernel_rfl) run
end FnExactSameCrowd

end Go.Proofs.Ytmaegbgkpjbohaa.Ab
