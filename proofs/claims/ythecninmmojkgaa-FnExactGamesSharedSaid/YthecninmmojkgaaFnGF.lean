/-
  Functions: best columns.
-/
import Derived.Test.YthecninmmojkgaaFnGE
namespace Go.Proofs.Ythecninmmojkgaa.Ab
open Go
set_option linter.unusedVariables false
set_option linter.unusedSimpArgs false
set_option maxRecDepth 100000

theorem gm.side_small {r c : Int} {xs ys : List Int} (h : gm.sp r c xs ys = true) {n : Nat} (hn : n ≤ c.toNat) : n ≤ 1000000 := by
  obtain ⟨r, c, rfl, rfl, hr, hc, _⟩ := gm.valid h
  rw [Int.toNat_natCast] at hn
  omega



namespace l02BestColumns
def R : List AVal → Option (Bool × AVal × List Blk)
  | [.rom [.int .i64 r, .int .i64 c, .ro (.ints .i64 xs) ma 1, .ro (.ints .i64 ys) mb 1] 0, .int .i64 i] => some (decide (ma = xs.length ∧ mb = ys.length ∧ 0 ≤ i ∧ i < r) && gm.sp r c xs ys, .own 0 0 (br.sv c.toNat r.toNat (tn.sv r.toNat c.toNat ys) i.toNat).length 0 1, [⟨.typ (.ints .i64 (br.sv c.toNat r.toNat (tn.sv r.toNat c.toNat ys) i.toNat)), 0⟩])
  | _ => none
theorem go (r c : Int) (xs ys : List Int) (i : Int) :
  regc [3] (runFn Try.prog (orc [⟨67, l02Turn.R⟩, ⟨49, l02BestRows.R⟩]) hd0 Dr.std none 0 (bodyOf Try.f50) 10 [4] [.rom [.int .i64 r, .int .i64 c, .ro (.ints .i64 xs) xs.length 1, .ro (.ints .i64 ys) ys.length 1] 0, .int .i64 i] [])
  = (match bif decide (xs.length = xs.length ∧ ys.length = ys.length) && gm.sp r c xs ys && (true && (true && (true && (true && true))) && true || true && (true && (true && (true && true))) && (true && (true && true))) then bif true && (true && (true && decide ((0 : Nat) < (4 : Nat)) && (true && decide ((1 : Nat) < (4 : Nat)) && (true && decide ((2 : Nat) < (3 : Nat) + (1 : Nat)) && (true && decide ((3 : Nat) < (2 : Nat) + (1 : Nat) + (1 : Nat)) && true))))) then bif decide ((c * r).toNat = (tn.sv r.toNat c.toNat ys).length ∧ (c * r).toNat = (tn.sv r.toNat c.toNat xs).length ∧ (0 : Int) ≤ i ∧ i < r) && gm.sp c r (tn.sv r.toNat c.toNat ys) (tn.sv r.toNat c.toNat xs) && (false && (true && true) || true && (true && true)) then some (AVal.own ((1 : Nat) + (1 : Nat) + (1 : Nat) + (0 : Nat)) (0 : Nat) (br.sv c.toNat r.toNat (tn.sv r.toNat c.toNat ys) i.toNat).length (0 : Nat) (1 : Nat), [{ c := BC.typ (Cont.ints IntKind.i64 (tn.sv r.toNat c.toNat ys)), ver := (0 : Nat) }, { c := BC.typ (Cont.ints IntKind.i64 (tn.sv r.toNat c.toNat xs)), ver := (0 : Nat) }, { c := BC.cells [AVal.int IntKind.i64 c, AVal.int IntKind.i64 r, AVal.own (0 : Nat) (0 : Nat) (c * r).toNat (0 : Nat) (1 : Nat), AVal.own (1 : Nat) (0 : Nat) (c * r).toNat (0 : Nat) (1 : Nat)], ver := (0 : Nat) }, { c := BC.typ (Cont.ints IntKind.i64 (br.sv c.toNat r.toNat (tn.sv r.toNat c.toNat ys) i.toNat)), ver := (0 : Nat) }]) else none else none else none with
| some (v, h) =>
  bif true && (ltN (3 : Nat) (hlen h) && true) then
    some
      (AVal.re [(3 : Nat)] h v,
        match nth h (3 : Nat) with
        | some b => { c := BC.re [(3 : Nat)] h b.c, ver := b.ver } :: reB [(3 : Nat)] h []
        | none => { c := BC.cells [], ver := (0 : Nat) } :: reB [(3 : Nat)] h [])
  else none
| none => none) := by kernel_rfl
theorem run : ∀ args v new, R args = some (true, v, new) → ∃ fuel, regc [3] (runFn Try.prog (orc [⟨67, l02Turn.R⟩, ⟨49, l02BestRows.R⟩]) hd0 Dr.std none fuel (bodyOf Try.f50) 10 [4] args []) = some (v, new) := by
  intro args v new h
  unfold R at h
  split at h
  · rename_i r c xs ma ys mb i
    simp only [Option.some.injEq, Prod.mk.injEq, Bool.and_eq_true, decide_eq_true_eq, Bool.not_eq_true'] at h
    obtain ⟨⟨⟨rfl, rfl, hi0, hi1⟩, hv⟩, rfl, rfl⟩ := h
    obtain ⟨r, c, rfl, rfl, hr, hc, hx, hy, vx, vy⟩ := gm.valid hv
    have t1 : (tn.sv r c ys).length = c * r := tn.sv_length _ _ _
    have t2 : (tn.sv r c xs).length = c * r := tn.sv_length _ _ _
    have t3 : gm.sp (c : Int) (r : Int) (tn.sv r c ys) (tn.sv r c xs) = true := tn.valid hr hc hx hy vx vy
    have e : ((c : Int) * (r : Int)).toNat = c * r := by
      have : (c : Int) * (r : Int) = ((c * r : Nat) : Int) := by simp
      rw [this]; rfl
    have h36 := gm.le_36 hc.2 hr.2
    have t4 : c * r ≤ 4611686018427387904 := by omega
    have t5 : (tn.sv r c ys).take (c * r) = tn.sv r c ys := List.take_of_length_le (by omega)
    have t6 : (tn.sv r c xs).take (c * r) = tn.sv r c xs := List.take_of_length_le (by omega)
    refine ⟨0, ?_⟩
    rw [go]
    simp only [Int.toNat_natCast, e, t1, t2, t3, t5, t6, hi0, hi1, hv, Nat.le_refl, and_self, eq_self, decide_true, decide_false, Bool.and_self, Bool.or_self, Bool.and_true, Bool.true_and, Bool.and_false, Bool.false_and, Bool.or_true, Bool.true_or, Bool.or_false, Bool.false_or, Bool.not_true, Bool.not_false, cond_true, cond_false]
    try rfl
  · cases h
theorem ok : EntOk Try.prog ⟨50, R⟩ :=
  ent_okAG (ks := [3]) mixed (A := (orc [⟨67, l02Turn.R⟩, ⟨49, l02BestRows.R⟩])) (orc_ok (by simp only [List.mem_cons, List.not_mem_nil, or_false, forall_eq_or_imp, forall_eq]; exact ⟨l02Turn.ok, l02BestRows.ok⟩)) Try.func50 (by kernel_rfl) (by kernel_rfl) (n := 10) (ts := [4]) (hd := hd0) (dr := Dr.std) (cut := none) (by kernel_rfl) (by kernel_rfl) (by kernel_rfl) run
end l02BestColumns










end Go.Proofs.Ythecninmmojkgaa.Ab
