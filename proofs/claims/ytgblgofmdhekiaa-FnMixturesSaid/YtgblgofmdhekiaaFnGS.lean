/-
  Functions: the most that a player would gain.
-/
import Derived.Test.YtgblgofmdhekiaaFnGR
namespace Go.Proofs.Ytgblgofmdhekiaa.Ab
open Go
set_option linter.unusedVariables false
set_option linter.unusedSimpArgs false
set_option maxRecDepth 100000


namespace iWouldGain
def R : List AVal → Option (Bool × AVal × List Blk)
  | [.agg [.int .i64 r, .int .i64 c, .ro (.ints .i64 xs) ma 1, .ro (.ints .i64 ys) mb 1], .ro (.flts .f32 az) mc 1, .ro (.flts .f32 bz) md 1] => some (decide (ma = xs.length ∧ mb = ys.length ∧ ma ≤ 4611686018427387904 ∧ mb ≤ 4611686018427387904 ∧ mc = az.length ∧ mc ≤ 4611686018427387904 ∧ md = bz.length ∧ md ≤ 4611686018427387904), .tup [.flt .f32 (wg.v.sv r c xs ys az bz), .bool (wg.sp r c xs ys az bz)], [])
  | _ => none
theorem go (r c : Int) (xs ys : List Int) (az bz : List Nat) :
  runFn Try.prog (orcW [⟨48, look.R⟩] [⟨19, iGainsOf.R⟩, ⟨44, turnedL.R⟩]) hd0 Dr.std (some 0) 0 (bodyOf Try.f18) 38 [6, 7] [.agg [.int .i64 r, .int .i64 c, .ro (.ints .i64 xs) xs.length 1, .ro (.ints .i64 ys) ys.length 1], .ro (.flts .f32 az) az.length 1, .ro (.flts .f32 bz) bz.length 1] []
  = (bif true && true && (true && true && (true && true && (true && true && true))) then bif decide (xs.length = xs.length ∧ ys.length = ys.length ∧ xs.length ≤ (4611686018427387904 : Nat) ∧ ys.length ≤ (4611686018427387904 : Nat) ∧ az.length = az.length ∧ az.length ≤ (4611686018427387904 : Nat) ∧ bz.length = bz.length ∧ bz.length ≤ (4611686018427387904 : Nat)) && (true && (true && (true && (true && true))) && (true && (true && true)) || true && (true && (true && true)) && true) then bif true && true then bif !wg.gok.sp r c xs ys az bz then some (AVal.tup [AVal.flt FloatKind.f32 (0 : Nat), AVal.bool false], []) else bif true && true && (true && true && (true && true && (true && true && true))) then bif decide (xs.length = xs.length ∧ ys.length = ys.length ∧ xs.length ≤ (4611686018427387904 : Nat) ∧ ys.length ≤ (4611686018427387904 : Nat) ∧ bz.length = bz.length ∧ bz.length ≤ (4611686018427387904 : Nat) ∧ (↑bz.length : Int) = c) && gm.sp r c xs ys && (true && (true && true) && (true && (true && true))) then bif true && true && (true && true && (true && true && (true && true && true))) then bif decide (xs.length = xs.length ∧ ys.length = ys.length) && gm.sp r c xs ys && (true && (true && (true && (true && true))) && true || true && (true && (false && (false && true))) && true) then bif decide ((c * r).toNat = (tn.sv r.toNat c.toNat ys).length ∧ (c * r).toNat = (tn.sv r.toNat c.toNat xs).length ∧ (c * r).toNat ≤ (4611686018427387904 : Nat) ∧ (c * r).toNat ≤ (4611686018427387904 : Nat) ∧ az.length = az.length ∧ az.length ≤ (4611686018427387904 : Nat) ∧ (↑az.length : Int) = r) && gm.sp c r (tn.sv r.toNat c.toNat ys) (tn.sv r.toNat c.toNat xs) && (true && (true && true) && (true && (true && true))) then bif true && true then bif !(wg.gok.sp r c xs ys az bz && wg.fin.sp (wg.FR c.toNat xs bz (wg.ga.sv r c xs ys az bz)) r.toNat && wg.fin.sp (wg.FR r.toNat (tn.sv r.toNat c.toNat ys) az (wg.gb.sv r c xs ys az bz)) c.toNat) then some (AVal.tup [AVal.flt FloatKind.f32 (0 : Nat), AVal.bool false], []) else bif true && true then some (AVal.tup [AVal.flt FloatKind.f32 (wg.mst.sv (wg.FR r.toNat (tn.sv r.toNat c.toNat ys) az (wg.gb.sv r c xs ys az bz)) c.toNat (wg.mst.sv (wg.FR c.toNat xs bz (wg.ga.sv r c xs ys az bz)) r.toNat (0 : Nat))), AVal.bool true], []) else none else none else none else none else none else none else none else none else none else none) := by kernel_rfl
theorem run : ∀ args v new, R args = some (true, v, new) → ∃ fuel, runFn Try.prog (orcW [⟨48, look.R⟩] [⟨19, iGainsOf.R⟩, ⟨44, turnedL.R⟩]) hd0 Dr.std (some 0) fuel (bodyOf Try.f18) 38 [6, 7] args [] = some (v, new) := by
  intro args v new h
  unfold R at h
  split at h
  · rename_i r c xs ma ys mb az mc bz md
    simp only [Option.some.injEq, Prod.mk.injEq, Bool.and_eq_true, decide_eq_true_eq, Bool.not_eq_true'] at h
    obtain ⟨⟨rfl, rfl, h3, h4, rfl, h6, rfl, h8⟩, rfl, rfl⟩ := h
    refine ⟨0, ?_⟩
    rw [go]
    cases hg : wg.gok.sp r c xs ys az bz
    · have ho : wg.sp r c xs ys az bz = false := by simp [wg.sp, hg]
      simp only [wg.v.sv, ho, cond_false]
      simp -implicitDefEqProofs only [h3, h4, h6, h8, hg, Nat.le_refl, and_self, eq_self, decide_true, decide_false, Bool.and_self, Bool.or_self, Bool.and_true, Bool.true_and, Bool.and_false, Bool.false_and, Bool.or_true, Bool.true_or, Bool.or_false, Bool.false_or, Bool.not_true, Bool.not_false, cond_true, cond_false]
    · have hch : wg.ch.sp r c xs ys az bz = true := by
        unfold wg.gok.sp at hg
        simp only [Bool.and_eq_true] at hg
        exact hg.1
      obtain ⟨hv, ha, hb⟩ := wg.ch_valid hch
      have hv2 := hv
      obtain ⟨r, c, rfl, rfl, hr, hc, hx, hy, vx, vy⟩ := gm.valid hv2
      have h36c := gm.le_36 hc.2 hr.2
      have t1 : (tn.sv r c ys).length = c * r := tn.sv_length _ _ _
      have t2 : (tn.sv r c xs).length = c * r := tn.sv_length _ _ _
      have t4 : c * r ≤ 4611686018427387904 := by omega
      have hw := tn.valid hr hc hx hy vx vy
      have e : ((c : Int) * (r : Int)).toNat = c * r := by
        have : (c : Int) * (r : Int) = ((c * r : Nat) : Int) := by simp
        rw [this]; rfl
      unfold wg.v.sv wg.sp
      rw [hg]
      simp -implicitDefEqProofs only [e, t1, t2, t4, hw, hv, ha, hb, h3, h4, h6, h8, Int.toNat_natCast, Nat.le_refl, and_self, eq_self, wg.turned_fin, wg.turned_mst, decide_true, decide_false, Bool.and_self, Bool.or_self, Bool.and_true, Bool.true_and, Bool.and_false, Bool.false_and, Bool.or_true, Bool.true_or, Bool.or_false, Bool.false_or, Bool.not_true, Bool.not_false, cond_true, cond_false]
      generalize wg.ga.sv (r : Int) (c : Int) xs ys az bz = A
      generalize wg.gb.sv (r : Int) (c : Int) xs ys az bz = B
      cases wg.fin.sp (wg.FR c xs bz A) r <;> cases wg.fin.sp (wg.FC r c ys az B) c <;> rfl
  · cases h
theorem ok : EntOk Try.prog ⟨18, R⟩ :=
  ent_okA mixed (A := (orcW [⟨48, look.R⟩] [⟨19, iGainsOf.R⟩, ⟨44, turnedL.R⟩])) (orcW_ok (by simp only [List.mem_cons, List.not_mem_nil, or_false, forall_eq_or_imp, forall_eq]; exact look.ok) (by simp only [List.mem_cons, List.not_mem_nil, or_false, forall_eq_or_imp, forall_eq]; exact ⟨iGainsOf.ok, turnedL.ok⟩)) Try.func18 (by kernel_rfl) (by kernel_rfl) (n := 38) (ts := [6, 7]) (hd := hd0) (dr := Dr.std) (cut := (some 0)) (by kernel_rfl) (by kernel_rfl) (by kernel_rfl) run
end iWouldGain

end Go.Proofs.Ytgblgofmdhekiaa.Ab
