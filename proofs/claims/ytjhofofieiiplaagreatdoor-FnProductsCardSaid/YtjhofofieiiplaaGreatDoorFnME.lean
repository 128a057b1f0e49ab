/-
  Functions: the sine, the point of the unit circle.
-/
import Derived.Test.YtjhofofieiiplaaGreatDoorFnM1
import Derived.Test.YtjhofofieiiplaaGreatDoorFnE
namespace Go.Proofs.YtjhofofieiiplaaGreatDoor.Ab
open Go
set_option linter.unusedVariables false
set_option linter.unusedSimpArgs false
set_option maxRecDepth 100000

namespace fl
theorem zsub_ok {y : Nat} (hy : fin .f64 y) (hb : (val .f64 y).natAbs ≤ sc 1 (31 : Nat)) : fin .f64 (fsub .f64 0 y) ∧ (val .f64 (fsub .f64 0 y)).natAbs ≤ sc 1 (31 : Nat) := by
  have r : Rep .f64 1 (31 : Nat) := rep64 (by omega) (by omega) (by omega)
  have z := zero_ok .f64
  have R := sub_rn z.1 hy r (by rw [z.2]; omega)
  rw [z.2] at R
  have a1 := R.le r (by omega)
  have a2 := R.nge r (by omega)
  exact ⟨R.fin, by omega⟩
theorem nar_ok31 {y : Nat} (hy : fin .f64 y) (hb : (val .f64 y).natAbs ≤ sc 1 (31 : Nat)) : nar.ok.sp y = true ∧ fin .f32 (nar.sv y) ∧ (val .f32 (nar.sv y)).natAbs ≤ sc 1 (31 : Nat) := nar_rn hy (rep32 (by omega) (by omega) (by omega)) hb
structure Facts (x : Nat) : Prop where
  t : fti.ok.sp .i64 .f64 x = true
  fr : fin .f64 (fr.sv x) ∧ 0 ≤ val .f64 (fr.sv x) ∧ val .f64 (fr.sv x) ≤ ((4 : Nat) : Int) * (sc 1 (-2) : Int)
  ge : ge.sp (g.sv x) 4598175219545276416 = false
  g1 : small.sp (g.sv x) = true
  g2 : small.sp (fsub .f64 4598175219545276416 (g.sv x)) = true
  t1 : fti.ok.sp .i64 .f64 (g.sv x) = true
  t2 : fti.ok.sp .i64 .f64 (fsub .f64 4598175219545276416 (g.sv x)) = true
  s : fin .f64 (s.sv x) ∧ (val .f64 (s.sv x)).natAbs ≤ sc 1 (31 : Nat)
  c : fin .f64 (c.sv x) ∧ (val .f64 (c.sv x)).natAbs ≤ sc 1 (31 : Nat)
theorem facts {x : Nat} (hx : fin .f64 x) (hw : wide.sp x = false) : Facts x := by
  unfold wide.sp at hw
  rw [ge_val hx wide_ok.1, le_val hx nwide_ok.1, wide_ok.2, nwide_ok.2, Bool.or_eq_false_iff, decide_eq_false_iff_not, decide_eq_false_iff_not] at hw
  have hb : (val .f64 x).natAbs ≤ sc 1 52 := by omega
  obtain ⟨f1, f2, f3⟩ := fr_ok hx hb
  obtain ⟨g1, g2, g3⟩ := g_ok hx hb
  obtain ⟨c1, c2⟩ := c_ok g1 g2 g3
  have hu := unit4
  have hw2 := one_le_wide
  have hup := unit_pos
  refine ⟨(fti_nat hx hb).2, ⟨f1, f2, by rw [hu] at f3; push_cast at f3; omega⟩, ?_, small_of g1 (by omega), small_of c1 c2, (fti_nat g1 (by omega)).2, (fti_nat c1 (by omega)).2, sn_ok g1 (by omega), sn_ok c1 (by omega)⟩
  rw [ge_val g1 quarter_ok.1, quarter_ok.2]
  exact decide_eq_false (by omega)
theorem abs_eq {x : Nat} (h : x < 18446744073709551616) : (iandn.sv .u64 (x : Int) 9223372036854775808).toNat = abs.sv x := by
  show (IntKind.u64.wrap (((BitVec.ofInt 64 (x : Int) &&& ~~~ BitVec.ofInt 64 9223372036854775808 : BitVec 64).toNat : Nat) : Int)).toNat = x % 9223372036854775808
  have e1 : BitVec.ofInt 64 9223372036854775808 = BitVec.ofNat 64 9223372036854775808 := by decide +kernel
  have e2 : BitVec.ofInt 64 (x : Int) = BitVec.ofNat 64 x := BitVec.ofInt_natCast 64 x
  rw [e1, e2]
  have e3 : (BitVec.ofNat 64 x &&& ~~~ BitVec.ofNat 64 9223372036854775808).toNat = x % 9223372036854775808 := by
    rw [BitVec.toNat_and, BitVec.toNat_not, BitVec.toNat_ofNat, BitVec.toNat_ofNat, Nat.mod_eq_of_lt (a := x) (by omega)]
    exact Nat.and_two_pow_sub_one_eq_mod x 63
  rw [e3, IntWalk.u64_in _ (by omega)]
  omega
theorem abs_ok {x : Nat} (hx : fin .f64 x) : fin .f64 (abs.sv x) ∧ val .f64 (abs.sv x) = (val .f64 x).natAbs := by
  obtain ⟨s, m, e, hd⟩ := hx
  have eS : FloatKind.f64.format.signWeight = 9223372036854775808 := by decide
  have hd' : FloatKind.f64.decode (abs.sv x) = .number false m e := by
    unfold FloatKind.decode Ieee.Format.read at hd ⊢
    simp only [eS] at hd ⊢
    have h1 : abs.sv x % 9223372036854775808 = x % 9223372036854775808 := Nat.mod_mod _ _
    have h2 : abs.sv x / 9223372036854775808 = 0 := Nat.div_eq_of_lt (Nat.mod_lt _ (by decide))
    rw [h1, h2]
    split at hd
    · rename_i hc; rw [if_pos hc]; simp only [Ieee.Datum.number.injEq] at hd ⊢; obtain ⟨_, rfl, rfl⟩ := hd; exact ⟨rfl, rfl, rfl⟩
    · rename_i hc
      rw [if_neg hc]
      split at hd
      · rename_i hc2; rw [if_pos hc2]; simp only [Ieee.Datum.number.injEq] at hd ⊢; obtain ⟨_, rfl, rfl⟩ := hd; exact ⟨rfl, rfl, rfl⟩
      · split at hd <;> cases hd
  refine ⟨⟨_, _, _, hd'⟩, ?_⟩
  rw [val_eq hd', val_bound hd]; rfl
theorem abs_wide {x : Nat} (hx : fin .f64 x) : ge.sp (abs.sv x) 4841369599423283200 = wide.sp x := by
  obtain ⟨a1, a2⟩ := abs_ok hx
  unfold wide.sp
  rw [ge_val a1 wide_ok.1, ge_val hx wide_ok.1, le_val hx nwide_ok.1, wide_ok.2, nwide_ok.2, a2]
  by_cases h1 : (sc 1 52 : Int) ≤ val .f64 x
  · rw [decide_eq_true h1, decide_eq_true (by omega)]; rfl
  · rw [decide_eq_false h1, Bool.false_or]
    congr 1
    apply propext
    omega
def kk (k : Nat) : Nat := FloatKind.f64.nearest (k : Int)
theorem kk_facts : ∀ k, k < 9 → (ge.sp (kk k) 4607182418800017408 = decide (1 ≤ k)) ∧ (1 ≤ k → fsub .f64 (kk k) 4607182418800017408 = kk (k - 1) ∧ fmul .f64 (fmul .f64 4611686018427387904 (kk k)) (fadd .f64 (fmul .f64 4611686018427387904 (kk k)) 4607182418800017408) = den k ∧ FloatKind.f64.nearest (IntKind.i64.wrap (IntKind.i64.wrap (2 * (k : Int)) * IntKind.i64.wrap (IntKind.i64.wrap (2 * (k : Int)) + 1))) = den k) := by decide +kernel
end fl


theorem isBits64 : IsBits Tryz.prog 82 Extern.MathFloatBits.float64bits := ⟨⟨_, Tryz.func82, by kernel_rfl, by kernel_rfl, by kernel_rfl, by kernel_rfl⟩⟩
theorem isFrom64 : IsBits Tryz.prog 81 Extern.MathFloatBits.float64frombits := ⟨⟨_, Tryz.func81, by kernel_rfl, by kernel_rfl, by kernel_rfl, by kernel_rfl⟩⟩
namespace mathAbs
def R : List AVal → Option (Bool × AVal × List Blk)
  | [.flt .f64 x] => some (fl.ok.sp x, .flt .f64 (fl.abs.sv x), [])
  | _ => none
theorem go (x : Nat) :
  runFn Tryz.prog (orcB 82 81) hd0 Dr.std none 0 (bodyOf Tryz.f65) 7 [2] [.flt .f64 x] []
  = (bif num64.sp x then some (AVal.flt FloatKind.f64 (iandn.sv IntKind.u64 (↑x : Int) (9223372036854775808 : Int)).toNat, []) else none) := by kernel_rfl
theorem run : ∀ args v new, R args = some (true, v, new) → ∃ fuel, runFn Tryz.prog (orcB 82 81) hd0 Dr.std none fuel (bodyOf Tryz.f65) 7 [2] args [] = some (v, new) := by
  intro args v new h
  unfold R at h
  split at h
  · rename_i x
    simp only [Option.some.injEq, Prod.mk.injEq, fl.ok.sp, Bool.and_eq_true, decide_eq_true_eq] at h
    obtain ⟨⟨h1, h2⟩, rfl, rfl⟩ := h
    refine ⟨0, ?_⟩
    rw [go, h1, cond_true, fl.abs_eq h2]
  · cases h
theorem ok : EntOk Tryz.prog ⟨65, R⟩ :=
  ent_okA mixed (A := (orcB 82 81)) (orcB_ok isBits64 isFrom64) Tryz.func65 (by kernel_rfl) (by kernel_rfl) (n := 7) (ts := [2]) (hd := hd0) (dr := Dr.std) (cut := none) (by kernel_rfl) (by kernel_rfl) (by kernel_rfl) run
end mathAbs

namespace fraction
def R : List AVal → Option (Bool × AVal × List Blk)
  | [.flt .f64 x] => some (fti.ok.sp .i64 .f64 x, .flt .f64 (fl.fr.sv x), [])
  | _ => none
theorem go (x : Nat) :
  runFn Tryz.prog (orc []) hd0 Dr.std none 0 (bodyOf Tryz.f83) 14 [2] [.flt .f64 x] []
  = (bif fti.ok.sp IntKind.i64 FloatKind.f64 x then bif FloatKind.f64.format.order (fsub FloatKind.f64 x (FloatKind.f64.nearest (fti.sv FloatKind.f64 x))) (0 : Nat) == some Ordering.lt then some (AVal.flt FloatKind.f64 (fadd FloatKind.f64 (fsub FloatKind.f64 x (FloatKind.f64.nearest (fti.sv FloatKind.f64 x))) (4607182418800017408 : Nat)), []) else some (AVal.flt FloatKind.f64 (fsub FloatKind.f64 x (FloatKind.f64.nearest (fti.sv FloatKind.f64 x))), []) else none) := by kernel_rfl
theorem run : ∀ args v new, R args = some (true, v, new) → ∃ fuel, runFn Tryz.prog (orc []) hd0 Dr.std none fuel (bodyOf Tryz.f83) 14 [2] args [] = some (v, new) := by
  intro args v new h
  unfold R at h
  split at h
  · rename_i x
    simp only [Option.some.injEq, Prod.mk.injEq] at h
    obtain ⟨h1, rfl, rfl⟩ := h
    refine ⟨0, ?_⟩
    rw [go, h1, cond_true]
    unfold fl.fr.sv
    cases (FloatKind.f64.format.order (fsub .f64 x (FloatKind.f64.nearest (fti.sv .f64 x))) 0 == some Ordering.lt) <;> rfl
  · cases h
theorem ok : EntOk Tryz.prog ⟨83, R⟩ :=
  ent_okA mixed (A := (orc [])) (orc_ok (by simp)) Tryz.func83 (by kernel_rfl) (by kernel_rfl) (n := 14) (ts := [2]) (hd := hd0) (dr := Dr.std) (cut := none) (by kernel_rfl) (by kernel_rfl) (by kernel_rfl) run
end fraction

namespace l01Narrow
def R : List AVal → Option (Bool × AVal × List Blk)
  | [.flt .f64 x] => some (nar.ok.sp x, .flt .f32 (nar.sv x), [])
  | _ => none
theorem go (x : Nat) :
  runFn Tryz.prog (orc []) hd0 Dr.std none 0 (bodyOf Tryz.f71) 5 [2] [.flt .f64 x] []
  = (bif nar.ok.sp x then some (AVal.flt FloatKind.f32 (nar.sv x), []) else none) := by kernel_rfl
theorem run : ∀ args v new, R args = some (true, v, new) → ∃ fuel, runFn Tryz.prog (orc []) hd0 Dr.std none fuel (bodyOf Tryz.f71) 5 [2] args [] = some (v, new) := by
  intro args v new h
  unfold R at h
  split at h
  · rename_i x
    simp only [Option.some.injEq, Prod.mk.injEq] at h
    obtain ⟨h1, rfl, rfl⟩ := h
    refine ⟨0, ?_⟩
    rw [go, h1, cond_true]
  · cases h
theorem ok : EntOk Tryz.prog ⟨71, R⟩ :=
  ent_okA mixed (A := (orc [])) (orc_ok (by simp)) Tryz.func71 (by kernel_rfl) (by kernel_rfl) (n := 5) (ts := [2]) (hd := hd0) (dr := Dr.std) (cut := none) (by kernel_rfl) (by kernel_rfl) (by kernel_rfl) run
end l01Narrow

namespace sine
def R : List AVal → Option (Bool × AVal × List Blk)
  | [.flt .f64 x] => some (fti.ok.sp .i64 .f64 x, .flt .f64 (fl.sn.sv x), [])
  | _ => none
def hd : Nat → Head := fun _ => ⟨[4, 5, 6, 7, 8], none⟩
noncomputable def L (f n : Nat) (s : State) := loopAt Tryz.prog (orc [⟨83, fraction.R⟩]) hd Dr.std 0 f (bodyOf Tryz.f67) 0 [true, true, true, true, true, true, true, true, false, true] (retK Tryz.prog [2] 0 none) n s
theorem start (x f : Nat) :
  runFn Tryz.prog (orc [⟨83, fraction.R⟩]) hd Dr.std none f (bodyOf Tryz.f67) 48 [2] [.flt .f64 x] []
  = (bif fti.ok.sp IntKind.i64 FloatKind.f64 x && (true && true || true && true) then bif FloatKind.f64.format.order (fl.fr.sv x) (4602678819172646912 : Nat) == some Ordering.gt || FloatKind.f64.format.order (fl.fr.sv x) (4602678819172646912 : Nat) == some Ordering.eq then bif FloatKind.f64.format.order (fsub FloatKind.f64 (fl.fr.sv x) (4602678819172646912 : Nat)) (4598175219545276416 : Nat) == some Ordering.gt then L f f (mkS (48 : Nat) [((4 : Nat), AVal.bool (FloatKind.f64.format.order (fl.fr.sv x) (4602678819172646912 : Nat) == some Ordering.gt || FloatKind.f64.format.order (fl.fr.sv x) (4602678819172646912 : Nat) == some Ordering.eq)), ((5 : Nat), AVal.flt FloatKind.f64 (fmul FloatKind.f64 (fsub FloatKind.f64 (4602678819172646912 : Nat) (fsub FloatKind.f64 (fl.fr.sv x) (4602678819172646912 : Nat))) (4618760256179416344 : Nat))), ((6 : Nat), AVal.flt FloatKind.f64 (fmul FloatKind.f64 (fmul FloatKind.f64 (fsub FloatKind.f64 (4602678819172646912 : Nat) (fsub FloatKind.f64 (fl.fr.sv x) (4602678819172646912 : Nat))) (4618760256179416344 : Nat)) (fmul FloatKind.f64 (fsub FloatKind.f64 (4602678819172646912 : Nat) (fsub FloatKind.f64 (fl.fr.sv x) (4602678819172646912 : Nat))) (4618760256179416344 : Nat)))), ((7 : Nat), AVal.flt FloatKind.f64 (4607182418800017408 : Nat)), ((8 : Nat), AVal.flt FloatKind.f64 (4620693217682128896 : Nat))] []) else L f f (mkS (48 : Nat) [((4 : Nat), AVal.bool (FloatKind.f64.format.order (fl.fr.sv x) (4602678819172646912 : Nat) == some Ordering.gt || FloatKind.f64.format.order (fl.fr.sv x) (4602678819172646912 : Nat) == some Ordering.eq)), ((5 : Nat), AVal.flt FloatKind.f64 (fmul FloatKind.f64 (fsub FloatKind.f64 (fl.fr.sv x) (4602678819172646912 : Nat)) (4618760256179416344 : Nat))), ((6 : Nat), AVal.flt FloatKind.f64 (fmul FloatKind.f64 (fmul FloatKind.f64 (fsub FloatKind.f64 (fl.fr.sv x) (4602678819172646912 : Nat)) (4618760256179416344 : Nat)) (fmul FloatKind.f64 (fsub FloatKind.f64 (fl.fr.sv x) (4602678819172646912 : Nat)) (4618760256179416344 : Nat)))), ((7 : Nat), AVal.flt FloatKind.f64 (4607182418800017408 : Nat)), ((8 : Nat), AVal.flt FloatKind.f64 (4620693217682128896 : Nat))] []) else bif FloatKind.f64.format.order (fl.fr.sv x) (4598175219545276416 : Nat) == some Ordering.gt then L f f (mkS (48 : Nat) [((4 : Nat), AVal.bool (FloatKind.f64.format.order (fl.fr.sv x) (4602678819172646912 : Nat) == some Ordering.gt || FloatKind.f64.format.order (fl.fr.sv x) (4602678819172646912 : Nat) == some Ordering.eq)), ((5 : Nat), AVal.flt FloatKind.f64 (fmul FloatKind.f64 (fsub FloatKind.f64 (4602678819172646912 : Nat) (fl.fr.sv x)) (4618760256179416344 : Nat))), ((6 : Nat), AVal.flt FloatKind.f64 (fmul FloatKind.f64 (fmul FloatKind.f64 (fsub FloatKind.f64 (4602678819172646912 : Nat) (fl.fr.sv x)) (4618760256179416344 : Nat)) (fmul FloatKind.f64 (fsub FloatKind.f64 (4602678819172646912 : Nat) (fl.fr.sv x)) (4618760256179416344 : Nat)))), ((7 : Nat), AVal.flt FloatKind.f64 (4607182418800017408 : Nat)), ((8 : Nat), AVal.flt FloatKind.f64 (4620693217682128896 : Nat))] []) else L f f (mkS (48 : Nat) [((4 : Nat), AVal.bool (FloatKind.f64.format.order (fl.fr.sv x) (4602678819172646912 : Nat) == some Ordering.gt || FloatKind.f64.format.order (fl.fr.sv x) (4602678819172646912 : Nat) == some Ordering.eq)), ((5 : Nat), AVal.flt FloatKind.f64 (fmul FloatKind.f64 (fl.fr.sv x) (4618760256179416344 : Nat))), ((6 : Nat), AVal.flt FloatKind.f64 (fmul FloatKind.f64 (fmul FloatKind.f64 (fl.fr.sv x) (4618760256179416344 : Nat)) (fmul FloatKind.f64 (fl.fr.sv x) (4618760256179416344 : Nat)))), ((7 : Nat), AVal.flt FloatKind.f64 (4607182418800017408 : Nat)), ((8 : Nat), AVal.flt FloatKind.f64 (4620693217682128896 : Nat))] []) else none) := by kernel_rfl
theorem round (b : Bool) (u z p kf : Nat) (f n : Nat) :
  L f (n + 1) (mkS 48 [(4, .bool b), (5, .flt .f64 z), (6, .flt .f64 u), (7, .flt .f64 p), (8, .flt .f64 kf)] [])
  = (bif FloatKind.f64.format.order kf (4607182418800017408 : Nat) == some Ordering.gt || FloatKind.f64.format.order kf (4607182418800017408 : Nat) == some Ordering.eq then L f n (mkS (48 : Nat) [((4 : Nat), AVal.bool b), ((5 : Nat), AVal.flt FloatKind.f64 z), ((6 : Nat), AVal.flt FloatKind.f64 u), ((7 : Nat), AVal.flt FloatKind.f64 (fsub FloatKind.f64 (4607182418800017408 : Nat) (fdiv FloatKind.f64 (fmul FloatKind.f64 u p) (fmul FloatKind.f64 (fmul FloatKind.f64 (4611686018427387904 : Nat) kf) (fadd FloatKind.f64 (fmul FloatKind.f64 (4611686018427387904 : Nat) kf) (4607182418800017408 : Nat)))))), ((8 : Nat), AVal.flt FloatKind.f64 (fsub FloatKind.f64 kf (4607182418800017408 : Nat)))] []) else bif b then some (AVal.flt FloatKind.f64 (Op.negFloat FloatKind.f64 (fmul FloatKind.f64 z p)), []) else some (AVal.flt FloatKind.f64 (fmul FloatKind.f64 z p), [])) := by kernel_rfl
theorem loop (b : Bool) (u z f : Nat) : ∀ (k n p : Nat), k ≤ 8 → k < n →
    L f n (mkS 48 [(4, .bool b), (5, .flt .f64 z), (6, .flt .f64 u), (7, .flt .f64 p), (8, .flt .f64 (fl.kk k))] []) = some (.flt .f64 (bif b then Op.negFloat .f64 (fmul .f64 z (fl.pk.sv u k p)) else fmul .f64 z (fl.pk.sv u k p)), []) := by
  intro k
  induction k with
  | zero =>
    intro n p hk hn
    obtain ⟨n, rfl⟩ : ∃ k, n = k + 1 := ⟨n - 1, by omega⟩
    have hg := (fl.kk_facts 0 (by omega)).1
    unfold fl.ge.sp at hg
    rw [round]
    simp -implicitDefEqProofs only [hg, fl.pk.sv, Nat.not_succ_le_zero, decide_false, decide_true, decide_false, Bool.and_self, Bool.or_self, Bool.and_true, Bool.true_and, Bool.and_false, Bool.false_and, Bool.or_true, Bool.true_or, Bool.or_false, Bool.false_or, Bool.not_true, Bool.not_false, cond_true, cond_false]
    cases b <;> rfl
  | succ k ih =>
    intro n p hk hn
    obtain ⟨n, rfl⟩ : ∃ k, n = k + 1 := ⟨n - 1, by omega⟩
    obtain ⟨hg, hf⟩ := fl.kk_facts (k + 1) (by omega)
    obtain ⟨hf1, hf2, hf3⟩ := hf (by omega)
    unfold fl.ge.sp at hg
    have h1 : 1 ≤ k + 1 := by omega
    have h2 : (1 : Int) ≤ ((k + 1 : Nat) : Int) := by omega
    have wq : IntKind.i64.wrap (((k + 1 : Nat) : Int) - 1) = (k : Int) := by rw [IntWalk.i64_in _ (by omega)]; omega
    rw [Nat.add_sub_cancel] at hf1
    have hih := ih n (fsub .f64 4607182418800017408 (fdiv .f64 (fmul .f64 u p) (fl.den (k + 1)))) (by omega) (by omega)
    rw [round]
    simp -implicitDefEqProofs only [hg, hf1, hf2, hf3, h1, h2, wq, fl.pk.sv, decide_true, decide_false, Bool.and_self, Bool.or_self, Bool.and_true, Bool.true_and, Bool.and_false, Bool.false_and, Bool.or_true, Bool.true_or, Bool.or_false, Bool.false_or, Bool.not_true, Bool.not_false, cond_true, cond_false]
    exact hih
theorem run : ∀ args v new, R args = some (true, v, new) → ∃ fuel, runFn Tryz.prog (orc [⟨83, fraction.R⟩]) hd Dr.std none fuel (bodyOf Tryz.f67) 48 [2] args [] = some (v, new) := by
  intro args v new h
  unfold R at h
  split at h
  · rename_i x
    simp only [Option.some.injEq, Prod.mk.injEq] at h
    obtain ⟨h1, rfl, rfl⟩ := h
    obtain ⟨F, hF⟩ : ∃ F : Nat, F = 100 := ⟨100, rfl⟩
    refine ⟨F, ?_⟩
    have hl := fun (b : Bool) (z u : Nat) => loop b u z F 8 F 4607182418800017408 (by omega) (by omega)
    have hk8 : fl.kk 8 = 4620693217682128896 := by decide +kernel
    rw [hk8] at hl
    rw [start]
    simp -implicitDefEqProofs only [h1, decide_true, decide_false, Bool.and_self, Bool.or_self, Bool.and_true, Bool.true_and, Bool.and_false, Bool.false_and, Bool.or_true, Bool.true_or, Bool.or_false, Bool.false_or, Bool.not_true, Bool.not_false, cond_true, cond_false]
    unfold fl.sn.sv fl.u.sv fl.z.sv fl.f2.sv fl.f1.sv fl.t.sp fl.gt.sp fl.ge.sp
    generalize fl.fr.sv x = g
    cases HA : (FloatKind.f64.format.order g 4602678819172646912 == some Ordering.gt || FloatKind.f64.format.order g 4602678819172646912 == some Ordering.eq)
    · cases HB : FloatKind.f64.format.order g 4598175219545276416 == some Ordering.gt
      · simp -implicitDefEqProofs only [HA, HB, decide_true, decide_false, Bool.and_self, Bool.or_self, Bool.and_true, Bool.true_and, Bool.and_false, Bool.false_and, Bool.or_true, Bool.true_or, Bool.or_false, Bool.false_or, Bool.not_true, Bool.not_false, cond_true, cond_false]
        exact hl _ _ _
      · simp -implicitDefEqProofs only [HA, HB, decide_true, decide_false, Bool.and_self, Bool.or_self, Bool.and_true, Bool.true_and, Bool.and_false, Bool.false_and, Bool.or_true, Bool.true_or, Bool.or_false, Bool.false_or, Bool.not_true, Bool.not_false, cond_true, cond_false]
        exact hl _ _ _
    · cases HB : FloatKind.f64.format.order (fsub .f64 g 4602678819172646912) 4598175219545276416 == some Ordering.gt
      · simp -implicitDefEqProofs only [HA, HB, decide_true, decide_false, Bool.and_self, Bool.or_self, Bool.and_true, Bool.true_and, Bool.and_false, Bool.false_and, Bool.or_true, Bool.true_or, Bool.or_false, Bool.false_or, Bool.not_true, Bool.not_false, cond_true, cond_false]
        exact hl _ _ _
      · simp -implicitDefEqProofs only [HA, HB, decide_true, decide_false, Bool.and_self, Bool.or_self, Bool.and_true, Bool.true_and, Bool.and_false, Bool.false_and, Bool.or_true, Bool.true_or, Bool.or_false, Bool.false_or, Bool.not_true, Bool.not_false, cond_true, cond_false]
        exact hl _ _ _
  · cases h
theorem ok : EntOk Tryz.prog ⟨67, R⟩ :=
  ent_okA mixed (A := (orc [⟨83, fraction.R⟩])) (orc_ok (by simp only [List.mem_cons, List.not_mem_nil, or_false, forall_eq_or_imp, forall_eq]; exact fraction.ok)) Tryz.func67 (by kernel_rfl) (by kernel_rfl) (n := 48) (ts := [2]) (hd := hd) (dr := Dr.std) (cut := none) (by kernel_rfl) (by kernel_rfl) (by kernel_rfl) run
end sine




end Go.Proofs.YtjhofofieiiplaaGreatDoor.Ab
