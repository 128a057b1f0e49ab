/-
  Functions: mixed points.
-/
import Derived.Test.YtadpndpbooofiaaFnRD
import Derived.Test.YtadpndpbooofiaaFnJ
namespace Go.Proofs.Ytadpndpbooofiaa.Ab
open Go
set_option linter.unusedVariables false
set_option linter.unusedSimpArgs false
set_option maxRecDepth 100000

namespace sMix
theorem inner (xs : List Int) (x y : Int) (N : Nat) (hx : xs.length = 2 * N) (hN : N ≤ 16) (v : ∀ z ∈ xs, 0 ≤ z ∧ z ≤ 1000) (hx0 : 0 ≤ x ∧ x ≤ 1000) (hy0 : 0 ≤ y ∧ y ≤ 1000) (f n i : Nat) (hi : i < N) : ∀ (d k n2 : Nat) (s : mx.S), k + d = N → d < n2 →
    L2 f n n2 (mkS 164 [(0, .ro (.ints .i64 xs) xs.length 1), (1, .int .i64 x), (2, .int .i64 y), (9, .bool s.f), (10, .flt .f32 s.m), (11, .flt .f32 s.o), (12, .flt .f32 s.w), (13, .int .i64 ((2 * i : Nat) : Int)), (14, .int .i64 ((2 * k : Nat) : Int))] []) = L1 f n (mkS 164 [(0, .ro (.ints .i64 xs) xs.length 1), (1, .int .i64 x), (2, .int .i64 y), (9, .bool (mx.inn xs x y i d k s).f), (10, .flt .f32 (mx.inn xs x y i d k s).m), (11, .flt .f32 (mx.inn xs x y i d k s).o), (12, .flt .f32 (mx.inn xs x y i d k s).w), (13, .int .i64 ((2 * (i + 1) : Nat) : Int))] []) := by
  have wi : IntKind.i64.wrap (((2 * i : Nat) : Int) + 2) = ((2 * (i + 1) : Nat) : Int) := by rw [IntWalk.i64_in _ (by omega)]; omega
  intro d
  induction d with
  | zero =>
    intro k n2 s hk hn
    obtain ⟨n2, rfl⟩ : ∃ k, n2 = k + 1 := ⟨n2 - 1, by omega⟩
    have c : ¬ (((2 * k : Nat) : Int) < (xs.length : Int)) := by omega
    rw [round2]
    simp -implicitDefEqProofs only [c, wi, mx.inn, decide_true, decide_false, Bool.and_self, Bool.or_self, Bool.and_true, Bool.true_and, Bool.and_false, Bool.false_and, Bool.or_true, Bool.true_or, Bool.or_false, Bool.false_or, Bool.not_true, Bool.not_false, cond_true, cond_false]
  | succ d ih =>
    intro k n2 s hk hn
    obtain ⟨n2, rfl⟩ : ∃ k, n2 = k + 1 := ⟨n2 - 1, by omega⟩
    have c : ((2 * k : Nat) : Int) < (xs.length : Int) := by omega
    have wk : IntKind.i64.wrap (((2 * k : Nat) : Int) + 2) = ((2 * (k + 1) : Nat) : Int) := by rw [IntWalk.i64_in _ (by omega)]; omega
    have w1i : IntKind.i64.wrap (((2 * i : Nat) : Int) + 1) = ((2 * i + 1 : Nat) : Int) := by rw [IntWalk.i64_in _ (by omega)]; omega
    have a1i : (0 : Int) ≤ ((2 * i : Nat) : Int) := Int.natCast_nonneg _
    have a2i : (0 : Int) ≤ ((2 * i + 1 : Nat) : Int) := Int.natCast_nonneg _
    have b1i : ((2 * i : Nat) : Int) < (xs.length : Int) := by omega
    have b2i : ((2 * i + 1 : Nat) : Int) < (xs.length : Int) := by omega
    have c1i : 2 * i < xs.length := by omega
    have c2i : 2 * i + 1 < xs.length := by omega
    have v1i := mx.bndx v (2 * i)
    have v2i := mx.bndx v (2 * i + 1)
    have z1i : IntKind.i64.wrap (gz xs (2 * i) - x) = gz xs (2 * i) - x := IntWalk.i64_in _ (by omega)
    have z2i : IntKind.i64.wrap (gz xs (2 * i + 1) - y) = gz xs (2 * i + 1) - y := IntWalk.i64_in _ (by omega)
    have x1i : FloatKind.f32.nearest (gz xs (2 * i) - x) = mx.x.sv xs x i := rfl
    have x2i : FloatKind.f32.nearest (gz xs (2 * i + 1) - y) = mx.y.sv xs y i := rfl
    have w1k : IntKind.i64.wrap (((2 * k : Nat) : Int) + 1) = ((2 * k + 1 : Nat) : Int) := by rw [IntWalk.i64_in _ (by omega)]; omega
    have a1k : (0 : Int) ≤ ((2 * k : Nat) : Int) := Int.natCast_nonneg _
    have a2k : (0 : Int) ≤ ((2 * k + 1 : Nat) : Int) := Int.natCast_nonneg _
    have b1k : ((2 * k : Nat) : Int) < (xs.length : Int) := by omega
    have b2k : ((2 * k + 1 : Nat) : Int) < (xs.length : Int) := by omega
    have c1k : 2 * k < xs.length := by omega
    have c2k : 2 * k + 1 < xs.length := by omega
    have v1k := mx.bndx v (2 * k)
    have v2k := mx.bndx v (2 * k + 1)
    have z1k : IntKind.i64.wrap (gz xs (2 * k) - x) = gz xs (2 * k) - x := IntWalk.i64_in _ (by omega)
    have z2k : IntKind.i64.wrap (gz xs (2 * k + 1) - y) = gz xs (2 * k + 1) - y := IntWalk.i64_in _ (by omega)
    have x1k : FloatKind.f32.nearest (gz xs (2 * k) - x) = mx.x.sv xs x k := rfl
    have x2k : FloatKind.f32.nearest (gz xs (2 * k + 1) - y) = mx.y.sv xs y k := rfl
    have ea : ∀ p q u v : Nat, fmul .f32 (fsub .f32 u p) (fsub .f32 v q) = mx.a.sv p q u v := fun _ _ _ _ => rfl
    have eb : ∀ p q u v : Nat, fadd .f32 (fmul .f32 (fsub .f32 u p) q) (fmul .f32 (fsub .f32 v q) p) = mx.b.sv p q u v := fun _ _ _ _ => rfl
    have ec : ∀ a b : Nat, fdiv .f32 (Op.negFloat .f32 b) (fmul .f32 1073741824 a) = mx.c.sv a b := fun _ _ => rfl
    have eg : ∀ a b c : Nat, (FloatKind.f32.format.order (fmul .f32 a b) c == some Ordering.gt) = mx.gt.sp (fmul .f32 a b) c := fun _ _ _ => rfl
    have en : ∀ a : Nat, (FloatKind.f32.format.order a 0 == some Ordering.lt) = mx.neg.sp a := fun _ => rfl
    have ep : ∀ a b : Nat, (FloatKind.f32.format.order (mx.c.sv a b) 0 == some Ordering.gt) = mx.pos.sp (mx.c.sv a b) := fun _ _ => rfl
    have es : ∀ a b : Nat, (FloatKind.f32.format.order (mx.c.sv a b) 1065353216 == some Ordering.lt) = mx.sub1.sp (mx.c.sv a b) := fun _ _ => rfl
    have er : ∀ t a b : Nat, fadd .f32 a (fmul .f32 t (fsub .f32 b a)) = mx.r.sv t a b := fun _ _ _ => rfl
    have hih := ih (k + 1) n2 (mx.step xs x y i k s) (by omega) (by omega)
    simp only [mx.inn]
    rw [round2]
    simp -implicitDefEqProofs only [c, wk, w1i, a1i, a2i, b1i, b2i, c1i, c2i, z1i, z2i, x1i, x2i, w1k, a1k, a2k, b1k, b2k, c1k, c2k, z1k, z2k, x1k, x2k, Int.toNat_natCast, decide_true, decide_false, Bool.and_self, Bool.or_self, Bool.and_true, Bool.true_and, Bool.and_false, Bool.false_and, Bool.or_true, Bool.true_or, Bool.or_false, Bool.false_or, Bool.not_true, Bool.not_false, cond_true, cond_false]
    simp -implicitDefEqProofs only [ea, eb, ec, eg, en, ep, es, er]
    simp only [mx.step] at hih ⊢
    generalize hgen : mx.inn xs x y i d (k + 1) = G at hih ⊢
    generalize mx.x.sv xs x i = p at hih ⊢
    generalize mx.y.sv xs y i = q at hih ⊢
    generalize mx.x.sv xs x k = u at hih ⊢
    generalize mx.y.sv xs y k = r at hih ⊢
    cases h1 : mx.neg.sp p
    case true => simp only [h1, Bool.true_or, cond_true] at hih ⊢; exact hih
    cases h2 : mx.neg.sp q
    case true => simp only [h1, h2, Bool.true_or, Bool.or_true, Bool.false_or, cond_true, cond_false] at hih ⊢; exact hih
    cases h3 : mx.neg.sp u
    case true => simp only [h1, h2, h3, Bool.true_or, Bool.or_true, Bool.false_or, cond_true, cond_false] at hih ⊢; exact hih
    cases h4 : mx.neg.sp r
    case true => simp only [h1, h2, h3, h4, Bool.true_or, Bool.or_true, Bool.false_or, cond_true, cond_false] at hih ⊢; exact hih
    simp only [h1, h2, h3, h4, Bool.or_self, cond_false] at hih ⊢
    obtain ⟨f0, m, o, w⟩ := s
    simp only [mx.upd, mx.t.sv] at hih ⊢
    cases hg : mx.gt.sp (fmul .f32 u r) (fmul .f32 p q) <;> cases hn : mx.neg.sp (mx.a.sv p q u r) <;> cases hp : mx.pos.sp (mx.c.sv (mx.a.sv p q u r) (mx.b.sv p q u r)) <;> cases hs : mx.sub1.sp (mx.c.sv (mx.a.sv p q u r) (mx.b.sv p q u r)) <;> simp only [hg, hn, hp, hs, Bool.and_self, Bool.and_true, Bool.true_and, Bool.and_false, Bool.false_and, cond_true, cond_false] at hih ⊢ <;> cases f0 <;> simp only [Bool.not_false, Bool.not_true, Bool.true_or, Bool.false_or, cond_true, cond_false] at hih ⊢ <;> first
      | exact hih
      | (revert hih
         generalize mx.gt.sp _ m = z
         intro hih
         cases z
         · simp only [cond_false] at hih ⊢; exact hih
         · simp only [cond_true] at hih ⊢; exact hih)
theorem outer (xs : List Int) (x y : Int) (N : Nat) (hx : xs.length = 2 * N) (hN : N ≤ 16) (v : ∀ z ∈ xs, 0 ≤ z ∧ z ≤ 1000) (hx0 : 0 ≤ x ∧ x ≤ 1000) (hy0 : 0 ≤ y ∧ y ≤ 1000) (f : Nat) (hf : N < f) : ∀ (d i n : Nat) (s : mx.S), i + d = N → d < n →
    L1 f n (mkS 164 [(0, .ro (.ints .i64 xs) xs.length 1), (1, .int .i64 x), (2, .int .i64 y), (9, .bool s.f), (10, .flt .f32 s.m), (11, .flt .f32 s.o), (12, .flt .f32 s.w), (13, .int .i64 ((2 * i : Nat) : Int))] []) = (bif (mx.out xs x y N d i s).f then some (.tup [.flt .f32 (fadd .f32 (FloatKind.f32.nearest x) (mx.out xs x y N d i s).o), .flt .f32 (fadd .f32 (FloatKind.f32.nearest y) (mx.out xs x y N d i s).w), .bool true], []) else some (.tup [.flt .f32 0, .flt .f32 0, .bool false], [])) := by
  intro d
  induction d with
  | zero =>
    intro i n s hi hn
    obtain ⟨n, rfl⟩ : ∃ k, n = k + 1 := ⟨n - 1, by omega⟩
    have c : ¬ (((2 * i : Nat) : Int) < (xs.length : Int)) := by omega
    obtain ⟨f0, m, o, w⟩ := s
    rw [round1]
    simp -implicitDefEqProofs only [c, mx.out, decide_true, decide_false, Bool.and_self, Bool.or_self, Bool.and_true, Bool.true_and, Bool.and_false, Bool.false_and, Bool.or_true, Bool.true_or, Bool.or_false, Bool.false_or, Bool.not_true, Bool.not_false, cond_true, cond_false]
    cases f0 <;> rfl
  | succ d ih =>
    intro i n s hi hn
    obtain ⟨n, rfl⟩ : ∃ k, n = k + 1 := ⟨n - 1, by omega⟩
    have c : ((2 * i : Nat) : Int) < (xs.length : Int) := by omega
    have hin := inner xs x y N hx hN v hx0 hy0 f n i (by omega) (N - i) i f s (by omega) (by omega)
    have hih := ih (i + 1) n (mx.inn xs x y i (N - i) i s) (by omega) (by omega)
    rw [round1]
    simp -implicitDefEqProofs only [c, mx.out, decide_true, decide_false, Bool.and_self, Bool.or_self, Bool.and_true, Bool.true_and, Bool.and_false, Bool.false_and, Bool.or_true, Bool.true_or, Bool.or_false, Bool.false_or, Bool.not_true, Bool.not_false, cond_true, cond_false]
    exact hin.trans hih
end sMix

namespace sMixedPoint
def R : List AVal → Option (Bool × AVal × List Blk)
  | [.ro (.ints .i64 xs) l 1, .int .i64 x, .int .i64 y] => some (decide (l = xs.length ∧ l ≤ 4611686018427387904), .tup [.flt .f32 (mx.o.sw xs x y), .flt .f32 (mx.w.sw xs x y), .bool (mx.sq xs x y)], [])
  | _ => none
theorem run : ∀ args v new, R args = some (true, v, new) → ∃ fuel, runFn Try.prog (orc [⟨32, l07Bargain.R⟩]) sMix.hd Dr.std (some 0) fuel (bodyOf Try.f13) 164 [6, 7, 8] args [] = some (v, new) := by
  intro args v new h
  unfold R at h
  split at h
  · rename_i xs l x y
    simp only [Option.some.injEq, Prod.mk.injEq, decide_eq_true_eq] at h
    obtain ⟨⟨rfl, h3⟩, rfl, rfl⟩ := h
    obtain ⟨F, hF⟩ : ∃ F : Nat, F = 100 := ⟨100, rfl⟩
    refine ⟨F, ?_⟩
    rw [sMix.start]
    unfold mx.o.sw mx.w.sw mx.sq
    cases hp : point.sp xs x y
    · simp -implicitDefEqProofs only [hp, h3, List.take_length, Nat.le_refl, and_self, eq_self, decide_true, decide_false, Bool.and_self, Bool.or_self, Bool.and_true, Bool.true_and, Bool.and_false, Bool.false_and, Bool.or_true, Bool.true_or, Bool.or_false, Bool.false_or, Bool.not_true, Bool.not_false, cond_true, cond_false]
    obtain ⟨⟨v1, v2, v3⟩, v4, v5, v6⟩ := point.valid hp
    have ho := sMix.outer xs x y (xs.length / 2) (by omega) (by omega) v4 v5 v6 F (by omega) (xs.length / 2) 0 F ⟨false, 0, 0, 0⟩ (by omega) (by omega)
    simp -implicitDefEqProofs only [hp, h3, List.take_length, Nat.le_refl, and_self, eq_self, decide_true, decide_false, Bool.and_self, Bool.or_self, Bool.and_true, Bool.true_and, Bool.and_false, Bool.false_and, Bool.or_true, Bool.true_or, Bool.or_false, Bool.false_or, Bool.not_true, Bool.not_false, cond_true, cond_false]
    refine Eq.trans ho ?_
    have er : mx.out xs x y (xs.length / 2) (xs.length / 2) 0 ⟨false, 0, 0, 0⟩ = mx.res xs x y := rfl
    rw [er]
    cases (mx.res xs x y).f <;> rfl
  · cases h
theorem ok : EntOk Try.prog ⟨13, R⟩ :=
  ent_okA mixed (A := (orc [⟨32, l07Bargain.R⟩])) (orc_ok (by simp only [List.mem_cons, List.not_mem_nil, or_false, forall_eq_or_imp, forall_eq]; exact l07Bargain.ok)) Try.func13 (by kernel_rfl) (by kernel_rfl) (n := 164) (ts := [6, 7, 8]) (hd := sMix.hd) (dr := Dr.std) (cut := (some 0)) (by kernel_rfl) (by kernel_rfl) (by kernel_rfl) run
end sMixedPoint

namespace iMix
theorem inner (xs : List Int) (x y : Int) (N : Nat) (hx : xs.length = 2 * N) (hN : N ≤ 16) (v : ∀ z ∈ xs, 0 ≤ z ∧ z ≤ 1000) (hx0 : 0 ≤ x ∧ x ≤ 1000) (hy0 : 0 ≤ y ∧ y ≤ 1000) (zs : List Int) (hz : ∀ k ∈ zs, ∃ q : Nat, k = q ∧ 2 * q + 1 < xs.length) (hzl : zs.length ≤ 1000) (f n i qa : Nat) (hi : i < zs.length) (hqa : 2 * qa + 1 < xs.length) : ∀ (d t n2 : Nat) (s : mx.I), t + d = zs.length - i → d < n2 →
    L2 f n n2 (mkS 106 [(0, .ro (.ints .i64 xs) xs.length 1), (1, .int .i64 x), (2, .int .i64 y), (9, .own 0 0 zs.length 0 1), (11, .flt .f32 s.o), (12, .flt .f32 s.w), (13, .flt .f32 s.m), (15, .int .i64 (qa : Int)), (30, .own 0 0 zs.length 0 1), (31, .int .i64 (zs.length : Int)), (32, .int .i64 i), (39, .own 0 i (zs.length - i) 0 1), (40, .int .i64 ((zs.length - i : Nat) : Int)), (41, .int .i64 t)] [⟨.typ (.ints .i64 zs), 0⟩]) = L1 f n (mkS 106 [(0, .ro (.ints .i64 xs) xs.length 1), (1, .int .i64 x), (2, .int .i64 y), (9, .own 0 0 zs.length 0 1), (11, .flt .f32 (mx.innI xs x y (qa : Int) (zs.drop (i + t)) s).o), (12, .flt .f32 (mx.innI xs x y (qa : Int) (zs.drop (i + t)) s).w), (13, .flt .f32 (mx.innI xs x y (qa : Int) (zs.drop (i + t)) s).m), (30, .own 0 0 zs.length 0 1), (31, .int .i64 (zs.length : Int)), (32, .int .i64 ((i + 1 : Nat) : Int))] [⟨.typ (.ints .i64 zs), 0⟩]) := by
  have wi : IntKind.i64.wrap ((i : Int) + 1) = ((i + 1 : Nat) : Int) := wrap_nat i (by omega)
  have wqa : IntKind.i64.wrap (2 * (qa : Int)) = ((2 * qa : Nat) : Int) := by rw [IntWalk.i64_in _ (by omega)]; omega
  intro d
  induction d with
  | zero =>
    intro t n2 s ht hn
    obtain ⟨n2, rfl⟩ : ∃ k, n2 = k + 1 := ⟨n2 - 1, by omega⟩
    obtain rfl : t = zs.length - i := by omega
    have e : zs.drop (i + (zs.length - i)) = [] := List.drop_of_length_le (by omega)
    rw [e, round2]
    simp -implicitDefEqProofs only [Int.lt_irrefl, wi, mx.innI, decide_true, decide_false, Bool.and_self, Bool.or_self, Bool.and_true, Bool.true_and, Bool.and_false, Bool.false_and, Bool.or_true, Bool.true_or, Bool.or_false, Bool.false_or, Bool.not_true, Bool.not_false, cond_true, cond_false]
  | succ d ih =>
    intro t n2 s ht hn
    obtain ⟨n2, rfl⟩ : ∃ k, n2 = k + 1 := ⟨n2 - 1, by omega⟩
    have t0 : (0 : Int) ≤ (t : Int) := Int.natCast_nonneg _
    have t1 : (t : Int) < ((zs.length - i : Nat) : Int) := by omega
    have t2 : i + t < zs.length := by omega
    obtain ⟨qk, hk1, hk2⟩ := hz zs[i + t] (List.getElem_mem t2)
    have gk : gz zs (i + t) = (qk : Int) := by rw [gz_eq t2]; exact hk1
    have wqk : IntKind.i64.wrap (2 * (qk : Int)) = ((2 * qk : Nat) : Int) := by rw [IntWalk.i64_in _ (by omega)]; omega
    have w1i : IntKind.i64.wrap (((2 * qa : Nat) : Int) + 1) = ((2 * qa + 1 : Nat) : Int) := by rw [IntWalk.i64_in _ (by omega)]; omega
    have a1i : (0 : Int) ≤ ((2 * qa : Nat) : Int) := Int.natCast_nonneg _
    have a2i : (0 : Int) ≤ ((2 * qa + 1 : Nat) : Int) := Int.natCast_nonneg _
    have b1i : ((2 * qa : Nat) : Int) < (xs.length : Int) := by omega
    have b2i : ((2 * qa + 1 : Nat) : Int) < (xs.length : Int) := by omega
    have c1i : 2 * qa < xs.length := by omega
    have c2i : 2 * qa + 1 < xs.length := by omega
    have v1i := mx.bndx v (2 * qa)
    have v2i := mx.bndx v (2 * qa + 1)
    have z1i : IntKind.i64.wrap (gz xs (2 * qa) - x) = gz xs (2 * qa) - x := IntWalk.i64_in _ (by omega)
    have z2i : IntKind.i64.wrap (gz xs (2 * qa + 1) - y) = gz xs (2 * qa + 1) - y := IntWalk.i64_in _ (by omega)
    have x1i : FloatKind.f32.nearest (gz xs (2 * qa) - x) = mx.x.sv xs x qa := rfl
    have x2i : FloatKind.f32.nearest (gz xs (2 * qa + 1) - y) = mx.y.sv xs y qa := rfl
    have w1k : IntKind.i64.wrap (((2 * qk : Nat) : Int) + 1) = ((2 * qk + 1 : Nat) : Int) := by rw [IntWalk.i64_in _ (by omega)]; omega
    have a1k : (0 : Int) ≤ ((2 * qk : Nat) : Int) := Int.natCast_nonneg _
    have a2k : (0 : Int) ≤ ((2 * qk + 1 : Nat) : Int) := Int.natCast_nonneg _
    have b1k : ((2 * qk : Nat) : Int) < (xs.length : Int) := by omega
    have b2k : ((2 * qk + 1 : Nat) : Int) < (xs.length : Int) := by omega
    have c1k : 2 * qk < xs.length := by omega
    have c2k : 2 * qk + 1 < xs.length := by omega
    have v1k := mx.bndx v (2 * qk)
    have v2k := mx.bndx v (2 * qk + 1)
    have z1k : IntKind.i64.wrap (gz xs (2 * qk) - x) = gz xs (2 * qk) - x := IntWalk.i64_in _ (by omega)
    have z2k : IntKind.i64.wrap (gz xs (2 * qk + 1) - y) = gz xs (2 * qk + 1) - y := IntWalk.i64_in _ (by omega)
    have x1k : FloatKind.f32.nearest (gz xs (2 * qk) - x) = mx.x.sv xs x qk := rfl
    have x2k : FloatKind.f32.nearest (gz xs (2 * qk + 1) - y) = mx.y.sv xs y qk := rfl
    have eg : ∀ a b c : Nat, (FloatKind.f32.format.order (fmul .f32 a b) c == some Ordering.gt) = mx.gt.sp (fmul .f32 a b) c := fun _ _ _ => rfl
    have en : ∀ a : Nat, (FloatKind.f32.format.order a 0 == some Ordering.lt) = mx.neg.sp a := fun _ => rfl
    have hih := ih (t + 1) n2 (mx.stepI xs x y (qa : Int) (qk : Int) s) (by omega) (by omega)
    have ed : zs.drop (i + t) = (qk : Int) :: zs.drop (i + (t + 1)) := by
      rw [List.drop_eq_getElem_cons t2, hk1]; rfl
    rw [ed]
    simp only [mx.innI]
    rw [round2]
    simp -implicitDefEqProofs only [t0, t1, t2, addL_eq, gk, wqa, wqk, w1i, a1i, a2i, b1i, b2i, c1i, c2i, z1i, z2i, x1i, x2i, w1k, a1k, a2k, b1k, b2k, c1k, c2k, z1k, z2k, x1k, x2k, eg, en, Int.toNat_natCast, wrap_nat t (by omega), decide_true, decide_false, Bool.and_self, Bool.or_self, Bool.and_true, Bool.true_and, Bool.and_false, Bool.false_and, Bool.or_true, Bool.true_or, Bool.or_false, Bool.false_or, Bool.not_true, Bool.not_false, cond_true, cond_false]
    simp only [mx.stepI, mx.updI, Int.toNat_natCast] at hih ⊢
    obtain ⟨o, w, m⟩ := s
    simp only [] at hih ⊢
    cases hm : mx.neg.sp m
    · simp only [hm, Bool.false_or, cond_false] at hih ⊢
      revert hih
      generalize mx.gt.sp _ m = z
      intro hih
      cases z
      · simp only [cond_false] at hih ⊢; exact hih
      · simp only [cond_true] at hih ⊢; exact hih
    · simp only [hm, Bool.true_or, cond_true] at hih ⊢
      exact hih
theorem outer (xs : List Int) (x y : Int) (N : Nat) (hx : xs.length = 2 * N) (hN : N ≤ 16) (v : ∀ z ∈ xs, 0 ≤ z ∧ z ≤ 1000) (hx0 : 0 ≤ x ∧ x ≤ 1000) (hy0 : 0 ≤ y ∧ y ≤ 1000) (zs : List Int) (hz : ∀ k ∈ zs, ∃ q : Nat, k = q ∧ 2 * q + 1 < xs.length) (hzl : zs.length ≤ 1000) (f : Nat) (hf : zs.length < f) : ∀ (d i n : Nat) (s : mx.I), i + d = zs.length → d < n →
    L1 f n (mkS 106 [(0, .ro (.ints .i64 xs) xs.length 1), (1, .int .i64 x), (2, .int .i64 y), (9, .own 0 0 zs.length 0 1), (11, .flt .f32 s.o), (12, .flt .f32 s.w), (13, .flt .f32 s.m), (30, .own 0 0 zs.length 0 1), (31, .int .i64 (zs.length : Int)), (32, .int .i64 i)] [⟨.typ (.ints .i64 zs), 0⟩]) = some (.tup [.flt .f32 (fadd .f32 (FloatKind.f32.nearest x) (mx.outI xs x y (zs.drop i) s).o), .flt .f32 (fadd .f32 (FloatKind.f32.nearest y) (mx.outI xs x y (zs.drop i) s).w), .bool true], []) := by
  intro d
  induction d with
  | zero =>
    intro i n s hi hn
    obtain ⟨n, rfl⟩ : ∃ k, n = k + 1 := ⟨n - 1, by omega⟩
    obtain rfl : i = zs.length := by omega
    rw [round1, List.drop_length]
    simp -implicitDefEqProofs only [Int.lt_irrefl, mx.outI, decide_true, decide_false, Bool.and_self, Bool.or_self, Bool.and_true, Bool.true_and, Bool.and_false, Bool.false_and, Bool.or_true, Bool.true_or, Bool.or_false, Bool.false_or, Bool.not_true, Bool.not_false, cond_true, cond_false]
  | succ d ih =>
    intro i n s hi hn
    obtain ⟨n, rfl⟩ : ∃ k, n = k + 1 := ⟨n - 1, by omega⟩
    have i0 : (0 : Int) ≤ (i : Int) := Int.natCast_nonneg _
    have i1 : (i : Int) < (zs.length : Int) := by omega
    have i2 : i < zs.length := by omega
    have i3 : (i : Int) ≤ (zs.length : Int) := by omega
    obtain ⟨qa, hk1, hk2⟩ := hz zs[i] (List.getElem_mem i2)
    have gk : gz zs i = (qa : Int) := by rw [gz_eq i2]; exact hk1
    have hin := inner xs x y N hx hN v hx0 hy0 zs hz hzl f n i qa i2 hk2 (zs.length - i) 0 f s (by omega) (by omega)
    have ed : zs.drop i = (qa : Int) :: zs.drop (i + 1) := by rw [List.drop_eq_getElem_cons i2, hk1]
    rw [Nat.add_zero] at hin
    have hih := ih (i + 1) n (mx.innI xs x y (qa : Int) (zs.drop i) s) (by omega) (by omega)
    rw [round1]
    simp -implicitDefEqProofs only [i0, i1, i2, i3, gk, Int.toNat_natCast, Nat.zero_add, Nat.mul_one, decide_true, decide_false, Bool.and_self, Bool.or_self, Bool.and_true, Bool.true_and, Bool.and_false, Bool.false_and, Bool.or_true, Bool.true_or, Bool.or_false, Bool.false_or, Bool.not_true, Bool.not_false, cond_true, cond_false]
    refine Eq.trans hin (hih.trans ?_)
    rw [ed]
    simp only [mx.outI]
end iMix

namespace iMixedT
def R : List AVal → Option (Bool × AVal × List Blk)
  | [.ro (.ints .i64 xs) l 1, .int .i64 x, .int .i64 y] => some (decide (l = xs.length ∧ l ≤ 4611686018427387904) && point.sp xs x y, .tup [.flt .f32 (mx.o.sw xs x y), .flt .f32 (mx.w.sw xs x y), .bool (mx.sq xs x y)], [])
  | _ => none
theorem run : ∀ args v new, R args = some (true, v, new) → ∃ fuel, runFn Try.prog (orc [⟨33, better.R⟩, ⟨34, mixture.R⟩]) iMix.hd Dr.std (some 0) fuel (bodyOf Try.f14) 106 [6, 7, 8] args [] = some (v, new) := by
  intro args v new h
  unfold R at h
  split at h
  · rename_i xs l x y
    simp only [Option.some.injEq, Prod.mk.injEq, Bool.and_eq_true, decide_eq_true_eq] at h
    obtain ⟨⟨⟨rfl, h3⟩, hp⟩, rfl, rfl⟩ := h
    obtain ⟨F, hF⟩ : ∃ F : Nat, F = 2000 := ⟨2000, rfl⟩
    refine ⟨F, ?_⟩
    rw [iMix.start]
    obtain ⟨⟨v1, v2, v3⟩, v4, v5, v6⟩ := point.valid hp
    obtain ⟨k1, k2⟩ := mx.program hp
    have hpl := point.pick_len x y xs 0
    have hin := point.pick_in x y xs 0
    unfold mx.o.sw mx.w.sw mx.sq
    rw [hp, Bool.true_and]
    by_cases hc : 0 < (point.sv xs x y).length
    · have hf : (mx.res xs x y).f = true := by rw [k1]; exact decide_eq_true hc
      obtain ⟨k3, k4⟩ := k2 hf
      have ho := iMix.outer xs x y (xs.length / 2) (by omega) (by omega) v4 v5 v6 (point.sv xs x y) (fun k hk => by
        obtain ⟨i, a1, a2, a3⟩ := hin k hk
        exact ⟨i, a1, by omega⟩) (by unfold point.sv; omega) F (by unfold point.sv; omega) (point.sv xs x y).length 0 F mx.start (by omega) (by unfold point.sv; omega)
      rw [List.drop_zero, k3, k4] at ho
      rw [hf]
      simp -implicitDefEqProofs only [hp, h3, hc, List.take_length, Nat.le_refl, and_self, eq_self, decide_true, decide_false, Bool.and_self, Bool.or_self, Bool.and_true, Bool.true_and, Bool.and_false, Bool.false_and, Bool.or_true, Bool.true_or, Bool.or_false, Bool.false_or, Bool.not_true, Bool.not_false, cond_true, cond_false]
      exact ho
    · have hf : (mx.res xs x y).f = false := by rw [k1]; exact decide_eq_false hc
      rw [hf]
      simp -implicitDefEqProofs only [hp, h3, hc, List.take_length, Nat.le_refl, and_self, eq_self, decide_true, decide_false, Bool.and_self, Bool.or_self, Bool.and_true, Bool.true_and, Bool.and_false, Bool.false_and, Bool.or_true, Bool.true_or, Bool.or_false, Bool.false_or, Bool.not_true, Bool.not_false, cond_true, cond_false]
  · cases h
theorem ok : EntOk Try.prog ⟨14, R⟩ :=
  ent_okA mixed (A := (orc [⟨33, better.R⟩, ⟨34, mixture.R⟩])) (orc_ok (by simp only [List.mem_cons, List.not_mem_nil, or_false, forall_eq_or_imp, forall_eq]; exact ⟨better.ok, mixture.ok⟩)) Try.func14 (by kernel_rfl) (by kernel_rfl) (n := 106) (ts := [6, 7, 8]) (hd := iMix.hd) (dr := Dr.std) (cut := (some 0)) (by kernel_rfl) (by kernel_rfl) (by kernel_rfl) run
end iMixedT

namespace iMixedF
def R : List AVal → Option (Bool × AVal × List Blk)
  | [.ro (.ints .i64 xs) l 1, .int .i64 x, .int .i64 y] => some (decide (l = xs.length ∧ l ≤ 4611686018427387904) && !point.sp xs x y, .tup [.flt .f32 (mx.o.sw xs x y), .flt .f32 (mx.w.sw xs x y), .bool (mx.sq xs x y)], [])
  | _ => none
theorem go (xs : List Int) (x y : Int) :
  runFn Try.prog (orc [⟨33, betterF.R⟩]) hd0 Dr.std (some 0) 0 (bodyOf Try.f14) 106 [6, 7, 8] [.ro (.ints .i64 xs) xs.length 1, .int .i64 x, .int .i64 y] []
  = (bif decide (xs.length ≤ xs.length ∧ xs.length ≤ (4611686018427387904 : Nat)) && !point.sp (List.take xs.length xs) x y && (true && (true && (true && true)) || true && true) then some (AVal.tup [AVal.flt FloatKind.f32 (0 : Nat), AVal.flt FloatKind.f32 (0 : Nat), AVal.bool false], []) else none) := by kernel_rfl
theorem run : ∀ args v new, R args = some (true, v, new) → ∃ fuel, runFn Try.prog (orc [⟨33, betterF.R⟩]) hd0 Dr.std (some 0) fuel (bodyOf Try.f14) 106 [6, 7, 8] args [] = some (v, new) := by
  intro args v new h
  unfold R at h
  split at h
  · rename_i xs l x y
    simp only [Option.some.injEq, Prod.mk.injEq, Bool.and_eq_true, decide_eq_true_eq, Bool.not_eq_true'] at h
    obtain ⟨⟨⟨rfl, h3⟩, hp⟩, rfl, rfl⟩ := h
    refine ⟨0, ?_⟩
    rw [go]
    unfold mx.o.sw mx.w.sw mx.sq
    simp -implicitDefEqProofs only [hp, h3, List.take_length, Nat.le_refl, and_self, eq_self, decide_true, decide_false, Bool.and_self, Bool.or_self, Bool.and_true, Bool.true_and, Bool.and_false, Bool.false_and, Bool.or_true, Bool.true_or, Bool.or_false, Bool.false_or, Bool.not_true, Bool.not_false, cond_true, cond_false]
  · cases h
theorem ok : EntOk Try.prog ⟨14, R⟩ :=
  ent_okA mixed (A := (orc [⟨33, betterF.R⟩])) (orc_ok (by simp only [List.mem_cons, List.not_mem_nil, or_false, forall_eq_or_imp, forall_eq]; exact betterF.ok)) Try.func14 (by kernel_rfl) (by kernel_rfl) (n := 106) (ts := [6, 7, 8]) (hd := hd0) (dr := Dr.std) (cut := (some 0)) (by kernel_rfl) (by kernel_rfl) (by kernel_rfl) run
end iMixedF

namespace iMixedPoint
def R : List AVal → Option (Bool × AVal × List Blk)
  | [.ro (.ints .i64 xs) l 1, .int .i64 x, .int .i64 y] => some (decide (l = xs.length ∧ l ≤ 4611686018427387904), .tup [.flt .f32 (mx.o.sw xs x y), .flt .f32 (mx.w.sw xs x y), .bool (mx.sq xs x y)], [])
  | _ => none
theorem ok : EntOk Try.prog ⟨14, R⟩ := EntOk.cases iMixedT.ok iMixedF.ok fun args v new h => by
  unfold R at h
  split at h
  · rename_i xs l x y
    simp only [Option.some.injEq, Prod.mk.injEq, decide_eq_true_eq] at h
    obtain ⟨⟨rfl, h2⟩, rfl, rfl⟩ := h
    cases hv : point.sp xs x y
    · right; simp [iMixedF.R, h2, hv]
    · left; simp [iMixedT.R, h2, hv]
  · cases h
end iMixedPoint

namespace FnExactMixedPoint
def R : List AVal → Option (Bool × AVal × List Blk)
  | [.ro (.ints .i64 xs) m 1, .int .i64 x, .int .i64 y] => some (decide (m ≤ xs.length), .bool true, [])
  | _ => none
theorem go (xs : List Int) (m : Nat) (x y : Int) :
  runFn Try.prog (orc [⟨8, toInt64S.R⟩, ⟨13, sMixedPoint.R⟩, ⟨14, iMixedPoint.R⟩, ⟨10, eqInt64S.R⟩, ⟨15, sameFloat.R⟩]) hd0 Dr.std (some 0) 0 (bodyOf Try.f4) 60 [6] [.ro (.ints .i64 xs) m 1, .int .i64 x, .int .i64 y] []
  = (bif decide ((1048576 : Int) < (↑m : Int)) then some (AVal.bool true, []) else bif decide (m ≤ xs.length ∧ m ≤ (1048576 : Nat)) && (true && true || true && (true && true)) then bif decide (m = (List.take m xs).length ∧ m ≤ (4611686018427387904 : Nat)) && (false && (true && (true && true)) || true && (true && (true && true)) && true) then bif decide (m ≤ xs.length ∧ m ≤ (1048576 : Nat)) && (true && true || true && (true && true)) then bif decide (m = (List.take m xs).length ∧ m ≤ (4611686018427387904 : Nat)) && (false && (true && (true && true)) || true && (true && (true && true)) && true) then bif decide (fwid.sv (mx.o.sw (List.take m xs) x y) = fwid.sv (mx.o.sw (List.take m xs) x y)) && (true && (true && true) || true && true) then bif decide (fwid.sv (mx.w.sw (List.take m xs) x y) = fwid.sv (mx.w.sw (List.take m xs) x y)) && (true && (true && true) || true && true) then bif !mx.sq (List.take m xs) x y == mx.sq (List.take m xs) x y then some (AVal.bool false, []) else bif decide (m ≤ xs.length ∧ m ≤ (1048576 : Nat)) && (true && true || true && (true && true)) then bif decide (m ≤ (List.take m xs).length ∧ m ≤ (List.take m xs).length ∧ m ≤ (4611686018427387904 : Nat)) && (false && (false && true) || true && true) then bif !decide (List.take m (List.take m xs) = List.take m (List.take m xs)) then some (AVal.bool false, []) else some (AVal.bool true, []) else none else none else none else none else none else none else none else none) := by kernel_rfl
theorem run : ∀ args v new, R args = some (true, v, new) → ∃ fuel, runFn Try.prog (orc [⟨8, toInt64S.R⟩, ⟨13, sMixedPoint.R⟩, ⟨14, iMixedPoint.R⟩, ⟨10, eqInt64S.R⟩, ⟨15, sameFloat.R⟩]) hd0 Dr.std (some 0) fuel (bodyOf Try.f4) 60 [6] args [] = some (v, new) := by
  intro args v new h
  unfold R at h
  split at h
  · rename_i xs m x y
    simp only [Option.some.injEq, Prod.mk.injEq, decide_eq_true_eq] at h
    obtain ⟨h1, rfl, rfl⟩ := h
    refine ⟨0, ?_⟩
    rw [go]
    by_cases b0 : (1048576 : Int) < (m : Int)
    · simp only [b0, decide_true, cond_true]
    have g1 : m ≤ 1048576 := by omega
    have g2 : m ≤ 4611686018427387904 := by omega
    have e1 : (xs.take m).length = m := by simp; omega
    simp only [b0, g1, g2, e1, h1, List.take_take, Nat.min_self, Nat.le_refl, List.take_length, marks_length, take_marks, one_neg, i0_1, i1_b, true_and, and_true, and_self, decide_true, decide_false, Bool.and_self, Bool.or_self, Bool.and_true, Bool.true_and, Bool.and_false, Bool.false_and, Bool.or_true, Bool.true_or, Bool.or_false, Bool.false_or, Bool.not_true, Bool.not_false, cond_true, cond_false, bne_self_eq_false, beq_self_eq_true]
  · cases h
theorem ok : EntOk Try.prog ⟨4, R⟩ :=
  ent_okA mixed (A := (orc [⟨8, toInt64S.R⟩, ⟨13, sMixedPoint.R⟩, ⟨14, iMixedPoint.R⟩, ⟨10, eqInt64S.R⟩, ⟨15, sameFloat.R⟩])) (orc_ok (by simp only [List.mem_cons, List.not_mem_nil, or_false, forall_eq_or_imp, forall_eq]; exact ⟨toInt64S.ok, sMixedPoint.ok, iMixedPoint.ok, eqInt64S.ok, sameFloat.ok⟩)) Try.func4 (by kernel_rfl) (by kernel_rfl) (n := 60) (ts := [6]) (hd := hd0) (dr := Dr.std) (cut := (some 0)) (by kernel_rfl) (by kernel_rfl) (by kernel_rfl) run
end FnExactMixedPoint

end Go.Proofs.Ytadpndpbooofiaa.Ab
