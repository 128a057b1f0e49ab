/-
  Functions: even flows, the loops.
-/
import Derived.Test.YtgblgofmdhekiaaFnZB
namespace Go.Proofs.Ytgblgofmdhekiaa.Ab
open Go
set_option linter.unusedVariables false
set_option linter.unusedSimpArgs false
set_option maxRecDepth 100000






namespace flowI_t
theorem loopC (az ys : List Nat) (T f : Nat) (hl : ys.length = az.length) (hb : az.length ≤ 8) : ∀ (d u a b l n : Nat), u + d = ys.length → d < n →
    LC f n (mkS 123 [(0, .ro (.flts .f32 az) az.length 1), (2, .flt .f32 T), (4, .ptr 0 0 0), (9, .own 1 0 ys.length 0 1), (10, .own 2 0 az.length 0 1), (11, .int .i64 u), (12, .flt .f32 a), (13, .flt .f32 b), (14, .flt .f32 l), (43, .own 1 0 ys.length 0 1), (44, .int .i64 (ys.length : Int)), (45, .int .i64 u)] [⟨.cells [.ro (.flts .f32 ys) ys.length 1], 0⟩, ⟨.typ (.ints .i64 (ev.os ys)), 0⟩, ⟨.typ (.flts .f32 (List.replicate az.length 0)), 0⟩]) = LD f f (mkS 123 [(0, .ro (.flts .f32 az) az.length 1), (4, .ptr 0 0 0), (10, .own 2 0 az.length 0 1), (14, .flt .f32 (ev.lev az ys (ev.os ys) T d u a b l).2), (88, .own 1 0 (ev.lev az ys (ev.os ys) T d u a b l).1 0 1), (89, .int .i64 (((ev.lev az ys (ev.os ys) T d u a b l).1 : Nat) : Int)), (90, .int .i64 ((0 : Nat) : Int))] [⟨.cells [.ro (.flts .f32 ys) ys.length 1], 0⟩, ⟨.typ (.ints .i64 (ev.os ys)), 0⟩, ⟨.typ (.flts .f32 (List.replicate az.length 0)), 0⟩]) := by
  intro d
  induction d with
  | zero =>
    intro u a b l n hi hn
    obtain ⟨n, rfl⟩ : ∃ k, n = k + 1 := ⟨n - 1, by omega⟩
    obtain rfl : u = ys.length := by omega
    have m0 : (0 : Int) ≤ (ys.length : Int) := Int.natCast_nonneg _
    rw [roundC]
    simp -implicitDefEqProofs only [Int.lt_irrefl, Int.le_refl, m0, ev.lev, Int.toNat_natCast, Nat.sub_zero, decide_true, decide_false, Bool.and_self, Bool.or_self, Bool.and_true, Bool.true_and, Bool.and_false, Bool.false_and, Bool.or_true, Bool.true_or, Bool.or_false, Bool.false_or, Bool.not_true, Bool.not_false, cond_true, cond_false]
    try rfl
  | succ d ih =>
    intro u a b l n hi hn
    obtain ⟨n, rfl⟩ : ∃ k, n = k + 1 := ⟨n - 1, by omega⟩
    have u0 : (0 : Int) ≤ (u : Int) := Int.natCast_nonneg _
    have u1 : (u : Int) < (ys.length : Int) := by omega
    have u2 : u < (ev.os ys).length := by rw [ev.os_length]; omega
    obtain ⟨a1, a2⟩ := ev.os_in ys u u2
    have a3 : (gz (ev.os ys) u).toNat < ys.length := by omega
    have a4 : (gz (ev.os ys) u).toNat < az.length := by omega
    have a5 : gz (ev.os ys) u < (az.length : Int) := by omega
    have wu : IntKind.i64.wrap ((u : Int) + 1) = ((u + 1 : Nat) : Int) := wrap_nat u (by omega)
    have e1 : (FloatKind.f32.format.order (gn ys (gz (ev.os ys) u).toNat) l == some Ordering.lt) = ev.lo.sp ys (ev.os ys) u l := rfl
    have ea : fadd .f32 a (fdiv .f32 1065353216 (gn az (gz (ev.os ys) u).toNat)) = ev.a.sv az (ev.os ys) u a := rfl
    have eb : fadd .f32 b (fdiv .f32 (gn ys (gz (ev.os ys) u).toNat) (gn az (gz (ev.os ys) u).toNat)) = ev.b.sv az ys (ev.os ys) u b := rfl
    have ec : fdiv .f32 (fadd .f32 T (ev.b.sv az ys (ev.os ys) u b)) (ev.a.sv az (ev.os ys) u a) = ev.c.sv T (ev.a.sv az (ev.os ys) u a) (ev.b.sv az ys (ev.os ys) u b) := rfl
    have hih := ih (u + 1) (ev.a.sv az (ev.os ys) u a) (ev.b.sv az ys (ev.os ys) u b) (ev.c.sv T (ev.a.sv az (ev.os ys) u a) (ev.b.sv az ys (ev.os ys) u b)) n (by omega) (by omega)
    have u3 : (u : Int) ≤ (ys.length : Int) := by omega
    rw [roundC]
    simp only [ev.lev]
    by_cases hu : u = 0
    · have z : ¬ (0 < (u : Int)) := by omega
      have zd : decide (u = 0) = true := decide_eq_true hu
      simp -implicitDefEqProofs only [z, zd, u0, u1, u2, a1, a2, a3, a4, a5, wu, ea, eb, ec, Int.toNat_natCast, Bool.true_or, decide_true, decide_false, Bool.and_self, Bool.or_self, Bool.and_true, Bool.true_and, Bool.and_false, Bool.false_and, Bool.or_true, Bool.true_or, Bool.or_false, Bool.false_or, Bool.not_true, Bool.not_false, cond_true, cond_false]
      exact hih
    · have z : 0 < (u : Int) := by omega
      have zd : decide (u = 0) = false := decide_eq_false hu
      simp -implicitDefEqProofs only [z, zd, e1, u0, u1, u2, u3, a1, a2, a3, a4, a5, wu, ea, eb, ec, Int.toNat_natCast, Nat.sub_zero, decide_true, decide_false, Bool.and_self, Bool.or_self, Bool.and_true, Bool.true_and, Bool.and_false, Bool.false_and, Bool.or_true, Bool.true_or, Bool.or_false, Bool.false_or, Bool.not_true, Bool.not_false, cond_true, cond_false]
      cases hc : ev.lo.sp ys (ev.os ys) u l
      · simp -implicitDefEqProofs only [Bool.not_false, cond_true, cond_false]
        try rfl
      · simp -implicitDefEqProofs only [Bool.not_true, cond_false, cond_true]
        exact hih
theorem loopD (az ys : List Nat) (l u f : Nat) (hl : ys.length = az.length) (hb : az.length ≤ 8) (hu : u ≤ ys.length) : ∀ (d t n : Nat) (out : List Nat), t + d = u → d < n → out.length = az.length → ev.Inv az ys l out → (ev.fill az ys (ev.os ys) l d t out).any areFinite_1.sp = false → flo.fin.sp l = true →
    LD f n (mkS 123 [(0, .ro (.flts .f32 az) az.length 1), (4, .ptr 0 0 0), (10, .own 2 0 az.length 0 1), (14, .flt .f32 l), (88, .own 1 0 u 0 1), (89, .int .i64 u), (90, .int .i64 t)] [⟨.cells [.ro (.flts .f32 ys) ys.length 1], 0⟩, ⟨.typ (.ints .i64 (ev.os ys)), 0⟩, ⟨.typ (.flts .f32 out), 0⟩]) = some (.tup [.own 2 0 az.length 0 1, .flt .f32 l, .bool true], [⟨.cells [.ro (.flts .f32 ys) ys.length 1], 0⟩, ⟨.typ (.ints .i64 (ev.os ys)), 0⟩, ⟨.typ (.flts .f32 (ev.fill az ys (ev.os ys) l d t out)), 0⟩]) := by
  intro d
  induction d with
  | zero =>
    intro t n out hi hn ho hv hf1 hf2
    obtain ⟨n, rfl⟩ : ∃ k, n = k + 1 := ⟨n - 1, by omega⟩
    obtain rfl : t = u := by omega
    simp only [ev.fill] at hf1
    have lb : az.length ≤ out.length := by omega
    have lb2 : az.length ≤ 4611686018427387904 := by omega
    have tk : out.take az.length = out := List.take_of_length_le (by omega)
    rw [roundD az ys 0]
    simp -implicitDefEqProofs only [Int.lt_irrefl, ev.fill, lb, lb2, tk, hf1, hf2, and_self, eq_self, decide_true, decide_false, Bool.and_self, Bool.or_self, Bool.and_true, Bool.true_and, Bool.and_false, Bool.false_and, Bool.or_true, Bool.true_or, Bool.or_false, Bool.false_or, Bool.not_true, Bool.not_false, cond_true, cond_false]
    try rfl
  | succ d ih =>
    intro t n out hi hn ho hv hf1 hf2
    obtain ⟨n, rfl⟩ : ∃ k, n = k + 1 := ⟨n - 1, by omega⟩
    simp only [ev.fill] at hf1
    have t0 : (0 : Int) ≤ (t : Int) := Int.natCast_nonneg _
    have t1 : (t : Int) < (u : Int) := by omega
    have t3 : (t : Int) < (ys.length : Int) := by omega
    have t2 : t < (ev.os ys).length := by rw [ev.os_length]; omega
    obtain ⟨a1, a2⟩ := ev.os_in ys t t2
    have a3 : (gz (ev.os ys) t).toNat < ys.length := by omega
    have a4 : (gz (ev.os ys) t).toNat < az.length := by omega
    have a5 : gz (ev.os ys) t < (az.length : Int) := by omega
    have a6 : (gz (ev.os ys) t).toNat < out.length := by omega
    have wt : IntKind.i64.wrap ((t : Int) + 1) = ((t + 1 : Nat) : Int) := wrap_nat t (by omega)
    have ex : fdiv .f32 (fsub .f32 l (gn ys (gz (ev.os ys) t).toNat)) (gn az (gz (ev.os ys) t).toNat) = ev.x.sv az ys l (gz (ev.os ys) t).toNat := rfl
    have en : (FloatKind.f32.format.order (ev.x.sv az ys l (gz (ev.os ys) t).toNat) 0 == some Ordering.lt) = ev.neg.sp (ev.x.sv az ys l (gz (ev.os ys) t).toNat) := rfl
    have hih := ih (t + 1) n (out.set (gz (ev.os ys) t).toNat (ev.v.sv az ys l (gz (ev.os ys) t).toNat)) (by omega) (by omega) (by simpa using ho) (hv.set _) hf1 hf2
    rw [roundD az ys 0]
    try simp only [ev.fill]
    simp -implicitDefEqProofs only [t0, t1, t2, t3, a1, a2, a3, a4, a5, a6, wt, ex, en, Int.toNat_natCast, decide_true, decide_false, Bool.and_self, Bool.or_self, Bool.and_true, Bool.true_and, Bool.and_false, Bool.false_and, Bool.or_true, Bool.true_or, Bool.or_false, Bool.false_or, Bool.not_true, Bool.not_false, cond_true, cond_false]
    cases hc : ev.neg.sp (ev.x.sv az ys l (gz (ev.os ys) t).toNat)
    · have hx : ev.v.sv az ys l (gz (ev.os ys) t).toNat = ev.x.sv az ys l (gz (ev.os ys) t).toNat := by unfold ev.v.sv; rw [hc]; rfl
      rw [hx] at hih
      try rw [hx]
      simp -implicitDefEqProofs only [Bool.not_false, cond_true]
      exact hih
    · rw [hv.skip hc] at hih
      try rw [hv.skip hc]
      simp -implicitDefEqProofs only [Bool.not_true, cond_false]
      exact hih
end flowI_t

namespace iEvenFlow_t
def R : List AVal → Option (Bool × AVal × List Blk)
  | [.ro (.flts .f32 az) m 1, .ro (.flts .f32 ys) k 1, .flt .f32 T] => some (decide (m = az.length ∧ k = ys.length ∧ m ≤ 4611686018427387904 ∧ k ≤ 4611686018427387904) && ev.sp az ys T, .tup [.own 0 0 (ev.o.sv az ys T).length 0 1, .flt .f32 (ev.l.sv az ys T), .bool true], [⟨.typ (.flts .f32 (ev.o.sv az ys T)), 0⟩])
  | _ => none
theorem run : ∀ args v new, R args = some (true, v, new) → ∃ fuel, regc [2] (runFn Try.prog (orcW [⟨61, sortFew.R⟩] [⟨59, areSlopes.R⟩, ⟨50, iIsFinite.R⟩, ⟨60, counting2.R⟩, ⟨54, areFinite.R⟩]) flowI_t.hd Dr.std none fuel (bodyOf Try.f23) 123 [6, 7, 8] args []) = some (v, new) := by
  intro args v new h
  unfold R at h
  split at h
  · rename_i az m ys k T
    simp only [Option.some.injEq, Prod.mk.injEq, Bool.and_eq_true, decide_eq_true_eq, Bool.not_eq_true'] at h
    obtain ⟨⟨⟨rfl, rfl, h3, h4⟩, hs⟩, rfl, rfl⟩ := h
    obtain ⟨F, hF⟩ : ∃ F : Nat, F = 100 := ⟨100, rfl⟩
    refine ⟨F, ?_⟩
    rw [flowI_t.start]
    have el : flo.least.sp T = (flo.fin.sp T && flo.nn.sp T) := rfl
    have en : (FloatKind.f32.format.order T 0 == some Ordering.gt || FloatKind.f32.format.order T 0 == some Ordering.eq) = flo.nn.sp T := rfl
    simp only [ev.sp, ev.fin.sp, Bool.and_eq_true, Bool.not_eq_true'] at hs
    obtain ⟨⟨v1, v2⟩, v3, v4⟩ := hs
    rw [el, Bool.and_eq_true] at v2
    have hs2 := v1
    simp only [rdl.sp, Bool.and_eq_true, decide_eq_true_eq] at hs2
    obtain ⟨⟨⟨h1, h2⟩, h5⟩, _⟩ := hs2
    have cl : (cq.sv ys.length).length = ys.length := cq.sv_length _
    have m0 : (0 : Int) ≤ (ys.length : Int) := Int.natCast_nonneg _
    have m1 : (ys.length : Int) ≤ 1000 := by omega
    have m2 : 1 ≤ ys.length := by omega
    have m3 : ys.length ≤ 16 := by omega
    have m4 : (0 : Int) ≤ (az.length : Int) := Int.natCast_nonneg _
    have m5 : (az.length : Int) * 4 ≤ 140737488355328 := by omega
    have m6 : (az.length : Int) ≤ 4611686018427387904 := by omega
    have e2 := flowI_t.loopC az ys T F h5 h2 ys.length 0 0 0 0 F (by omega) (by omega)
    have e3 := flowI_t.loopD az ys (ev.l.sv az ys T) (ev.u az ys T) F h5 h2 (ev.u_le az ys T) (ev.u az ys T) 0 F (List.replicate az.length 0) (by omega) (by have := ev.u_le az ys T; omega) (by simp) (ev.Inv.zero _ _ _ _) v3 v4
    rw [ev.o_length]
    simp -implicitDefEqProofs only [en, h3, h4, v1, v2.1, v2.2, cl, m0, m1, m2, m3, m4, m5, m6, Int.toNat_natCast, List.take_length, Nat.le_refl, Nat.reduceBEq, beq_self_eq_true, and_self, eq_self, decide_true, decide_false, Bool.and_self, Bool.or_self, Bool.and_true, Bool.true_and, Bool.and_false, Bool.false_and, Bool.or_true, Bool.true_or, Bool.or_false, Bool.false_or, Bool.not_true, Bool.not_false, cond_true, cond_false]
    exact (congrArg (regc [2]) (e2.trans e3)).trans rfl
  · cases h
theorem ok : EntOk Try.prog ⟨23, R⟩ :=
  ent_okAG (ks := [2]) mixed (A := (orcW [⟨61, sortFew.R⟩] [⟨59, areSlopes.R⟩, ⟨50, iIsFinite.R⟩, ⟨60, counting2.R⟩, ⟨54, areFinite.R⟩])) (orcW_ok (by simp only [List.mem_cons, List.not_mem_nil, or_false, forall_eq_or_imp, forall_eq]; exact sortFew.ok) (by simp only [List.mem_cons, List.not_mem_nil, or_false, forall_eq_or_imp, forall_eq]; exact ⟨areSlopes.ok, iIsFinite.ok, counting2.ok, areFinite.ok⟩)) Try.func23 (by kernel_rfl) (by kernel_rfl) (n := 123) (ts := [6, 7, 8]) (hd := flowI_t.hd) (dr := Dr.std) (cut := none) (by kernel_rfl) (by kernel_rfl) (by kernel_rfl) run
end iEvenFlow_t

namespace flowI_f
theorem loopC (az ys : List Nat) (T f : Nat) (hl : ys.length = az.length) (hb : az.length ≤ 8) : ∀ (d u a b l n : Nat), u + d = ys.length → d < n →
    LC f n (mkS 123 [(0, .ro (.flts .f32 az) az.length 1), (2, .flt .f32 T), (4, .ptr 0 0 0), (9, .own 1 0 ys.length 0 1), (10, .own 2 0 az.length 0 1), (11, .int .i64 u), (12, .flt .f32 a), (13, .flt .f32 b), (14, .flt .f32 l), (43, .own 1 0 ys.length 0 1), (44, .int .i64 (ys.length : Int)), (45, .int .i64 u)] [⟨.cells [.ro (.flts .f32 ys) ys.length 1], 0⟩, ⟨.typ (.ints .i64 (ev.os ys)), 0⟩, ⟨.typ (.flts .f32 (List.replicate az.length 0)), 0⟩]) = LD f f (mkS 123 [(0, .ro (.flts .f32 az) az.length 1), (4, .ptr 0 0 0), (10, .own 2 0 az.length 0 1), (14, .flt .f32 (ev.lev az ys (ev.os ys) T d u a b l).2), (88, .own 1 0 (ev.lev az ys (ev.os ys) T d u a b l).1 0 1), (89, .int .i64 (((ev.lev az ys (ev.os ys) T d u a b l).1 : Nat) : Int)), (90, .int .i64 ((0 : Nat) : Int))] [⟨.cells [.ro (.flts .f32 ys) ys.length 1], 0⟩, ⟨.typ (.ints .i64 (ev.os ys)), 0⟩, ⟨.typ (.flts .f32 (List.replicate az.length 0)), 0⟩]) := by
  intro d
  induction d with
  | zero =>
    intro u a b l n hi hn
    obtain ⟨n, rfl⟩ : ∃ k, n = k + 1 := ⟨n - 1, by omega⟩
    obtain rfl : u = ys.length := by omega
    have m0 : (0 : Int) ≤ (ys.length : Int) := Int.natCast_nonneg _
    rw [roundC]
    simp -implicitDefEqProofs only [Int.lt_irrefl, Int.le_refl, m0, ev.lev, Int.toNat_natCast, Nat.sub_zero, decide_true, decide_false, Bool.and_self, Bool.or_self, Bool.and_true, Bool.true_and, Bool.and_false, Bool.false_and, Bool.or_true, Bool.true_or, Bool.or_false, Bool.false_or, Bool.not_true, Bool.not_false, cond_true, cond_false]
    try rfl
  | succ d ih =>
    intro u a b l n hi hn
    obtain ⟨n, rfl⟩ : ∃ k, n = k + 1 := ⟨n - 1, by omega⟩
    have u0 : (0 : Int) ≤ (u : Int) := Int.natCast_nonneg _
    have u1 : (u : Int) < (ys.length : Int) := by omega
    have u2 : u < (ev.os ys).length := by rw [ev.os_length]; omega
    obtain ⟨a1, a2⟩ := ev.os_in ys u u2
    have a3 : (gz (ev.os ys) u).toNat < ys.length := by omega
    have a4 : (gz (ev.os ys) u).toNat < az.length := by omega
    have a5 : gz (ev.os ys) u < (az.length : Int) := by omega
    have wu : IntKind.i64.wrap ((u : Int) + 1) = ((u + 1 : Nat) : Int) := wrap_nat u (by omega)
    have e1 : (FloatKind.f32.format.order (gn ys (gz (ev.os ys) u).toNat) l == some Ordering.lt) = ev.lo.sp ys (ev.os ys) u l := rfl
    have ea : fadd .f32 a (fdiv .f32 1065353216 (gn az (gz (ev.os ys) u).toNat)) = ev.a.sv az (ev.os ys) u a := rfl
    have eb : fadd .f32 b (fdiv .f32 (gn ys (gz (ev.os ys) u).toNat) (gn az (gz (ev.os ys) u).toNat)) = ev.b.sv az ys (ev.os ys) u b := rfl
    have ec : fdiv .f32 (fadd .f32 T (ev.b.sv az ys (ev.os ys) u b)) (ev.a.sv az (ev.os ys) u a) = ev.c.sv T (ev.a.sv az (ev.os ys) u a) (ev.b.sv az ys (ev.os ys) u b) := rfl
    have hih := ih (u + 1) (ev.a.sv az (ev.os ys) u a) (ev.b.sv az ys (ev.os ys) u b) (ev.c.sv T (ev.a.sv az (ev.os ys) u a) (ev.b.sv az ys (ev.os ys) u b)) n (by omega) (by omega)
    have u3 : (u : Int) ≤ (ys.length : Int) := by omega
    rw [roundC]
    simp only [ev.lev]
    by_cases hu : u = 0
    · have z : ¬ (0 < (u : Int)) := by omega
      have zd : decide (u = 0) = true := decide_eq_true hu
      simp -implicitDefEqProofs only [z, zd, u0, u1, u2, a1, a2, a3, a4, a5, wu, ea, eb, ec, Int.toNat_natCast, Bool.true_or, decide_true, decide_false, Bool.and_self, Bool.or_self, Bool.and_true, Bool.true_and, Bool.and_false, Bool.false_and, Bool.or_true, Bool.true_or, Bool.or_false, Bool.false_or, Bool.not_true, Bool.not_false, cond_true, cond_false]
      exact hih
    · have z : 0 < (u : Int) := by omega
      have zd : decide (u = 0) = false := decide_eq_false hu
      simp -implicitDefEqProofs only [z, zd, e1, u0, u1, u2, u3, a1, a2, a3, a4, a5, wu, ea, eb, ec, Int.toNat_natCast, Nat.sub_zero, decide_true, decide_false, Bool.and_self, Bool.or_self, Bool.and_true, Bool.true_and, Bool.and_false, Bool.false_and, Bool.or_true, Bool.true_or, Bool.or_false, Bool.false_or, Bool.not_true, Bool.not_false, cond_true, cond_false]
      cases hc : ev.lo.sp ys (ev.os ys) u l
      · simp -implicitDefEqProofs only [Bool.not_false, cond_true, cond_false]
        try rfl
      · simp -implicitDefEqProofs only [Bool.not_true, cond_false, cond_true]
        exact hih
theorem loopD (az ys : List Nat) (l u f : Nat) (hl : ys.length = az.length) (hb : az.length ≤ 8) (hu : u ≤ ys.length) : ∀ (d t n : Nat) (out : List Nat), t + d = u → d < n → out.length = az.length → ev.Inv az ys l out → (!(ev.fill az ys (ev.os ys) l d t out).any areFinite_1.sp && flo.fin.sp l) = false →
    LD f n (mkS 123 [(0, .ro (.flts .f32 az) az.length 1), (4, .ptr 0 0 0), (10, .own 2 0 az.length 0 1), (14, .flt .f32 l), (88, .own 1 0 u 0 1), (89, .int .i64 u), (90, .int .i64 t)] [⟨.cells [.ro (.flts .f32 ys) ys.length 1], 0⟩, ⟨.typ (.ints .i64 (ev.os ys)), 0⟩, ⟨.typ (.flts .f32 out), 0⟩]) = some (.tup [.nils, .flt .f32 0, .bool false], []) := by
  intro d
  induction d with
  | zero =>
    intro t n out hi hn ho hv hf1
    obtain ⟨n, rfl⟩ : ∃ k, n = k + 1 := ⟨n - 1, by omega⟩
    obtain rfl : t = u := by omega
    simp only [ev.fill] at hf1
    have lb : az.length ≤ out.length := by omega
    have lb2 : az.length ≤ 4611686018427387904 := by omega
    have tk : out.take az.length = out := List.take_of_length_le (by omega)
    rw [roundD az ys 0]
    cases v3 : out.any areFinite_1.sp
    · simp only [v3, Bool.not_false, Bool.true_and] at hf1
      simp -implicitDefEqProofs only [Int.lt_irrefl, ev.fill, lb, lb2, tk, v3, hf1, and_self, eq_self, decide_true, decide_false, Bool.and_self, Bool.or_self, Bool.and_true, Bool.true_and, Bool.and_false, Bool.false_and, Bool.or_true, Bool.true_or, Bool.or_false, Bool.false_or, Bool.not_true, Bool.not_false, cond_true, cond_false]
      try rfl
    · simp -implicitDefEqProofs only [Int.lt_irrefl, ev.fill, lb, lb2, tk, v3, and_self, eq_self, decide_true, decide_false, Bool.and_self, Bool.or_self, Bool.and_true, Bool.true_and, Bool.and_false, Bool.false_and, Bool.or_true, Bool.true_or, Bool.or_false, Bool.false_or, Bool.not_true, Bool.not_false, cond_true, cond_false]
      try rfl
  | succ d ih =>
    intro t n out hi hn ho hv hf1
    obtain ⟨n, rfl⟩ : ∃ k, n = k + 1 := ⟨n - 1, by omega⟩
    simp only [ev.fill] at hf1
    have t0 : (0 : Int) ≤ (t : Int) := Int.natCast_nonneg _
    have t1 : (t : Int) < (u : Int) := by omega
    have t3 : (t : Int) < (ys.length : Int) := by omega
    have t2 : t < (ev.os ys).length := by rw [ev.os_length]; omega
    obtain ⟨a1, a2⟩ := ev.os_in ys t t2
    have a3 : (gz (ev.os ys) t).toNat < ys.length := by omega
    have a4 : (gz (ev.os ys) t).toNat < az.length := by omega
    have a5 : gz (ev.os ys) t < (az.length : Int) := by omega
    have a6 : (gz (ev.os ys) t).toNat < out.length := by omega
    have wt : IntKind.i64.wrap ((t : Int) + 1) = ((t + 1 : Nat) : Int) := wrap_nat t (by omega)
    have ex : fdiv .f32 (fsub .f32 l (gn ys (gz (ev.os ys) t).toNat)) (gn az (gz (ev.os ys) t).toNat) = ev.x.sv az ys l (gz (ev.os ys) t).toNat := rfl
    have en : (FloatKind.f32.format.order (ev.x.sv az ys l (gz (ev.os ys) t).toNat) 0 == some Ordering.lt) = ev.neg.sp (ev.x.sv az ys l (gz (ev.os ys) t).toNat) := rfl
    have hih := ih (t + 1) n (out.set (gz (ev.os ys) t).toNat (ev.v.sv az ys l (gz (ev.os ys) t).toNat)) (by omega) (by omega) (by simpa using ho) (hv.set _) hf1
    rw [roundD az ys 0]
    try simp only [ev.fill]
    simp -implicitDefEqProofs only [t0, t1, t2, t3, a1, a2, a3, a4, a5, a6, wt, ex, en, Int.toNat_natCast, decide_true, decide_false, Bool.and_self, Bool.or_self, Bool.and_true, Bool.true_and, Bool.and_false, Bool.false_and, Bool.or_true, Bool.true_or, Bool.or_false, Bool.false_or, Bool.not_true, Bool.not_false, cond_true, cond_false]
    cases hc : ev.neg.sp (ev.x.sv az ys l (gz (ev.os ys) t).toNat)
    · have hx : ev.v.sv az ys l (gz (ev.os ys) t).toNat = ev.x.sv az ys l (gz (ev.os ys) t).toNat := by unfold ev.v.sv; rw [hc]; rfl
      rw [hx] at hih
      try rw [hx]
      simp -implicitDefEqProofs only [Bool.not_false, cond_true]
      exact hih
    · rw [hv.skip hc] at hih
      try rw [hv.skip hc]
      simp -implicitDefEqProofs only [Bool.not_true, cond_false]
      exact hih
end flowI_f

namespace iEvenFlow_f
def R : List AVal → Option (Bool × AVal × List Blk)
  | [.ro (.flts .f32 az) m 1, .ro (.flts .f32 ys) k 1, .flt .f32 T] => some (decide (m = az.length ∧ k = ys.length ∧ m ≤ 4611686018427387904 ∧ k ≤ 4611686018427387904) && !ev.sp az ys T, .tup [.nils, .flt .f32 0, .bool false], [])
  | _ => none
theorem run : ∀ args v new, R args = some (true, v, new) → ∃ fuel, runFn Try.prog (orcW [⟨61, sortFew.R⟩] [⟨59, areSlopes.R⟩, ⟨50, iIsFinite.R⟩, ⟨60, counting2.R⟩, ⟨54, areFinite.R⟩]) flowI_f.hd Dr.std (some 0) fuel (bodyOf Try.f23) 123 [6, 7, 8] args [] = some (v, new) := by
  intro args v new h
  unfold R at h
  split at h
  · rename_i az m ys k T
    simp only [Option.some.injEq, Prod.mk.injEq, Bool.and_eq_true, decide_eq_true_eq, Bool.not_eq_true'] at h
    obtain ⟨⟨⟨rfl, rfl, h3, h4⟩, hs⟩, rfl, rfl⟩ := h
    obtain ⟨F, hF⟩ : ∃ F : Nat, F = 100 := ⟨100, rfl⟩
    refine ⟨F, ?_⟩
    rw [flowI_f.start]
    have el : flo.least.sp T = (flo.fin.sp T && flo.nn.sp T) := rfl
    have en : (FloatKind.f32.format.order T 0 == some Ordering.gt || FloatKind.f32.format.order T 0 == some Ordering.eq) = flo.nn.sp T := rfl
    simp only [ev.sp, ev.fin.sp] at hs
    cases v1 : rdl.sp az ys
    · simp -implicitDefEqProofs only [h3, h4, v1, List.take_length, Nat.le_refl, and_self, eq_self, decide_true, decide_false, Bool.and_self, Bool.or_self, Bool.and_true, Bool.true_and, Bool.and_false, Bool.false_and, Bool.or_true, Bool.true_or, Bool.or_false, Bool.false_or, Bool.not_true, Bool.not_false, cond_true, cond_false]
    cases v2 : flo.fin.sp T
    · simp -implicitDefEqProofs only [h3, h4, v1, v2, List.take_length, Nat.le_refl, and_self, eq_self, decide_true, decide_false, Bool.and_self, Bool.or_self, Bool.and_true, Bool.true_and, Bool.and_false, Bool.false_and, Bool.or_true, Bool.true_or, Bool.or_false, Bool.false_or, Bool.not_true, Bool.not_false, cond_true, cond_false]
    cases v5 : flo.nn.sp T
    · simp -implicitDefEqProofs only [en, h3, h4, v1, v2, v5, List.take_length, Nat.le_refl, and_self, eq_self, decide_true, decide_false, Bool.and_self, Bool.or_self, Bool.and_true, Bool.true_and, Bool.and_false, Bool.false_and, Bool.or_true, Bool.true_or, Bool.or_false, Bool.false_or, Bool.not_true, Bool.not_false, cond_true, cond_false]
    rw [el] at hs
    simp only [v1, v2, v5, Bool.and_self, Bool.true_and] at hs
    have hs2 := v1
    simp only [rdl.sp, Bool.and_eq_true, decide_eq_true_eq] at hs2
    obtain ⟨⟨⟨h1, h2⟩, h5⟩, _⟩ := hs2
    have cl : (cq.sv ys.length).length = ys.length := cq.sv_length _
    have m0 : (0 : Int) ≤ (ys.length : Int) := Int.natCast_nonneg _
    have m1 : (ys.length : Int) ≤ 1000 := by omega
    have m2 : 1 ≤ ys.length := by omega
    have m3 : ys.length ≤ 16 := by omega
    have m4 : (0 : Int) ≤ (az.length : Int) := Int.natCast_nonneg _
    have m5 : (az.length : Int) * 4 ≤ 140737488355328 := by omega
    have m6 : (az.length : Int) ≤ 4611686018427387904 := by omega
    have e2 := flowI_f.loopC az ys T F h5 h2 ys.length 0 0 0 0 F (by omega) (by omega)
    have e3 := flowI_f.loopD az ys (ev.l.sv az ys T) (ev.u az ys T) F h5 h2 (ev.u_le az ys T) (ev.u az ys T) 0 F (List.replicate az.length 0) (by omega) (by have := ev.u_le az ys T; omega) (by simp) (ev.Inv.zero _ _ _ _) hs
    simp -implicitDefEqProofs only [en, h3, h4, v1, v2, v5, cl, m0, m1, m2, m3, m4, m5, m6, Int.toNat_natCast, List.take_length, Nat.le_refl, Nat.reduceBEq, beq_self_eq_true, and_self, eq_self, decide_true, decide_false, Bool.and_self, Bool.or_self, Bool.and_true, Bool.true_and, Bool.and_false, Bool.false_and, Bool.or_true, Bool.true_or, Bool.or_false, Bool.false_or, Bool.not_true, Bool.not_false, cond_true, cond_false]
    exact e2.trans e3
  · cases h
theorem ok : EntOk Try.prog ⟨23, R⟩ :=
  ent_okA mixed (A := (orcW [⟨61, sortFew.R⟩] [⟨59, areSlopes.R⟩, ⟨50, iIsFinite.R⟩, ⟨60, counting2.R⟩, ⟨54, areFinite.R⟩])) (orcW_ok (by simp only [List.mem_cons, List.not_mem_nil, or_false, forall_eq_or_imp, forall_eq]; exact sortFew.ok) (by simp only [List.mem_cons, List.not_mem_nil, or_false, forall_eq_or_imp, forall_eq]; exact ⟨areSlopes.ok, iIsFinite.ok, counting2.ok, areFinite.ok⟩)) Try.func23 (by kernel_rfl) (by kernel_rfl) (n := 123) (ts := [6, 7, 8]) (hd := flowI_f.hd) (dr := Dr.std) (cut := (some 0)) (by kernel_rfl) (by kernel_rfl) (by kernel_rfl) run
end iEvenFlow_f

namespace iEvenFlow
def Rt := iEvenFlow_t.R
def Rf := iEvenFlow_f.R
theorem okt : EntOk Try.prog ⟨23, Rt⟩ := iEvenFlow_t.ok
theorem okf : EntOk Try.prog ⟨23, Rf⟩ := iEvenFlow_f.ok
end iEvenFlow

end Go.Proofs.Ytgblgofmdhekiaa.Ab
