/-
  Functions: crowds with other costs.
-/
import Derived.Test.YtgeglpommdckgaaFnT
namespace Go.Proofs.Ytgeglpommdckgaa.Ab
open Go
set_option linter.unusedVariables false
set_option linter.unusedSimpArgs false
set_option maxRecDepth 100000

namespace ct
/-- A table by roads and users. -/
def pre (f : Nat → Nat → Int) (u j k : Nat) : List Int := ((List.range j).flatMap fun j => (List.range u).map (f j)) ++ (List.range k).map (f j)
def tab (f : Nat → Nat → Int) (u r : Nat) : List Int := pre f u r 0
theorem pre_succ (f : Nat → Nat → Int) (u j k : Nat) : pre f u j k ++ [f j k] = pre f u j (k + 1) := by
  simp [pre, List.range_succ]
theorem pre_next (f : Nat → Nat → Int) (u j : Nat) : pre f u j u = pre f u (j + 1) 0 := by
  simp [pre, List.range_succ]
theorem pre_zero (f : Nat → Nat → Int) (u : Nat) : pre f u 0 0 = [] := by simp [pre]
theorem pre_length (f : Nat → Nat → Int) (u j k : Nat) : (pre f u j k).length = j * u + k := by
  induction j generalizing k with
  | zero => simp [pre]
  | succ j ih =>
    have h := ih u
    rw [pre_next] at h
    have e : pre f u (j + 1) k = pre f u (j + 1) 0 ++ (List.range k).map (f (j + 1)) := by simp [pre]
    rw [e, List.length_append, h, Nat.add_mul, Nat.one_mul]
    simp
theorem ix_lt {R C i k : Nat} (hi : i < R) (hk : k < C) : i * C + k < R * C := by
  have : (i + 1) * C ≤ R * C := Nat.mul_le_mul_right C hi
  rw [Nat.add_mul, Nat.one_mul] at this
  omega
theorem valid {u r : Int} {ws cs : List Int} (h : crowd.sp u r ws cs = true) : ∃ U R : Nat, u = U ∧ r = R ∧ (1 ≤ U ∧ U ≤ 8) ∧ (1 ≤ R ∧ R ≤ 8) ∧ (1 ≤ ws.length ∧ ws.length ≤ 8) ∧ cs.length = R * U ∧ ∀ x ∈ cs, -100000 ≤ x ∧ x ≤ 100000 := by
  simp only [crowd.sp, Bool.and_eq_true, decide_eq_true_eq, List.all_eq_true, crowd.cin] at h
  obtain ⟨⟨⟨⟨⟨h1, h2⟩, h3⟩, h4⟩, h5⟩, h6⟩ := h
  refine ⟨u.toNat, r.toNat, by omega, by omega, by omega, by omega, h3, ?_, h6⟩
  have : ((r.toNat * u.toNat : Nat) : Int) = u * r := by rw [Int.natCast_mul, Int.toNat_of_nonneg (by omega), Int.toNat_of_nonneg (by omega), Int.mul_comm]
  omega
end ct
namespace tl
/-- What a road costs others, and oneself. -/
def sv (u : Int) (cs : List Int) (j m : Int) : Int := m * pot.cost.sv u cs j m - (m - 1) * pot.cost.sv u cs j (m - 1)
def f (u : Int) (cs : List Int) (j k : Nat) : Int := tl.sv u cs j ((k + 1 : Nat) : Int)
end tl

namespace tolls1
def R : List AVal → Option (Bool × AVal × List Blk)
  | [.int .i64 j, .int .i64 m, .rom [.int .i64 u, .int .i64 r, .ro (.ints .i64 ws) mw 1, .ro (.ints .i64 cs) mc 1] 0] => some (decide (mw = ws.length ∧ mc = cs.length ∧ 0 ≤ j ∧ j < r ∧ 1 ≤ m ∧ m ≤ u) && crowd.sp u r ws cs, .int .i64 (tl.sv u cs j m), [])
  | _ => none
theorem go (u r : Int) (ws cs : List Int) (j m : Int) :
  runFn Try.prog (orc [⟨44, iCost.R⟩]) hd0 Dr.std none 0 (bodyOf Try.f43) 26 [5] [.int .i64 j, .int .i64 m, .rom [.int .i64 u, .int .i64 r, .ro (.ints .i64 ws) ws.length 1, .ro (.ints .i64 cs) cs.length 1] 0] []
  = (bif decide (cs.length ≤ cs.length ∧ (0 : Int) ≤ j * u ∧ j * u ≤ (64 : Int) ∧ (1 : Int) ≤ m ∧ m ≤ (64 : Int) ∧ j * u + m - (1 : Int) < (↑cs.length : Int)) && (true && (true && (true && (true && true))) && (true && (true && true)) || true && true) then bif decide ((1 : Int) < m) then bif decide (cs.length ≤ cs.length ∧ (0 : Int) ≤ j * u ∧ j * u ≤ (64 : Int) ∧ (1 : Int) ≤ IntKind.i64.wrap (m - (1 : Int)) ∧ IntKind.i64.wrap (m - (1 : Int)) ≤ (64 : Int) ∧ j * u + IntKind.i64.wrap (m - (1 : Int)) - (1 : Int) < (↑cs.length : Int)) && (true && (true && (true && (true && true))) && (true && (true && true)) || true && true) then some (AVal.int IntKind.i64 (IntKind.i64.wrap (IntKind.i64.wrap (m * pot.cost.sv u cs j m) - IntKind.i64.wrap (IntKind.i64.wrap (m - (1 : Int)) * pot.cost.sv u cs j (IntKind.i64.wrap (m - (1 : Int)))))), []) else none else some (AVal.int IntKind.i64 (IntKind.i64.wrap (m * pot.cost.sv u cs j m)), []) else none) := by kernel_rfl
theorem run : ∀ args v new, R args = some (true, v, new) → ∃ fuel, runFn Try.prog (orc [⟨44, iCost.R⟩]) hd0 Dr.std none fuel (bodyOf Try.f43) 26 [5] args [] = some (v, new) := by
  intro args v new h
  unfold R at h
  split at h
  · rename_i j m u r ws mw cs mc
    simp only [Option.some.injEq, Prod.mk.injEq, Bool.and_eq_true, decide_eq_true_eq] at h
    obtain ⟨⟨⟨rfl, rfl, q1, q2, q3, q4⟩, hv⟩, rfl, rfl⟩ := h
    obtain ⟨u, r, rfl, rfl, hu, hr, hw, hl, vc⟩ := ct.valid hv
    have hm : ((cs.length : Nat) : Int) = (u : Int) * (r : Int) := by rw [hl, Int.natCast_mul, Int.mul_comm]
    obtain ⟨p1, p2, p3⟩ := pot.ix (j := j) (k := m) (u := (u : Int)) (r := (r : Int)) (mc := cs.length) (by omega) (by omega) hm ⟨q1, q2⟩ ⟨q3, q4⟩
    have bnd : ∀ k : Int, -100000 ≤ pot.cost.sv (u : Int) cs j k ∧ pot.cost.sv (u : Int) cs j k ≤ 100000 := fun k => by
      unfold pot.cost.sv
      by_cases hh : (j * (u : Int) + k - 1).toNat < cs.length
      · rw [gz_eq hh]; exact vc _ (List.getElem_mem _)
      · have : gz cs (j * (u : Int) + k - 1).toNat = 0 := by unfold gz; rw [List.getD_eq_getElem?_getD, List.getElem?_eq_none (by omega)]; rfl
        omega
    have b1 := bnd m
    have b2 := bnd (m - 1)
    have m1 : m * pot.cost.sv (u : Int) cs j m ≤ 8 * 100000 ∧ -(8 * 100000) ≤ m * pot.cost.sv (u : Int) cs j m := by
      have h8 : m ≤ 8 := by omega
      generalize pot.cost.sv (u : Int) cs j m = z at b1
      have c1 : m * z ≤ m * 100000 := Int.mul_le_mul_of_nonneg_left b1.2 (by omega)
      have c2 : m * (-100000) ≤ m * z := Int.mul_le_mul_of_nonneg_left b1.1 (by omega)
      omega
    have m2 : (m - 1) * pot.cost.sv (u : Int) cs j (m - 1) ≤ 8 * 100000 ∧ -(8 * 100000) ≤ (m - 1) * pot.cost.sv (u : Int) cs j (m - 1) := by
      have h8 : m ≤ 8 := by omega
      generalize pot.cost.sv (u : Int) cs j (m - 1) = z at b2
      have c1 : (m - 1) * z ≤ (m - 1) * 100000 := Int.mul_le_mul_of_nonneg_left b2.2 (by omega)
      have c2 : (m - 1) * (-100000) ≤ (m - 1) * z := Int.mul_le_mul_of_nonneg_left b2.1 (by omega)
      omega
    have w1 : IntKind.i64.wrap (m * pot.cost.sv (u : Int) cs j m) = m * pot.cost.sv (u : Int) cs j m := IntWalk.i64_in _ (by omega)
    have w2 : IntKind.i64.wrap (m - 1) = m - 1 := IntWalk.i64_in _ (by omega)
    have w3 : IntKind.i64.wrap ((m - 1) * pot.cost.sv (u : Int) cs j (m - 1)) = (m - 1) * pot.cost.sv (u : Int) cs j (m - 1) := IntWalk.i64_in _ (by omega)
    have w4 : IntKind.i64.wrap (m * pot.cost.sv (u : Int) cs j m - (m - 1) * pot.cost.sv (u : Int) cs j (m - 1)) = tl.sv (u : Int) cs j m := IntWalk.i64_in _ (by omega)
    have p4 : m ≤ 64 := by omega
    refine ⟨0, ?_⟩
    rw [go]
    by_cases c : 1 < m
    · have p5 : 1 ≤ m - 1 := by omega
      have p6 : m - 1 ≤ 64 := by omega
      have p7 : j * (u : Int) + (m - 1) - 1 < (cs.length : Int) := by omega
      simp -implicitDefEqProofs only [c, w1, w2, w3, w4, p1, p2, p3, p4, p5, p6, p7, q3, Nat.le_refl, and_self, eq_self, decide_true, decide_false, Bool.and_self, Bool.or_self, Bool.and_true, Bool.true_and, Bool.and_false, Bool.false_and, Bool.or_true, Bool.true_or, Bool.or_false, Bool.false_or, Bool.not_true, Bool.not_false, cond_true, cond_false]
    · have e : tl.sv (u : Int) cs j m = m * pot.cost.sv (u : Int) cs j m := by
        have : m = 1 := by omega
        subst this; unfold tl.sv; omega
      simp -implicitDefEqProofs only [c, w1, e, p1, p2, p3, p4, q3, Nat.le_refl, and_self, eq_self, decide_true, decide_false, Bool.and_self, Bool.or_self, Bool.and_true, Bool.true_and, Bool.and_false, Bool.false_and, Bool.or_true, Bool.true_or, Bool.or_false, Bool.false_or, Bool.not_true, Bool.not_false, cond_true, cond_false]
  · cases h
theorem ok : EntOk Try.prog ⟨43, R⟩ :=
  ent_okA mixed (A := (orc [⟨44, iCost.R⟩])) (orc_ok (by simp only [List.mem_cons, List.not_mem_nil, or_false, forall_eq_or_imp, forall_eq]; exact iCost.ok)) Try.func43 (by kernel_rfl) (by kernel_rfl) (n := 26) (ts := [5]) (hd := hd0) (dr := Dr.std) (cut := none) (by kernel_rfl) (by kernel_rfl) (by kernel_rfl) run
end tolls1

end Go.Proofs.Ytgeglpommdckgaa.Ab
