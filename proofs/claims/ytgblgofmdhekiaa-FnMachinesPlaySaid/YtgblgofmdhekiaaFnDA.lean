/-
  Functions: two machines: valid ones, at their beginning, and a round.
-/
import Derived.Test.YtgblgofmdhekiaaFnGA
import Derived.Test.YtgblgofmdhekiaaFnB
import Derived.Test.YtgblgofmdhekiaaFnAU
import Derived.Test.YtgblgofmdhekiaaAbReW
namespace Go.Proofs.Ytgblgofmdhekiaa.Ab
open Go
set_option linter.unusedVariables false
set_option linter.unusedSimpArgs false
set_option maxRecDepth 100000

namespace mch
/-- A valid machine. -/
def mv.sp (a b : Int) (p q : List Int) : Bool := ((decide (1 ≤ a) && decide (a ≤ 6)) && (decide (1 ≤ b) && decide (b ≤ 6))) && (((decide (1 ≤ (p.length : Int)) && decide ((p.length : Int) ≤ 8)) && p.all fun x => decide (0 ≤ x) && decide (x ≤ a - 1)) && (decide ((q.length : Int) = p.length * b) && q.all fun x => decide (0 ≤ x) && decide (x ≤ (p.length : Int) - 1)))
structure MV (a b : Nat) (p q : List Int) : Prop where
  a1 : 1 ≤ a
  a6 : a ≤ 6
  b1 : 1 ≤ b
  b6 : b ≤ 6
  p1 : 1 ≤ p.length
  p8 : p.length ≤ 8
  pi : ∀ x ∈ p, 0 ≤ x ∧ x < (a : Int)
  ql : q.length = p.length * b
  qi : ∀ x ∈ q, 0 ≤ x ∧ x < (p.length : Int)
theorem mv_iff {a b : Nat} {p q : List Int} : mv.sp a b p q = true ↔ MV a b p q := by
  simp only [mv.sp, Bool.and_eq_true, decide_eq_true_eq, List.all_eq_true]
  constructor
  · rintro ⟨⟨⟨h1, h2⟩, h3, h4⟩, ⟨⟨h5, h6⟩, h7⟩, h8, h9⟩
    exact ⟨by omega, by omega, by omega, by omega, by omega, by omega, fun x hx => by have := h7 x hx; omega, by rw [← Int.natCast_mul] at h8; omega, fun x hx => by have := h9 x hx; omega⟩
  · rintro ⟨h1, h2, h3, h4, h5, h6, h7, h8, h9⟩
    exact ⟨⟨⟨by omega, by omega⟩, by omega, by omega⟩, ⟨⟨by omega, by omega⟩, fun x hx => by have := h7 x hx; omega⟩, by rw [← Int.natCast_mul]; omega, fun x hx => by have := h9 x hx; omega⟩
theorem MV.at {a b : Nat} {p q : List Int} (h : MV a b p q) {x : Nat} (hx : x < p.length) : ∃ i : Nat, gz p x = i ∧ i < a := by
  have := h.pi _ (gz_mem hx)
  exact ⟨(gz p x).toNat, by omega, by omega⟩
theorem MV.to {a b : Nat} {p q : List Int} (h : MV a b p q) {x k : Nat} (hx : x < p.length) (hk : k < b) : x * b + k < q.length ∧ x * b + k ≤ 48 ∧ ∃ y : Nat, gz q (x * b + k) = y ∧ y < p.length := by
  have h1 := gm.ix_lt hx hk
  rw [← h.ql] at h1
  have h2 : p.length * b ≤ 8 * 6 := Nat.mul_le_mul h.p8 h.b6
  have h3 := h.ql
  have := h.qi _ (gz_mem h1)
  exact ⟨h1, by omega, (gz q (x * b + k)).toNat, by omega, by omega⟩
/-- The states after so many rounds, and the cell of a round. -/
def nx.sv (c : Nat) (q s : List Int) (x y : Nat) : Nat := (gz q (x * c + (gz s y).toNat)).toNat
def ny.sv (r : Nat) (p t : List Int) (x y : Nat) : Nat := (gz t (y * r + (gz p x).toNat)).toNat
def cel.sv (c : Nat) (p s : List Int) (x y : Nat) : Nat := (gz p x).toNat * c + (gz s y).toNat
def pos (r c : Nat) (p q s t : List Int) : Nat → Nat × Nat
  | 0 => (0, 0)
  | n + 1 => (nx.sv c q s (pos r c p q s t n).1 (pos r c p q s t n).2, ny.sv r p t (pos r c p q s t n).1 (pos r c p q s t n).2)
def px.sv (r c : Nat) (p q s t : List Int) (n : Nat) : Nat := (pos r c p q s t n).1
def py.sv (r c : Nat) (p q s t : List Int) (n : Nat) : Nat := (pos r c p q s t n).2
def ce.sv (r c : Nat) (p q s t : List Int) (n : Nat) : Nat := cel.sv c p s (px.sv r c p q s t n) (py.sv r c p q s t n)
theorem px_succ (r c : Nat) (p q s t : List Int) (n : Nat) : nx.sv c q s (px.sv r c p q s t n) (py.sv r c p q s t n) = px.sv r c p q s t (n + 1) := rfl
theorem py_succ (r c : Nat) (p q s t : List Int) (n : Nat) : ny.sv r p t (px.sv r c p q s t n) (py.sv r c p q s t n) = py.sv r c p q s t (n + 1) := rfl
theorem ce_eq (r c : Nat) (p q s t : List Int) (n : Nat) : cel.sv c p s (px.sv r c p q s t n) (py.sv r c p q s t n) = ce.sv r c p q s t n := rfl
/-- Two machines. -/
structure TM (r c : Nat) (p q s t : List Int) : Prop where
  a : MV r c p q
  b : MV c r s t
theorem TM.pos {r c : Nat} {p q s t : List Int} (h : TM r c p q s t) : ∀ n, px.sv r c p q s t n < p.length ∧ py.sv r c p q s t n < s.length
  | 0 => ⟨h.a.p1, h.b.p1⟩
  | n + 1 => by
    obtain ⟨h1, h2⟩ := h.pos n
    obtain ⟨i, ei, hi⟩ := h.a.at h1
    obtain ⟨k, ek, hk⟩ := h.b.at h2
    obtain ⟨_, _, x, ex, hx⟩ := h.a.to h1 hk
    obtain ⟨_, _, y, ey, hy⟩ := h.b.to h2 hi
    unfold px.sv py.sv at *
    simp only [mch.pos, nx.sv, ny.sv, ei, ek, Int.toNat_natCast, ex, ey]
    exact ⟨hx, hy⟩
theorem TM.cell {r c : Nat} {p q s t : List Int} (h : TM r c p q s t) (n : Nat) : ce.sv r c p q s t n < r * c := by
  obtain ⟨h1, h2⟩ := h.pos n
  obtain ⟨i, ei, hi⟩ := h.a.at h1
  obtain ⟨k, ek, hk⟩ := h.b.at h2
  unfold ce.sv cel.sv
  rw [ei, ek, Int.toNat_natCast, Int.toNat_natCast]
  exact gm.ix_lt hi hk
end mch

namespace iValidPlayer
def R : List AVal → Option (Bool × AVal × List Blk)
  | [.agg [.ro (.ints .i64 p) mp 1, .ro (.ints .i64 q) mq 1], .int .i64 a, .int .i64 b] => some (decide (mp = p.length ∧ mq = q.length ∧ mp ≤ 4611686018427387904 ∧ mq ≤ 4611686018427387904), .bool (mch.mv.sp a b p q), [])
  | _ => none
theorem go (p q : List Int) (a b : Int) :
  runFn Try.prog (orc [⟨41, isSide.R⟩, ⟨42, areMany.R⟩]) hd0 Dr.std none 0 (bodyOf Try.f14) 37 [6] [.agg [.ro (.ints .i64 p) p.length 1, .ro (.ints .i64 q) q.length 1], .int .i64 a, .int .i64 b] []
  = (bif true && true then bif true && (true && true || true && true) then bif decide ((1 : Int) ≤ a) && decide (a ≤ (6 : Int)) then bif true && (true && true || true && true) then bif decide ((1 : Int) ≤ b) && decide (b ≤ (6 : Int)) then bif true && true then bif decide (p.length ≤ p.length ∧ p.length ≤ (4611686018427387904 : Nat)) && (true && (true && (true && (true && (true && true)))) || true && true) then bif decide ((1 : Int) ≤ (↑p.length : Int)) && decide ((↑p.length : Int) ≤ (8 : Int)) && (List.take p.length p).all fun x => decide ((0 : Int) ≤ x) && decide (x ≤ IntKind.i64.wrap (a - (1 : Int))) then bif true && true then bif decide (q.length ≤ q.length ∧ q.length ≤ (4611686018427387904 : Nat)) && (true && (true && (true && (true && (true && true)))) || true && true) then some (AVal.bool (decide (IntKind.i64.wrap ((↑p.length : Int) * b) ≤ (↑q.length : Int)) && decide ((↑q.length : Int) ≤ IntKind.i64.wrap ((↑p.length : Int) * b)) && (List.take q.length q).all fun x => decide ((0 : Int) ≤ x) && decide (x ≤ IntKind.i64.wrap ((↑p.length : Int) - (1 : Int)))), [{ c := BC.cells [AVal.ro (Cont.ints IntKind.i64 p) p.length (1 : Nat), AVal.ro (Cont.ints IntKind.i64 q) q.length (1 : Nat)], ver := (0 : Nat) }]) else none else none else some (AVal.bool false, [{ c := BC.cells [AVal.ro (Cont.ints IntKind.i64 p) p.length (1 : Nat), AVal.ro (Cont.ints IntKind.i64 q) q.length (1 : Nat)], ver := (0 : Nat) }]) else none else none else some (AVal.bool false, [{ c := BC.cells [AVal.ro (Cont.ints IntKind.i64 p) p.length (1 : Nat), AVal.ro (Cont.ints IntKind.i64 q) q.length (1 : Nat)], ver := (0 : Nat) }]) else none else some (AVal.bool false, [{ c := BC.cells [AVal.ro (Cont.ints IntKind.i64 p) p.length (1 : Nat), AVal.ro (Cont.ints IntKind.i64 q) q.length (1 : Nat)], ver := (0 : Nat) }]) else none else none) := by kernel_rfl
theorem run : ∀ args v new, R args = some (true, v, new) → ∃ fuel, regc [] (runFn Try.prog (orc [⟨41, isSide.R⟩, ⟨42, areMany.R⟩]) hd0 Dr.std none fuel (bodyOf Try.f14) 37 [6] args []) = some (v, new) := by
  intro args v new h
  unfold R at h
  split at h
  · rename_i p mp q mq a b
    simp only [Option.some.injEq, Prod.mk.injEq, decide_eq_true_eq] at h
    obtain ⟨⟨rfl, rfl, h1, h2⟩, rfl, rfl⟩ := h
    refine ⟨0, ?_⟩
    rw [go]
    unfold mch.mv.sp
    by_cases c1 : 1 ≤ a
    · by_cases c2 : a ≤ 6
      · by_cases c3 : 1 ≤ b
        · by_cases c4 : b ≤ 6
          · by_cases c5 : 1 ≤ (p.length : Int)
            · by_cases c6 : (p.length : Int) ≤ 8
              · obtain ⟨N, hN⟩ : ∃ N, (p.length : Int) * b = N := ⟨_, rfl⟩
                have n1 : 1 ≤ N ∧ N ≤ 48 := by
                  have e1 := Int.mul_le_mul c6 c4 (by omega) (by omega)
                  have e2 := Int.mul_le_mul c5 c3 (by omega) (by omega)
                  omega
                rw [hN]
                simp -implicitDefEqProofs (disch := omega) only [take_one, set_one, decide_eq_true, decide_eq_false, IntWalk.i64_in, beqT, beqF, bneT, bneF, nat_succ, ← Int.natCast_mul, ← Int.natCast_add, Int.toNat_natCast, Int.zero_mul, Int.zero_add, Int.add_zero, Nat.zero_add, Nat.add_zero, Nat.zero_mul, List.length_singleton, List.length_append, List.length_nil, List.length_cons, List.take_length, List.drop_zero, List.replicate_zero, List.take_nil, List.nil_append, Nat.reduceBEq, Nat.reduceMul, Nat.reduceLeDiff, eq_self, and_self, true_and, and_true, decide_true, decide_false, Bool.and_self, Bool.or_self, Bool.and_true, Bool.true_and, Bool.and_false, Bool.false_and, Bool.or_true, Bool.true_or, Bool.or_false, Bool.false_or, Bool.not_true, Bool.not_false, cond_true, cond_false]
                generalize p.all (fun x => decide (0 ≤ x) && decide (x ≤ a - 1)) = B
                generalize q.all (fun x => decide (0 ≤ x) && decide (x ≤ (p.length : Int) - 1)) = C
                cases B
                · rfl
                · have e : (decide (N ≤ (q.length : Int)) && decide ((q.length : Int) ≤ N)) = decide ((q.length : Int) = N) := by
                    rw [Bool.eq_iff_iff]; simp only [Bool.and_eq_true, decide_eq_true_eq]; omega
                  simp only [cond_true, e, Bool.true_and]
                  rfl
              · simp -implicitDefEqProofs (disch := omega) only [take_one, set_one, decide_eq_true, decide_eq_false, IntWalk.i64_in, beqT, beqF, bneT, bneF, nat_succ, ← Int.natCast_mul, ← Int.natCast_add, Int.toNat_natCast, Int.zero_mul, Int.zero_add, Int.add_zero, Nat.zero_add, Nat.add_zero, Nat.zero_mul, List.length_singleton, List.length_append, List.length_nil, List.length_cons, List.take_length, List.drop_zero, List.replicate_zero, List.take_nil, List.nil_append, Nat.reduceBEq, Nat.reduceMul, Nat.reduceLeDiff, eq_self, and_self, true_and, and_true, decide_true, decide_false, Bool.and_self, Bool.or_self, Bool.and_true, Bool.true_and, Bool.and_false, Bool.false_and, Bool.or_true, Bool.true_or, Bool.or_false, Bool.false_or, Bool.not_true, Bool.not_false, cond_true, cond_false]
                rfl
            · simp -implicitDefEqProofs (disch := omega) only [take_one, set_one, decide_eq_true, decide_eq_false, IntWalk.i64_in, beqT, beqF, bneT, bneF, nat_succ, ← Int.natCast_mul, ← Int.natCast_add, Int.toNat_natCast, Int.zero_mul, Int.zero_add, Int.add_zero, Nat.zero_add, Nat.add_zero, Nat.zero_mul, List.length_singleton, List.length_append, List.length_nil, List.length_cons, List.take_length, List.drop_zero, List.replicate_zero, List.take_nil, List.nil_append, Nat.reduceBEq, Nat.reduceMul, Nat.reduceLeDiff, eq_self, and_self, true_and, and_true, decide_true, decide_false, Bool.and_self, Bool.or_self, Bool.and_true, Bool.true_and, Bool.and_false, Bool.false_and, Bool.or_true, Bool.true_or, Bool.or_false, Bool.false_or, Bool.not_true, Bool.not_false, cond_true, cond_false]
              rfl
          · simp -implicitDefEqProofs (disch := omega) only [take_one, set_one, decide_eq_true, decide_eq_false, IntWalk.i64_in, beqT, beqF, bneT, bneF, nat_succ, ← Int.natCast_mul, ← Int.natCast_add, Int.toNat_natCast, Int.zero_mul, Int.zero_add, Int.add_zero, Nat.zero_add, Nat.add_zero, Nat.zero_mul, List.length_singleton, List.length_append, List.length_nil, List.length_cons, List.take_length, List.drop_zero, List.replicate_zero, List.take_nil, List.nil_append, Nat.reduceBEq, Nat.reduceMul, Nat.reduceLeDiff, eq_self, and_self, true_and, and_true, decide_true, decide_false, Bool.and_self, Bool.or_self, Bool.and_true, Bool.true_and, Bool.and_false, Bool.false_and, Bool.or_true, Bool.true_or, Bool.or_false, Bool.false_or, Bool.not_true, Bool.not_false, cond_true, cond_false]
            rfl
        · simp -implicitDefEqProofs (disch := omega) only [take_one, set_one, decide_eq_true, decide_eq_false, IntWalk.i64_in, beqT, beqF, bneT, bneF, nat_succ, ← Int.natCast_mul, ← Int.natCast_add, Int.toNat_natCast, Int.zero_mul, Int.zero_add, Int.add_zero, Nat.zero_add, Nat.add_zero, Nat.zero_mul, List.length_singleton, List.length_append, List.length_nil, List.length_cons, List.take_length, List.drop_zero, List.replicate_zero, List.take_nil, List.nil_append, Nat.reduceBEq, Nat.reduceMul, Nat.reduceLeDiff, eq_self, and_self, true_and, and_true, decide_true, decide_false, Bool.and_self, Bool.or_self, Bool.and_true, Bool.true_and, Bool.and_false, Bool.false_and, Bool.or_true, Bool.true_or, Bool.or_false, Bool.false_or, Bool.not_true, Bool.not_false, cond_true, cond_false]
          rfl
      · simp -implicitDefEqProofs (disch := omega) only [take_one, set_one, decide_eq_true, decide_eq_false, IntWalk.i64_in, beqT, beqF, bneT, bneF, nat_succ, ← Int.natCast_mul, ← Int.natCast_add, Int.toNat_natCast, Int.zero_mul, Int.zero_add, Int.add_zero, Nat.zero_add, Nat.add_zero, Nat.zero_mul, List.length_singleton, List.length_append, List.length_nil, List.length_cons, List.take_length, List.drop_zero, List.replicate_zero, List.take_nil, List.nil_append, Nat.reduceBEq, Nat.reduceMul, Nat.reduceLeDiff, eq_self, and_self, true_and, and_true, decide_true, decide_false, Bool.and_self, Bool.or_self, Bool.and_true, Bool.true_and, Bool.and_false, Bool.false_and, Bool.or_true, Bool.true_or, Bool.or_false, Bool.false_or, Bool.not_true, Bool.not_false, cond_true, cond_false]
        rfl
    · simp -implicitDefEqProofs (disch := omega) only [take_one, set_one, decide_eq_true, decide_eq_false, IntWalk.i64_in, beqT, beqF, bneT, bneF, nat_succ, ← Int.natCast_mul, ← Int.natCast_add, Int.toNat_natCast, Int.zero_mul, Int.zero_add, Int.add_zero, Nat.zero_add, Nat.add_zero, Nat.zero_mul, List.length_singleton, List.length_append, List.length_nil, List.length_cons, List.take_length, List.drop_zero, List.replicate_zero, List.take_nil, List.nil_append, Nat.reduceBEq, Nat.reduceMul, Nat.reduceLeDiff, eq_self, and_self, true_and, and_true, decide_true, decide_false, Bool.and_self, Bool.or_self, Bool.and_true, Bool.true_and, Bool.and_false, Bool.false_and, Bool.or_true, Bool.true_or, Bool.or_false, Bool.false_or, Bool.not_true, Bool.not_false, cond_true, cond_false]
      rfl
  · cases h
theorem ok : EntOk Try.prog ⟨14, R⟩ :=
  ent_okAG (ks := []) mixed (A := (orc [⟨41, isSide.R⟩, ⟨42, areMany.R⟩])) (orc_ok (by simp only [List.mem_cons, List.not_mem_nil, or_false, forall_eq_or_imp, forall_eq]; exact ⟨isSide.ok, areMany.ok⟩)) Try.func14 (by kernel_rfl) (by kernel_rfl) (n := 37) (ts := [6]) (hd := hd0) (dr := Dr.std) (cut := none) (by kernel_rfl) (by kernel_rfl) (by kernel_rfl) run
end iValidPlayer

namespace iPaired
def R : List AVal → Option (Bool × AVal × List Blk)
  | [.agg [.int .i64 r, .int .i64 c, .ro (.ints .i64 xs) mx 1, .ro (.ints .i64 ys) my 1], .agg [.ro (.ints .i64 p) mp 1, .ro (.ints .i64 q) mq 1], .agg [.ro (.ints .i64 s) ms 1, .ro (.ints .i64 t) mt 1]] => some (decide (mx = xs.length ∧ my = ys.length ∧ mx ≤ 4611686018427387904 ∧ my ≤ 4611686018427387904 ∧ mp = p.length ∧ mq = q.length ∧ mp ≤ 4611686018427387904 ∧ mq ≤ 4611686018427387904 ∧ ms = s.length ∧ mt = t.length ∧ ms ≤ 4611686018427387904 ∧ mt ≤ 4611686018427387904), .tup [.agg [.int .i64 r, .int .i64 c, .ro (.ints .i64 xs) mx 1, .ro (.ints .i64 ys) my 1, .ro (.ints .i64 p) mp 1, .ro (.ints .i64 q) mq 1, .ro (.ints .i64 s) ms 1, .ro (.ints .i64 t) mt 1, .int .i64 0, .int .i64 0], .bool (gm.sp r c xs ys && (mch.mv.sp r c p q && mch.mv.sp c r s t))], [])
  | _ => none
theorem go (r c : Int) (xs ys p q s t : List Int) :
  runFn Try.prog (orc [⟨43, iValidGame.R⟩, ⟨14, iValidPlayer.R⟩]) hd0 Dr.std none 0 (bodyOf Try.f38) 30 [.cell 6 76, 7] [.agg [.int .i64 r, .int .i64 c, .ro (.ints .i64 xs) xs.length 1, .ro (.ints .i64 ys) ys.length 1], .agg [.ro (.ints .i64 p) p.length 1, .ro (.ints .i64 q) q.length 1], .agg [.ro (.ints .i64 s) s.length 1, .ro (.ints .i64 t) t.length 1]] []
  = (bif true && true && (true && true && (true && true && (true && true && true))) then bif true && true && (true && true && true) then bif true && true && (true && true && true) then bif true && true && (true && true && (true && true && (true && true && true))) then bif decide (xs.length = xs.length ∧ ys.length = ys.length ∧ xs.length ≤ (4611686018427387904 : Nat) ∧ ys.length ≤ (4611686018427387904 : Nat)) && (true && (true && (true && (true && true))) && true || true && true) then bif gm.sp r c xs ys then bif true && true && (true && true && true) then bif true && true then bif true && true then bif decide (p.length = p.length ∧ q.length = q.length ∧ p.length ≤ (4611686018427387904 : Nat) ∧ q.length ≤ (4611686018427387904 : Nat)) && (true && (true && true) && (true && (true && true)) || true && true) then bif mch.mv.sp r c p q then bif true && true && (true && true && true) then bif true && true then bif true && true then bif decide (s.length = s.length ∧ t.length = t.length ∧ s.length ≤ (4611686018427387904 : Nat) ∧ t.length ≤ (4611686018427387904 : Nat)) && (true && (true && true) && (true && (true && true)) || true && true) then bif true && true && (true && true && (true && true && (true && true && (true && true && (true && true && (true && true && (true && true && (true && true && (true && true && true))))))))) && true then some (AVal.tup [AVal.agg [AVal.int IntKind.i64 r, AVal.int IntKind.i64 c, AVal.ro (Cont.ints IntKind.i64 xs) xs.length (1 : Nat), AVal.ro (Cont.ints IntKind.i64 ys) ys.length (1 : Nat), AVal.ro (Cont.ints IntKind.i64 p) p.length (1 : Nat), AVal.ro (Cont.ints IntKind.i64 q) q.length (1 : Nat), AVal.ro (Cont.ints IntKind.i64 s) s.length (1 : Nat), AVal.ro (Cont.ints IntKind.i64 t) t.length (1 : Nat), AVal.int IntKind.i64 (0 : Int), AVal.int IntKind.i64 (0 : Int)], AVal.bool (mch.mv.sp c r s t)], [{ c := BC.cells [AVal.int IntKind.i64 r, AVal.int IntKind.i64 c, AVal.ro (Cont.ints IntKind.i64 xs) xs.length (1 : Nat), AVal.ro (Cont.ints IntKind.i64 ys) ys.length (1 : Nat)], ver := (0 : Nat) }, { c := BC.cells [AVal.ro (Cont.ints IntKind.i64 p) p.length (1 : Nat), AVal.ro (Cont.ints IntKind.i64 q) q.length (1 : Nat)], ver := (0 : Nat) }, { c := BC.cells [AVal.ro (Cont.ints IntKind.i64 s) s.length (1 : Nat), AVal.ro (Cont.ints IntKind.i64 t) t.length (1 : Nat)], ver := (0 : Nat) }, { c := BC.cells [AVal.int IntKind.i64 r, AVal.int IntKind.i64 c, AVal.ro (Cont.ints IntKind.i64 xs) xs.length (1 : Nat), AVal.ro (Cont.ints IntKind.i64 ys) ys.length (1 : Nat), AVal.ro (Cont.ints IntKind.i64 p) p.length (1 : Nat), AVal.ro (Cont.ints IntKind.i64 q) q.length (1 : Nat), AVal.ro (Cont.ints IntKind.i64 s) s.length (1 : Nat), AVal.ro (Cont.ints IntKind.i64 t) t.length (1 : Nat), AVal.int IntKind.i64 (0 : Int), AVal.int IntKind.i64 (0 : Int)], ver := (0 : Nat) }]) else none else none else none else none else none else bif true && true && (true && true && (true && true && (true && true && (true && true && (true && true && (true && true && (true && true && (true && true && (true && true && true))))))))) && true then some (AVal.tup [AVal.agg [AVal.int IntKind.i64 r, AVal.int IntKind.i64 c, AVal.ro (Cont.ints IntKind.i64 xs) xs.length (1 : Nat), AVal.ro (Cont.ints IntKind.i64 ys) ys.length (1 : Nat), AVal.ro (Cont.ints IntKind.i64 p) p.length (1 : Nat), AVal.ro (Cont.ints IntKind.i64 q) q.length (1 : Nat), AVal.ro (Cont.ints IntKind.i64 s) s.length (1 : Nat), AVal.ro (Cont.ints IntKind.i64 t) t.length (1 : Nat), AVal.int IntKind.i64 (0 : Int), AVal.int IntKind.i64 (0 : Int)], AVal.bool false], [{ c := BC.cells [AVal.int IntKind.i64 r, AVal.int IntKind.i64 c, AVal.ro (Cont.ints IntKind.i64 xs) xs.length (1 : Nat), AVal.ro (Cont.ints IntKind.i64 ys) ys.length (1 : Nat)], ver := (0 : Nat) }, { c := BC.cells [AVal.ro (Cont.ints IntKind.i64 p) p.length (1 : Nat), AVal.ro (Cont.ints IntKind.i64 q) q.length (1 : Nat)], ver := (0 : Nat) }, { c := BC.cells [AVal.ro (Cont.ints IntKind.i64 s) s.length (1 : Nat), AVal.ro (Cont.ints IntKind.i64 t) t.length (1 : Nat)], ver := (0 : Nat) }, { c := BC.cells [AVal.int IntKind.i64 r, AVal.int IntKind.i64 c, AVal.ro (Cont.ints IntKind.i64 xs) xs.length (1 : Nat), AVal.ro (Cont.ints IntKind.i64 ys) ys.length (1 : Nat), AVal.ro (Cont.ints IntKind.i64 p) p.length (1 : Nat), AVal.ro (Cont.ints IntKind.i64 q) q.length (1 : Nat), AVal.ro (Cont.ints IntKind.i64 s) s.length (1 : Nat), AVal.ro (Cont.ints IntKind.i64 t) t.length (1 : Nat), AVal.int IntKind.i64 (0 : Int), AVal.int IntKind.i64 (0 : Int)], ver := (0 : Nat) }]) else none else none else none else none else none else bif true && true && (true && true && (true && true && (true && true && (true && true && (true && true && (true && true && (true && true && (true && true && (true && true && true))))))))) && true then some (AVal.tup [AVal.agg [AVal.int IntKind.i64 r, AVal.int IntKind.i64 c, AVal.ro (Cont.ints IntKind.i64 xs) xs.length (1 : Nat), AVal.ro (Cont.ints IntKind.i64 ys) ys.length (1 : Nat), AVal.ro (Cont.ints IntKind.i64 p) p.length (1 : Nat), AVal.ro (Cont.ints IntKind.i64 q) q.length (1 : Nat), AVal.ro (Cont.ints IntKind.i64 s) s.length (1 : Nat), AVal.ro (Cont.ints IntKind.i64 t) t.length (1 : Nat), AVal.int IntKind.i64 (0 : Int), AVal.int IntKind.i64 (0 : Int)], AVal.bool false], [{ c := BC.cells [AVal.int IntKind.i64 r, AVal.int IntKind.i64 c, AVal.ro (Cont.ints IntKind.i64 xs) xs.length (1 : Nat), AVal.ro (Cont.ints IntKind.i64 ys) ys.length (1 : Nat)], ver := (0 : Nat) }, { c := BC.cells [AVal.ro (Cont.ints IntKind.i64 p) p.length (1 : Nat), AVal.ro (Cont.ints IntKind.i64 q) q.length (1 : Nat)], ver := (0 : Nat) }, { c := BC.cells [AVal.ro (Cont.ints IntKind.i64 s) s.length (1 : Nat), AVal.ro (Cont.ints IntKind.i64 t) t.length (1 : Nat)], ver := (0 : Nat) }, { c := BC.cells [AVal.int IntKind.i64 r, AVal.int IntKind.i64 c, AVal.ro (Cont.ints IntKind.i64 xs) xs.length (1 : Nat), AVal.ro (Cont.ints IntKind.i64 ys) ys.length (1 : Nat), AVal.ro (Cont.ints IntKind.i64 p) p.length (1 : Nat), AVal.ro (Cont.ints IntKind.i64 q) q.length (1 : Nat), AVal.ro (Cont.ints IntKind.i64 s) s.length (1 : Nat), AVal.ro (Cont.ints IntKind.i64 t) t.length (1 : Nat), AVal.int IntKind.i64 (0 : Int), AVal.int IntKind.i64 (0 : Int)], ver := (0 : Nat) }]) else none else none else none else none else none else none) := by kernel_rfl
theorem run : ∀ args v new, R args = some (true, v, new) → ∃ fuel, regc [] (runFn Try.prog (orc [⟨43, iValidGame.R⟩, ⟨14, iValidPlayer.R⟩]) hd0 Dr.std none fuel (bodyOf Try.f38) 30 [.cell 6 76, 7] args []) = some (v, new) := by
  intro args v new h
  unfold R at h
  split at h
  · rename_i r c xs mx ys my p mp q mq s ms t mt
    simp only [Option.some.injEq, Prod.mk.injEq, decide_eq_true_eq] at h
    obtain ⟨⟨rfl, rfl, h1, h2, rfl, rfl, h3, h4, rfl, rfl, h5, h6⟩, rfl, rfl⟩ := h
    refine ⟨0, ?_⟩
    rw [go]
    cases g1 : gm.sp r c xs ys
    · simp -implicitDefEqProofs (disch := omega) only [g1, take_one, set_one, decide_eq_true, decide_eq_false, IntWalk.i64_in, beqT, beqF, bneT, bneF, nat_succ, ← Int.natCast_mul, ← Int.natCast_add, Int.toNat_natCast, Int.zero_mul, Int.zero_add, Int.add_zero, Nat.zero_add, Nat.add_zero, Nat.zero_mul, List.length_singleton, List.length_append, List.length_nil, List.length_cons, List.take_length, List.drop_zero, List.replicate_zero, List.take_nil, List.nil_append, Nat.reduceBEq, Nat.reduceMul, Nat.reduceLeDiff, eq_self, and_self, true_and, and_true, decide_true, decide_false, Bool.and_self, Bool.or_self, Bool.and_true, Bool.true_and, Bool.and_false, Bool.false_and, Bool.or_true, Bool.true_or, Bool.or_false, Bool.false_or, Bool.not_true, Bool.not_false, cond_true, cond_false]
      rfl
    · cases g2 : mch.mv.sp r c p q
      · simp -implicitDefEqProofs (disch := omega) only [g1, take_one, set_one, decide_eq_true, decide_eq_false, IntWalk.i64_in, beqT, beqF, bneT, bneF, nat_succ, ← Int.natCast_mul, ← Int.natCast_add, Int.toNat_natCast, Int.zero_mul, Int.zero_add, Int.add_zero, Nat.zero_add, Nat.add_zero, Nat.zero_mul, List.length_singleton, List.length_append, List.length_nil, List.length_cons, List.take_length, List.drop_zero, List.replicate_zero, List.take_nil, List.nil_append, Nat.reduceBEq, Nat.reduceMul, Nat.reduceLeDiff, eq_self, and_self, true_and, and_true, decide_true, decide_false, Bool.and_self, Bool.or_self, Bool.and_true, Bool.true_and, Bool.and_false, Bool.false_and, Bool.or_true, Bool.true_or, Bool.or_false, Bool.false_or, Bool.not_true, Bool.not_false, cond_true, cond_false]
        rfl
      · simp -implicitDefEqProofs (disch := omega) only [g1, take_one, set_one, decide_eq_true, decide_eq_false, IntWalk.i64_in, beqT, beqF, bneT, bneF, nat_succ, ← Int.natCast_mul, ← Int.natCast_add, Int.toNat_natCast, Int.zero_mul, Int.zero_add, Int.add_zero, Nat.zero_add, Nat.add_zero, Nat.zero_mul, List.length_singleton, List.length_append, List.length_nil, List.length_cons, List.take_length, List.drop_zero, List.replicate_zero, List.take_nil, List.nil_append, Nat.reduceBEq, Nat.reduceMul, Nat.reduceLeDiff, eq_self, and_self, true_and, and_true, decide_true, decide_false, Bool.and_self, Bool.or_self, Bool.and_true, Bool.true_and, Bool.and_false, Bool.false_and, Bool.or_true, Bool.true_or, Bool.or_false, Bool.false_or, Bool.not_true, Bool.not_false, cond_true, cond_false]
        rfl
  · cases h
theorem ok : EntOk Try.prog ⟨38, R⟩ :=
  ent_okAG (ks := []) mixed (A := (orc [⟨43, iValidGame.R⟩, ⟨14, iValidPlayer.R⟩])) (orc_ok (by simp only [List.mem_cons, List.not_mem_nil, or_false, forall_eq_or_imp, forall_eq]; exact ⟨iValidGame.ok, iValidPlayer.ok⟩)) Try.func38 (by kernel_rfl) (by kernel_rfl) (n := 30) (ts := [.cell 6 76, 7]) (hd := hd0) (dr := Dr.std) (cut := none) (by kernel_rfl) (by kernel_rfl) (by kernel_rfl) run
end iPaired

namespace iPlay
def R : List AVal → Heap → Option (Bool × AVal × Heap)
  | [.ptr 0 0 0], [⟨.cells [.int .i64 r, .int .i64 c, .ro (.ints .i64 xs) mx 1, .ro (.ints .i64 ys) my 1, .ro (.ints .i64 p) mp 1, .ro (.ints .i64 q) mq 1, .ro (.ints .i64 s) ms 1, .ro (.ints .i64 t) mt 1, .int .i64 x, .int .i64 y], 0⟩] => some (decide (mx = xs.length ∧ my = ys.length ∧ mp = p.length ∧ mq = q.length ∧ ms = s.length ∧ mt = t.length ∧ 0 ≤ r ∧ 0 ≤ c ∧ 0 ≤ x ∧ x < p.length ∧ 0 ≤ y ∧ y < s.length) && (mch.mv.sp r c p q && mch.mv.sp c r s t), .int .i64 ((mch.cel.sv c.toNat p s x.toNat y.toNat : Nat) : Int), [⟨.cells [.int .i64 r, .int .i64 c, .ro (.ints .i64 xs) mx 1, .ro (.ints .i64 ys) my 1, .ro (.ints .i64 p) mp 1, .ro (.ints .i64 q) mq 1, .ro (.ints .i64 s) ms 1, .ro (.ints .i64 t) mt 1, .int .i64 (((mch.nx.sv c.toNat q s x.toNat y.toNat) : Nat) : Int), .int .i64 (((mch.ny.sv r.toNat p t x.toNat y.toNat) : Nat) : Int)], 0⟩])
  | _, _ => none
theorem go (r c : Int) (xs ys p q s t : List Int) (x y : Int) :
  runFn Try.prog (orc []) hd0 Dr.std none 0 (bodyOf Try.f39) 80 [2] [.ptr 0 0 0] [⟨.cells [.int .i64 r, .int .i64 c, .ro (.ints .i64 xs) xs.length 1, .ro (.ints .i64 ys) ys.length 1, .ro (.ints .i64 p) p.length 1, .ro (.ints .i64 q) q.length 1, .ro (.ints .i64 s) s.length 1, .ro (.ints .i64 t) t.length 1, .int .i64 x, .int .i64 y], 0⟩]
  = (bif true && true then bif true && true then bif true && true then bif true && (decide ((0 : Int) ≤ x) && decide (x < (↑p.length : Int))) then bif decide (x.toNat < p.length) then bif true && true then bif true && true then bif true && (decide ((0 : Int) ≤ y) && decide (y < (↑s.length : Int))) then bif decide (y.toNat < s.length) then bif true && true then bif true && true then bif true && true then bif true && (decide ((0 : Int) ≤ IntKind.i64.wrap (IntKind.i64.wrap (x * c) + gz s y.toNat)) && decide (IntKind.i64.wrap (IntKind.i64.wrap (x * c) + gz s y.toNat) < (↑q.length : Int))) then bif decide ((IntKind.i64.wrap (IntKind.i64.wrap (x * c) + gz s y.toNat)).toNat < q.length) then bif true && true then bif true && true then bif true && true then bif true && (decide ((0 : Int) ≤ IntKind.i64.wrap (IntKind.i64.wrap (y * r) + gz p x.toNat)) && decide (IntKind.i64.wrap (IntKind.i64.wrap (y * r) + gz p x.toNat) < (↑t.length : Int))) then bif decide ((IntKind.i64.wrap (IntKind.i64.wrap (y * r) + gz p x.toNat)).toNat < t.length) then bif true && true then some (AVal.int IntKind.i64 (IntKind.i64.wrap (IntKind.i64.wrap (gz p x.toNat * c) + gz s y.toNat)), [{ c := BC.cells [AVal.int IntKind.i64 r, AVal.int IntKind.i64 c, AVal.ro (Cont.ints IntKind.i64 xs) xs.length (1 : Nat), AVal.ro (Cont.ints IntKind.i64 ys) ys.length (1 : Nat), AVal.ro (Cont.ints IntKind.i64 p) p.length (1 : Nat), AVal.ro (Cont.ints IntKind.i64 q) q.length (1 : Nat), AVal.ro (Cont.ints IntKind.i64 s) s.length (1 : Nat), AVal.ro (Cont.ints IntKind.i64 t) t.length (1 : Nat), AVal.int IntKind.i64 (gz q (IntKind.i64.wrap (IntKind.i64.wrap (x * c) + gz s y.toNat)).toNat), AVal.int IntKind.i64 (gz t (IntKind.i64.wrap (IntKind.i64.wrap (y * r) + gz p x.toNat)).toNat)], ver := (0 : Nat) }]) else none else none else none else none else none else none else none else none else none else none else none else none else none else none else none else none else none else none else none else none) := by kernel_rfl
theorem run : ∀ args H v new, R args H = some (true, v, new) → ∃ fuel, runFn Try.prog (orc []) hd0 Dr.std none fuel (bodyOf Try.f39) 80 [2] args H = some (v, new) := by
  intro args H v new h
  unfold R at h
  split at h
  · rename_i r c xs mx ys my p mp q mq s ms t mt x y
    simp only [Option.some.injEq, Prod.mk.injEq, decide_eq_true_eq, Bool.and_eq_true] at h
    obtain ⟨⟨⟨rfl, rfl, rfl, rfl, rfl, rfl, h1, h2, h3, h4, h5, h6⟩, va, vb⟩, rfl, rfl⟩ := h
    obtain ⟨r, rfl⟩ : ∃ k : Nat, r = k := ⟨r.toNat, by omega⟩
    obtain ⟨c, rfl⟩ : ∃ k : Nat, c = k := ⟨c.toNat, by omega⟩
    obtain ⟨x, rfl⟩ : ∃ k : Nat, x = k := ⟨x.toNat, by omega⟩
    obtain ⟨y, rfl⟩ : ∃ k : Nat, y = k := ⟨y.toNat, by omega⟩
    have a := mch.mv_iff.1 va
    have b := mch.mv_iff.1 vb
    have ha6 := a.a6
    have hb6 := a.b6
    have hp8 := a.p8
    have hs8 := b.p8
    obtain ⟨i, ei, hi⟩ := a.at (x := x) (by omega)
    obtain ⟨k, ek, hk⟩ := b.at (x := y) (by omega)
    obtain ⟨l1, l2, x', ex, hx⟩ := a.to (x := x) (by omega) hk
    obtain ⟨l3, l4, y', ey, hy⟩ := b.to (x := y) (by omega) hi
    have l5 := gm.ix_lt hi hk
    have l6 : r * c ≤ 36 := gm.le_36 ha6 hb6
    refine ⟨0, ?_⟩
    rw [go]
    simp only [Int.toNat_natCast, mch.cel.sv, mch.nx.sv, mch.ny.sv, ei, ek, ex, ey, ← Int.natCast_mul]
    generalize x * c = N1 at *
    generalize y * r = N2 at *
    generalize i * c = N3 at *
    simp -implicitDefEqProofs (disch := omega) only [ex, ey, take_one, set_one, decide_eq_true, decide_eq_false, IntWalk.i64_in, beqT, beqF, bneT, bneF, nat_succ, ← Int.natCast_mul, ← Int.natCast_add, Int.toNat_natCast, Int.zero_mul, Int.zero_add, Int.add_zero, Nat.zero_add, Nat.add_zero, Nat.zero_mul, List.length_singleton, List.length_append, List.length_nil, List.length_cons, List.take_length, List.drop_zero, List.replicate_zero, List.take_nil, List.nil_append, Nat.reduceBEq, Nat.reduceMul, Nat.reduceLeDiff, eq_self, and_self, true_and, and_true, decide_true, decide_false, Bool.and_self, Bool.or_self, Bool.and_true, Bool.true_and, Bool.and_false, Bool.false_and, Bool.or_true, Bool.true_or, Bool.or_false, Bool.false_or, Bool.not_true, Bool.not_false, cond_true, cond_false]
  · cases h
theorem ok : EntWOk Try.prog ⟨39, R⟩ :=
  entw_ok mixed (A := (orc [])) (orc_ok (by simp)) Try.func39 (by kernel_rfl) (by kernel_rfl) (n := 80) (ts := [2]) (hd := hd0) (dr := Dr.std) (cut := none) (by kernel_rfl) (by kernel_rfl) (by kernel_rfl) run
end iPlay

end Go.Proofs.Ytgblgofmdhekiaa.Ab
