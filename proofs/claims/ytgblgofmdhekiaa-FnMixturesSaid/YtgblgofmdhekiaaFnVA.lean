/-
  Functions: games that the laws draw from bytes.
-/
import Derived.Test.YtgblgofmdhekiaaFnGA
import Derived.Test.YtgblgofmdhekiaaFnNA
namespace Go.Proofs.Ytgblgofmdhekiaa.Ab
open Go
set_option linter.unusedVariables false
set_option linter.unusedSimpArgs false
set_option maxRecDepth 100000

namespace r8
def sd.sv (xs : List Int) : Nat → Nat → Int → Int
  | 0, _, s => s
  | d + 1, a, s => sd.sv xs d (a + 1) (seed.sv xs a s)
def dg.sv (xs : List Int) (d a : Nat) (s : Int) : List Int := (go.sv xs 13 d a s).map fun x => x - 6
theorem dg_length (xs : List Int) (d a : Nat) (s : Int) : (dg.sv xs d a s).length = d := by rw [dg.sv, List.length_map, go_length]
theorem dg_in {xs : List Int} (h : bytes.sp xs = true) (d a : Nat) (s : Int) : ∀ x ∈ dg.sv xs d a s, -6 ≤ x ∧ x ≤ 6 := by
  intro x hx
  obtain ⟨y, hy, rfl⟩ := List.mem_map.1 hx
  have := go_in h (by decide : (0 : Int) < 13) d a s y hy
  omega
end r8

namespace l02DrawGains
def R : List AVal → Heap → Option (Bool × AVal × Heap)
  | [.ptr 0 0 0, .int .i64 k], [⟨.cells [.ro (.ints .u8 xs) m 1, .int .i64 a, .int .u64 s], 0⟩] => some (decide (m = xs.length ∧ m ≤ 1000000 ∧ 0 ≤ a ∧ a ≤ 1000 ∧ 0 ≤ k ∧ k ≤ 100), .own 1 0 k.toNat 0 1, [⟨.cells [.ro (.ints .u8 xs) m 1, .int .i64 ((a.toNat + k.toNat : Nat) : Int), .int .u64 (r8.sd.sv xs k.toNat a.toNat s)], 0⟩, ⟨.typ (.ints .i64 (r8.dg.sv xs k.toNat a.toNat s)), 0⟩])
  | _, _ => none
def hd : Nat → Head := fun _ => ⟨[0, 1, 5], some 1⟩
noncomputable def L (f n : Nat) (s : State) := loopAt Try.prog (orcW [⟨37, srcPick.R⟩] []) hd Dr.std 1 f (bodyOf Try.f74) 0 [true, true, false] (retK Try.prog [4] 1 none) n s
theorem start (xs : List Int) (k a s : Int) (f : Nat) :
  runFn Try.prog (orcW [⟨37, srcPick.R⟩] []) hd Dr.std none f (bodyOf Try.f74) 18 [4] [.ptr 0 0 0, .int .i64 k] [⟨.cells [.ro (.ints .u8 xs) xs.length 1, .int .i64 a, .int .u64 s], 0⟩]
  = (bif true && true then L f f (mkS (18 : Nat) [((0 : Nat), AVal.ptr (0 : Nat) (0 : Nat) (0 : Nat)), ((1 : Nat), AVal.int IntKind.i64 k), ((5 : Nat), AVal.own (1 : Nat) (0 : Nat) (0 : Nat) (0 : Nat) (1 : Nat))] [{ c := BC.cells [AVal.ro (Cont.ints IntKind.u8 xs) xs.length (1 : Nat), AVal.int IntKind.i64 a, AVal.int IntKind.u64 s], ver := (0 : Nat) }, { c := BC.typ (Cont.ints IntKind.i64 (List.replicate (0 : Nat) (0 : Int))), ver := (0 : Nat) }]) else none) := by kernel_rfl
theorem round (xs os : List Int) (k a s : Int) (q f n : Nat) :
  L f (n + 1) (mkS 18 [(0, .ptr 0 0 0), (1, .int .i64 k), (5, .own 1 0 q 0 1)] [⟨.cells [.ro (.ints .u8 xs) xs.length 1, .int .i64 a, .int .u64 s], 0⟩, ⟨.typ (.ints .i64 os), 0⟩])
  = (bif decide ((0 : Int) < k) then bif decide (xs.length = xs.length ∧ xs.length ≤ (1000000 : Nat) ∧ (0 : Int) ≤ a ∧ a ≤ (1000000 : Int) ∧ (2 : Int) ≤ (13 : Int) ∧ (13 : Int) ≤ (200 : Int)) && (true && (true && true)) then bif (1 : Nat) == (1 : Nat) && (1 : Nat) == (1 : Nat) && (true && (true && true) && (true && true && (decide (q + (List.take (1 : Nat) (List.drop (0 : Nat) ((List.replicate (1 : Nat) (0 : Int)).set (0 : Nat) (IntKind.i64.wrap ((r8.nx.sv xs a.toNat s).tmod (13 : Int) - (6 : Int)))))).length ≤ (4611686018427387904 : Nat)) && decide ((q + (List.take (1 : Nat) (List.drop (0 : Nat) ((List.replicate (1 : Nat) (0 : Int)).set (0 : Nat) (IntKind.i64.wrap ((r8.nx.sv xs a.toNat s).tmod (13 : Int) - (6 : Int)))))).length) * (8 : Nat) ≤ (140737488355328 : Nat))))) then L f n (mkS (18 : Nat) [((0 : Nat), AVal.ptr (0 : Nat) (0 : Nat) (0 : Nat)), ((1 : Nat), AVal.int IntKind.i64 (IntKind.i64.wrap (k - (1 : Int)))), ((5 : Nat), AVal.own (1 : Nat) (0 : Nat) (q + (List.take (1 : Nat) (List.drop (0 : Nat) ((List.replicate (1 : Nat) (0 : Int)).set (0 : Nat) (IntKind.i64.wrap ((r8.nx.sv xs a.toNat s).tmod (13 : Int) - (6 : Int)))))).length) (0 : Nat) (1 : Nat))] [{ c := BC.cells [AVal.ro (Cont.ints IntKind.u8 xs) xs.length (1 : Nat), AVal.int IntKind.i64 (a + (1 : Int)), AVal.int IntKind.u64 (r8.seed.sv xs a.toNat s)], ver := (0 : Nat) }, { c := BC.typ (Cont.ints IntKind.i64 (List.take q os ++ List.take (1 : Nat) (List.drop (0 : Nat) ((List.replicate (1 : Nat) (0 : Int)).set (0 : Nat) (IntKind.i64.wrap ((r8.nx.sv xs a.toNat s).tmod (13 : Int) - (6 : Int))))))), ver := (0 : Nat) }]) else none else none else some (AVal.own (1 : Nat) (0 : Nat) q (0 : Nat) (1 : Nat), [{ c := BC.cells [AVal.ro (Cont.ints IntKind.u8 xs) xs.length (1 : Nat), AVal.int IntKind.i64 a, AVal.int IntKind.u64 s], ver := (0 : Nat) }, { c := BC.typ (Cont.ints IntKind.i64 os), ver := (0 : Nat) }])) := by kernel_rfl
theorem loop (xs : List Int) (f : Nat) (hx : xs.length ≤ 1000000) : ∀ (d n a : Nat) (s : Int) (os : List Int), d ≤ 100 → os.length + d ≤ 100 → a + d ≤ 10000 → d < n →
    L f n (mkS 18 [(0, .ptr 0 0 0), (1, .int .i64 ((d : Nat) : Int)), (5, .own 1 0 os.length 0 1)] [⟨.cells [.ro (.ints .u8 xs) xs.length 1, .int .i64 ((a : Nat) : Int), .int .u64 s], 0⟩, ⟨.typ (.ints .i64 os), 0⟩]) = some (.own 1 0 (os.length + d) 0 1, [⟨.cells [.ro (.ints .u8 xs) xs.length 1, .int .i64 ((a + d : Nat) : Int), .int .u64 (r8.sd.sv xs d a s)], 0⟩, ⟨.typ (.ints .i64 (os ++ r8.dg.sv xs d a s)), 0⟩]) := by
  intro d
  induction d with
  | zero =>
    intro n a s os hd hl ha hn
    obtain ⟨n, rfl⟩ : ∃ k, n = k + 1 := ⟨n - 1, by omega⟩
    have c : ¬ ((0 : Int) < ((0 : Nat) : Int)) := by omega
    rw [round]
    simp -implicitDefEqProofs only [c, r8.dg.sv, r8.go.sv, r8.sd.sv, List.map_nil, List.append_nil, Nat.add_zero, decide_true, decide_false, Bool.and_self, Bool.or_self, Bool.and_true, Bool.true_and, Bool.and_false, Bool.false_and, Bool.or_true, Bool.true_or, Bool.or_false, Bool.false_or, Bool.not_true, Bool.not_false, cond_true, cond_false]
  | succ d ih =>
    intro n a s os hd hl ha hn
    obtain ⟨n, rfl⟩ : ∃ k, n = k + 1 := ⟨n - 1, by omega⟩
    have c : (0 : Int) < ((d + 1 : Nat) : Int) := by omega
    have wd : IntKind.i64.wrap (((d + 1 : Nat) : Int) - 1) = (d : Int) := by rw [IntWalk.i64_in _ (by omega)]; omega
    have wp : IntKind.i64.wrap ((r8.nx.sv xs a s).tmod 13 - 6) = (r8.nx.sv xs a s).tmod 13 - 6 := by
      have h1 := Int.tmod_lt_of_pos (r8.nx.sv xs a s) (by decide : (0 : Int) < 13)
      have h2 := Int.lt_tmod_of_pos (r8.nx.sv xs a s) (by decide : (0 : Int) < 13)
      exact IntWalk.i64_in _ (by omega)
    have a0 : (0 : Int) ≤ (a : Int) := Int.natCast_nonneg _
    have a1 : (a : Int) ≤ 1000000 := by omega
    have k0 : os.length + 1 ≤ 4611686018427387904 := by omega
    have k1 : (os.length + 1) * 8 ≤ 140737488355328 := by omega
    have t1 : (2 : Int) ≤ 13 := by decide
    have t2 : (13 : Int) ≤ 200 := by decide
    have ht : os.take os.length = os := List.take_length
    have one : ∀ v : Int, (List.replicate 1 (0 : Int)).set 0 v = [v] := fun v => rfl
    have hC := ih n (a + 1) (r8.seed.sv xs a s) (os ++ [(r8.nx.sv xs a s).tmod 13 - 6]) (by omega) (by rw [List.length_append, List.length_singleton]; omega) (by omega) (by omega)
    rw [round]
    simp -implicitDefEqProofs only [c, wd, wp, a0, a1, hx, k0, k1, t1, t2, ht, one, List.drop_zero, List.take_length, List.length_singleton, List.take_succ_cons, List.take_zero, Nat.reduceBEq, Int.toNat_natCast, and_self, eq_self, decide_true, decide_false, Bool.and_self, Bool.or_self, Bool.and_true, Bool.true_and, Bool.and_false, Bool.false_and, Bool.or_true, Bool.true_or, Bool.or_false, Bool.false_or, Bool.not_true, Bool.not_false, cond_true, cond_false]
    rw [List.length_append, List.length_singleton, List.append_assoc] at hC
    rw [show os.length + (d + 1) = os.length + 1 + d from by omega, show a + (d + 1) = a + 1 + d from by omega]
    exact hC
theorem run : ∀ args H v new, R args H = some (true, v, new) → ∃ fuel, runFn Try.prog (orcW [⟨37, srcPick.R⟩] []) hd Dr.std none fuel (bodyOf Try.f74) 18 [4] args H = some (v, new) := by
  intro args H v new h
  unfold R at h
  split at h
  · rename_i k xs m a s
    simp only [Option.some.injEq, Prod.mk.injEq, decide_eq_true_eq] at h
    obtain ⟨⟨rfl, h1, h2, h3, h4, h5⟩, rfl, rfl⟩ := h
    obtain ⟨k, rfl⟩ : ∃ q : Nat, k = q := ⟨k.toNat, by omega⟩
    obtain ⟨a, rfl⟩ : ∃ q : Nat, a = q := ⟨a.toNat, by omega⟩
    obtain ⟨F, hF⟩ : ∃ F : Nat, F = 2000 := ⟨2000, rfl⟩
    refine ⟨F, ?_⟩
    have hC := loop xs F h1 k F a s [] (by omega) (by simp; omega) (by omega) (by omega)
    rw [start, Int.toNat_natCast, Int.toNat_natCast]
    simp only [List.length_nil, Nat.zero_add, List.nil_append] at hC
    exact hC
  · cases h
theorem ok : EntWOk Try.prog ⟨74, R⟩ :=
  entw_ok mixed (A := (orcW [⟨37, srcPick.R⟩] [])) (orcW_ok (by simp only [List.mem_cons, List.not_mem_nil, or_false, forall_eq_or_imp, forall_eq]; exact srcPick.ok) (by simp)) Try.func74 (by kernel_rfl) (by kernel_rfl) (n := 18) (ts := [4]) (hd := hd) (dr := Dr.std) (cut := none) (by kernel_rfl) (by kernel_rfl) (by kernel_rfl) run
end l02DrawGains

namespace r8
def p4.sv (xs : List Int) (n : Nat) : Int := (nx.sv xs n (sd.sv xs n 0 0)).tmod 4
def neg.sv (l : List Int) : List Int := l.map fun x => IntKind.i64.wrap (0 - x)
def ar.sv (w : Int) : Nat → Nat → List Int → List Int
  | 0, _, l => l
  | d + 1, p, l => ar.sv w d (p + 1) (l.set p (IntKind.i64.wrap (gz l p + w)))
def al.sv (xs : List Int) (c : Nat) : Nat → Nat → Nat → Int → List Int → List Int
  | 0, _, _, _, l => l
  | d + 1, i, a, s, l => al.sv xs c d (i + 1) (a + 1) (seed.sv xs a s) (ar.sv ((nx.sv xs a s).tmod 9) c (i * c) l)
/-- The gains of both. -/
def gA.sv (xs : List Int) (n : Nat) : List Int := dg.sv xs n 0 0
def gB.sv (xs : List Int) (r c : Nat) : List Int := bif p4.sv xs (r * c) == 0 then neg.sv (gA.sv xs (r * c)) else bif p4.sv xs (r * c) == 1 then al.sv xs c r 0 (r * c + 1) (seed.sv xs (r * c) (sd.sv xs (r * c) 0 0)) (gA.sv xs (r * c)) else dg.sv xs (r * c) (r * c + 1) (seed.sv xs (r * c) (sd.sv xs (r * c) 0 0))
theorem ar_length (w : Int) : ∀ (d p : Nat) (l : List Int), (ar.sv w d p l).length = l.length := by
  intro d
  induction d with
  | zero => intro p l; rfl
  | succ d ih => intro p l; rw [ar.sv, ih, List.length_set]
theorem al_length (xs : List Int) (c : Nat) : ∀ (d i a : Nat) (s : Int) (l : List Int), (al.sv xs c d i a s l).length = l.length := by
  intro d
  induction d with
  | zero => intro i a s l; rfl
  | succ d ih => intro i a s l; rw [al.sv, ih, ar_length]
theorem ar_in {w : Int} (hw : 0 ≤ w ∧ w ≤ 8) : ∀ (d p : Nat) (l : List Int) (M : Int), 0 ≤ M → M + 8 * d ≤ 1000 → (∀ x ∈ l, -6 ≤ x ∧ x ≤ M) → ∀ x ∈ ar.sv w d p l, -6 ≤ x ∧ x ≤ M + 8 * d := by
  intro d
  induction d with
  | zero => intro p l M h0 hM h x hx; have := h x hx; omega
  | succ d ih =>
    intro p l M h0 hM h x hx
    rw [ar.sv] at hx
    have := ih (p + 1) _ (M + 8) (by omega) (by omega) (fun y hy => by
      rcases List.mem_or_eq_of_mem_set hy with hy | rfl
      · have := h y hy; omega
      · by_cases hp : p < l.length
        · have := h _ (List.getElem_mem hp)
          rw [gz_eq hp, IntWalk.i64_in _ (by omega)]
          omega
        · have e : gz l p = 0 := by unfold gz; rw [List.getD_eq_getElem?_getD, List.getElem?_eq_none (by omega)]; rfl
          rw [e, IntWalk.i64_in _ (by omega)]
          omega) x hx
    omega
theorem al_in {xs : List Int} (hx : bytes.sp xs = true) {c : Nat} (hc : c ≤ 6) : ∀ (d i a : Nat) (s : Int) (l : List Int) (M : Int), 0 ≤ M → M + 48 * d ≤ 1000 → (∀ x ∈ l, -6 ≤ x ∧ x ≤ M) → ∀ x ∈ al.sv xs c d i a s l, -6 ≤ x ∧ x ≤ M + 48 * d := by
  intro d
  induction d with
  | zero => intro i a s l M h0 hM h x hx; have := h x hx; omega
  | succ d ih =>
    intro i a s l M h0 hM h x hx2
    rw [al.sv] at hx2
    have hw := tmod_in (nx_ok hx a s).1 (by decide : (0 : Int) < 9)
    have h1 := ar_in (w := (nx.sv xs a s).tmod 9) (by omega) c (i * c) l M h0 (by omega) h
    have := ih (i + 1) (a + 1) (seed.sv xs a s) _ (M + 48) (by omega) (by omega) (fun y hy => by have := h1 y hy; omega) x hx2
    omega
theorem gA_length (xs : List Int) (n : Nat) : (gA.sv xs n).length = n := dg_length _ _ _ _
theorem gB_length (xs : List Int) (r c : Nat) : (gB.sv xs r c).length = r * c := by
  unfold gB.sv
  cases p4.sv xs (r * c) == 0
  · cases p4.sv xs (r * c) == 1
    · exact dg_length _ _ _ _
    · exact (al_length _ _ _ _ _ _ _).trans (gA_length _ _)
  · rw [cond_true, neg.sv, List.length_map, gA_length]
theorem gB_in {xs : List Int} (h : bytes.sp xs = true) {r c : Nat} (hr : r ≤ 6) (hc : c ≤ 6) : ∀ x ∈ gB.sv xs r c, -1000 ≤ x ∧ x ≤ 1000 := by
  intro x hx
  unfold gB.sv at hx
  revert hx
  cases p4.sv xs (r * c) == 0
  · rw [cond_false]
    cases p4.sv xs (r * c) == 1
    · intro hx
      rw [cond_false] at hx
      have := dg_in h _ _ _ x hx
      omega
    · intro hx
      rw [cond_true] at hx
      have := al_in h hc r 0 (r * c + 1) _ _ 6 (by omega) (by omega) (fun y hy => by have := dg_in h _ _ _ y hy; omega) x hx
      omega
  · intro hx
    rw [cond_true, neg.sv] at hx
    obtain ⟨y, hy, rfl⟩ := List.mem_map.1 hx
    have := dg_in h _ _ _ y hy
    rw [IntWalk.i64_in _ (by omega)]
    omega
theorem valid {xs : List Int} (h : bytes.sp xs = true) {r c : Nat} (hr : 1 ≤ r ∧ r ≤ 6) (hc : 1 ≤ c ∧ c ≤ 6) : gm.sp (r : Int) (c : Int) (gA.sv xs (r * c)) (gB.sv xs r c) = true := by
  have h1 : ∀ x ∈ gA.sv xs (r * c), -1000 ≤ x ∧ x ≤ 1000 := fun x hx => by have := dg_in h _ _ _ x hx; omega
  have h2 := gB_in h hr.2 hc.2
  have e : ((r * c : Nat) : Int) = (r : Int) * (c : Int) := by simp
  simp only [gm.sp, gm.gain.sp, Bool.and_eq_true, decide_eq_true_eq, List.all_eq_true, gA_length, gB_length]
  exact ⟨⟨by omega, by omega⟩, ⟨e, h1⟩, e, h2⟩
end r8

namespace l02DrawSides
def Ra : List AVal → Heap → Option (Bool × AVal × Heap)
  | [.ptr 0 0 0, .int .i64 r, .int .i64 c], [⟨.cells [.ro (.ints .u8 xs) m 1, .int .i64 a, .int .u64 s], 0⟩] => some (decide (m = xs.length ∧ m ≤ 1000000 ∧ a = 0 ∧ s = 0 ∧ 1 ≤ r ∧ r ≤ 6 ∧ 1 ≤ c ∧ c ≤ 6) && (r8.p4.sv xs (r.toNat * c.toNat) == 0), .agg [.int .i64 r, .int .i64 c, .own 2 0 (r.toNat * c.toNat) 0 1, .own 5 0 (r.toNat * c.toNat) 0 1], [⟨.cells [.ro (.ints .u8 xs) m 1, .int .i64 (((r.toNat * c.toNat) + 1 : Nat) : Int), .int .u64 (r8.seed.sv xs (r.toNat * c.toNat) (r8.sd.sv xs (r.toNat * c.toNat) 0 0))], 0⟩, ⟨.cells [.int .i64 r, .int .i64 c, .own 2 0 (r.toNat * c.toNat) 0 1, .own 5 0 (r.toNat * c.toNat) 0 1], 0⟩, ⟨.typ (.ints .i64 (r8.gA.sv xs (r.toNat * c.toNat))), 0⟩, ⟨.cells [.int .i64 r, .int .i64 c, .own 2 0 (r.toNat * c.toNat) 0 1, .own 5 0 (r.toNat * c.toNat) 0 1], 0⟩, ⟨.typ (.ints .i64 [IntKind.i64.wrap (0 - gz (r8.gA.sv xs (r.toNat * c.toNat)) 0)]), 0⟩, ⟨.typ (.ints .i64 (r8.neg.sv (r8.gA.sv xs (r.toNat * c.toNat)))), 0⟩])
  | _, _ => none
def Rb : List AVal → Heap → Option (Bool × AVal × Heap)
  | [.ptr 0 0 0, .int .i64 r, .int .i64 c], [⟨.cells [.ro (.ints .u8 xs) m 1, .int .i64 a, .int .u64 s], 0⟩] => some (decide (m = xs.length ∧ m ≤ 1000000 ∧ a = 0 ∧ s = 0 ∧ 1 ≤ r ∧ r ≤ 6 ∧ 1 ≤ c ∧ c ≤ 6) && (!(r8.p4.sv xs (r.toNat * c.toNat) == 0) && r8.p4.sv xs (r.toNat * c.toNat) == 1), .agg [.int .i64 r, .int .i64 c, .own 2 0 (r.toNat * c.toNat) 0 1, .own 4 0 (r.toNat * c.toNat) 0 1], [⟨.cells [.ro (.ints .u8 xs) m 1, .int .i64 (((r.toNat * c.toNat) + 1 + r.toNat : Nat) : Int), .int .u64 (r8.sd.sv xs r.toNat ((r.toNat * c.toNat) + 1) (r8.seed.sv xs (r.toNat * c.toNat) (r8.sd.sv xs (r.toNat * c.toNat) 0 0)))], 0⟩, ⟨.cells [.int .i64 r, .int .i64 c, .own 2 0 (r.toNat * c.toNat) 0 1, .own 4 0 (r.toNat * c.toNat) 0 1], 0⟩, ⟨.typ (.ints .i64 (r8.gA.sv xs (r.toNat * c.toNat))), 0⟩, ⟨.cells [.int .i64 r, .int .i64 c, .own 2 0 (r.toNat * c.toNat) 0 1, .own 4 0 (r.toNat * c.toNat) 0 1], 0⟩, ⟨.typ (.ints .i64 (r8.al.sv xs c.toNat r.toNat 0 ((r.toNat * c.toNat) + 1) (r8.seed.sv xs (r.toNat * c.toNat) (r8.sd.sv xs (r.toNat * c.toNat) 0 0)) (r8.gA.sv xs (r.toNat * c.toNat)))), 0⟩])
  | _, _ => none
def Rc : List AVal → Heap → Option (Bool × AVal × Heap)
  | [.ptr 0 0 0, .int .i64 r, .int .i64 c], [⟨.cells [.ro (.ints .u8 xs) m 1, .int .i64 a, .int .u64 s], 0⟩] => some (decide (m = xs.length ∧ m ≤ 1000000 ∧ a = 0 ∧ s = 0 ∧ 1 ≤ r ∧ r ≤ 6 ∧ 1 ≤ c ∧ c ≤ 6) && (!(r8.p4.sv xs (r.toNat * c.toNat) == 0) && !(r8.p4.sv xs (r.toNat * c.toNat) == 1)), .agg [.int .i64 r, .int .i64 c, .own 2 0 (r.toNat * c.toNat) 0 1, .own 4 0 (r.toNat * c.toNat) 0 1], [⟨.cells [.ro (.ints .u8 xs) m 1, .int .i64 (((r.toNat * c.toNat) + 1 + (r.toNat * c.toNat) : Nat) : Int), .int .u64 (r8.sd.sv xs (r.toNat * c.toNat) ((r.toNat * c.toNat) + 1) (r8.seed.sv xs (r.toNat * c.toNat) (r8.sd.sv xs (r.toNat * c.toNat) 0 0)))], 0⟩, ⟨.cells [.int .i64 r, .int .i64 c, .own 2 0 (r.toNat * c.toNat) 0 1, .own 4 0 (r.toNat * c.toNat) 0 1], 0⟩, ⟨.typ (.ints .i64 (r8.gA.sv xs (r.toNat * c.toNat))), 0⟩, ⟨.cells [.int .i64 r, .int .i64 c, .own 2 0 (r.toNat * c.toNat) 0 1, .own 4 0 (r.toNat * c.toNat) 0 1], 0⟩, ⟨.typ (.ints .i64 (r8.dg.sv xs (r.toNat * c.toNat) ((r.toNat * c.toNat) + 1) (r8.seed.sv xs (r.toNat * c.toNat) (r8.sd.sv xs (r.toNat * c.toNat) 0 0)))), 0⟩])
  | _, _ => none
def hd : Nat → Head := fun i => bif eqN i 1 then ⟨[6, 7, 8], some 5⟩ else bif eqN i 3 then ⟨[0, 1, 2, 6, 7, 9], some 4⟩ else ⟨[0, 1, 2, 6, 7, 9, 10, 11], some 4⟩
noncomputable def L1 (f n : Nat) (s : State) := loopAt Try.prog (orcW [⟨37, srcPick.R⟩, ⟨74, l02DrawGains.R⟩] []) hd Dr.std 1 f (bodyOf Try.f36) 0 [true, true, false, true, true, false, true] (retK Try.prog [.cell 6 26] 1 none) n s
noncomputable def L3 (f n : Nat) (s : State) := loopAt Try.prog (orcW [⟨37, srcPick.R⟩, ⟨74, l02DrawGains.R⟩] []) hd Dr.std 1 f (bodyOf Try.f36) 0 [true, true, false, true, true, true, true, false, true, true] (retK Try.prog [.cell 6 26] 1 none) n s
noncomputable def L5 (f n n2 : Nat) (s : State) := loopAt Try.prog (orcW [⟨37, srcPick.R⟩, ⟨74, l02DrawGains.R⟩] []) hd Dr.std 1 f (bodyAt (bodyOf Try.f36) [true, true, false, true, true, true, true, false, true, true]) (curAt (bodyOf Try.f36) 0 [true, true, false, true, true, true, true, false, true, true]) [true, false, true, true] (iterK (normE 1 (hd (curAt (bodyOf Try.f36) 0 [true, true, false, true, true, true, true, false, true, true]))) (L3 f n) (contAt Try.prog (orcW [⟨37, srcPick.R⟩, ⟨74, l02DrawGains.R⟩] []) hd Dr.std 1 f (bodyOf Try.f36) 0 [true, true, false, true, true, true, true, false, true, true] (retK Try.prog [.cell 6 26] 1 none))) n2 s
theorem start (xs : List Int) (r c : Int) (a s : Int) (f : Nat) :
  runFn Try.prog (orcW [⟨37, srcPick.R⟩, ⟨74, l02DrawGains.R⟩] []) hd Dr.std none f (bodyOf Try.f36) 80 [.cell 6 26] [.ptr 0 0 0, .int .i64 r, .int .i64 c] [⟨.cells [.ro (.ints .u8 xs) xs.length 1, .int .i64 a, .int .u64 s], 0⟩]
  = (bif true && true then bif decide (xs.length = xs.length ∧ xs.length ≤ (1000000 : Nat) ∧ (0 : Int) ≤ a ∧ a ≤ (1000 : Int) ∧ (0 : Int) ≤ IntKind.i64.wrap (r * c) ∧ IntKind.i64.wrap (r * c) ≤ (100 : Int)) && (true && (true && true)) then bif decide (xs.length = xs.length ∧ xs.length ≤ (1000000 : Nat) ∧ (0 : Int) ≤ (↑(a.toNat + (IntKind.i64.wrap (r * c)).toNat) : Int) ∧ (↑(a.toNat + (IntKind.i64.wrap (r * c)).toNat) : Int) ≤ (1000000 : Int) ∧ (2 : Int) ≤ (4 : Int) ∧ (4 : Int) ≤ (200 : Int)) && (true && (true && true)) then bif (r8.nx.sv xs (↑(a.toNat + (IntKind.i64.wrap (r * c)).toNat) : Int).toNat (r8.sd.sv xs (IntKind.i64.wrap (r * c)).toNat a.toNat s)).tmod (4 : Int) == (0 : Int) then L1 f f (mkS (80 : Nat) [((6 : Nat), AVal.ptr (1 : Nat) (0 : Nat) (0 : Nat)), ((7 : Nat), AVal.ptr ((1 : Nat) + (1 : Nat) + (1 : Nat)) (0 : Nat) (0 : Nat)), ((8 : Nat), AVal.int IntKind.i64 (0 : Int))] [{ c := BC.cells [AVal.ro (Cont.ints IntKind.u8 xs) xs.length (1 : Nat), AVal.int IntKind.i64 ((↑(a.toNat + (IntKind.i64.wrap (r * c)).toNat) : Int) + (1 : Int)), AVal.int IntKind.u64 (r8.seed.sv xs (↑(a.toNat + (IntKind.i64.wrap (r * c)).toNat) : Int).toNat (r8.sd.sv xs (IntKind.i64.wrap (r * c)).toNat a.toNat s))], ver := (0 : Nat) }, { c := BC.cells [AVal.int IntKind.i64 (0 : Int), AVal.int IntKind.i64 (0 : Int), AVal.nils, AVal.nils], ver := (0 : Nat) }, { c := BC.typ (Cont.ints IntKind.i64 (r8.dg.sv xs (IntKind.i64.wrap (r * c)).toNat a.toNat s)), ver := (0 : Nat) }, { c := BC.cells [AVal.int IntKind.i64 r, AVal.int IntKind.i64 c, AVal.own ((2 : Nat) + (0 : Nat)) (0 : Nat) (IntKind.i64.wrap (r * c)).toNat (0 : Nat) (1 : Nat), AVal.nils], ver := (0 : Nat) }]) else bif (r8.nx.sv xs (↑(a.toNat + (IntKind.i64.wrap (r * c)).toNat) : Int).toNat (r8.sd.sv xs (IntKind.i64.wrap (r * c)).toNat a.toNat s)).tmod (4 : Int) == (1 : Int) then bif true && true then bif (1 : Nat) == (1 : Nat) && (1 : Nat) == (1 : Nat) && (true && (true && true) && (true && true && (decide ((0 : Nat) + (List.take (IntKind.i64.wrap (r * c)).toNat (List.drop (0 : Nat) (r8.dg.sv xs (IntKind.i64.wrap (r * c)).toNat a.toNat s))).length ≤ (4611686018427387904 : Nat)) && decide (((0 : Nat) + (List.take (IntKind.i64.wrap (r * c)).toNat (List.drop (0 : Nat) (r8.dg.sv xs (IntKind.i64.wrap (r * c)).toNat a.toNat s))).length) * (8 : Nat) ≤ (140737488355328 : Nat))))) then L3 f f (mkS (80 : Nat) [((0 : Nat), AVal.ptr (0 : Nat) (0 : Nat) (0 : Nat)), ((1 : Nat), AVal.int IntKind.i64 r), ((2 : Nat), AVal.int IntKind.i64 c), ((6 : Nat), AVal.ptr (1 : Nat) (0 : Nat) (0 : Nat)), ((7 : Nat), AVal.ptr ((1 : Nat) + (1 : Nat) + (1 : Nat)) (0 : Nat) (0 : Nat)), ((9 : Nat), AVal.int IntKind.i64 (0 : Int))] [{ c := BC.cells [AVal.ro (Cont.ints IntKind.u8 xs) xs.length (1 : Nat), AVal.int IntKind.i64 ((↑(a.toNat + (IntKind.i64.wrap (r * c)).toNat) : Int) + (1 : Int)), AVal.int IntKind.u64 (r8.seed.sv xs (↑(a.toNat + (IntKind.i64.wrap (r * c)).toNat) : Int).toNat (r8.sd.sv xs (IntKind.i64.wrap (r * c)).toNat a.toNat s))], ver := (0 : Nat) }, { c := BC.cells [AVal.int IntKind.i64 (0 : Int), AVal.int IntKind.i64 (0 : Int), AVal.nils, AVal.nils], ver := (0 : Nat) }, { c := BC.typ (Cont.ints IntKind.i64 (r8.dg.sv xs (IntKind.i64.wrap (r * c)).toNat a.toNat s)), ver := (0 : Nat) }, { c := BC.cells [AVal.int IntKind.i64 r, AVal.int IntKind.i64 c, AVal.own ((2 : Nat) + (0 : Nat)) (0 : Nat) (IntKind.i64.wrap (r * c)).toNat (0 : Nat) (1 : Nat), AVal.own ((1 : Nat) + (1 : Nat) + (1 : Nat) + (1 : Nat)) (0 : Nat) ((0 : Nat) + (List.take (IntKind.i64.wrap (r * c)).toNat (List.drop (0 : Nat) (r8.dg.sv xs (IntKind.i64.wrap (r * c)).toNat a.toNat s))).length) (0 : Nat) (1 : Nat)], ver := (0 : Nat) }, { c := BC.typ (Cont.ints IntKind.i64 (List.take (0 : Nat) (List.replicate (0 : Nat) (0 : Int)) ++ List.take (IntKind.i64.wrap (r * c)).toNat (List.drop (0 : Nat) (r8.dg.sv xs (IntKind.i64.wrap (r * c)).toNat a.toNat s)))), ver := (0 : Nat) }]) else none else none else bif decide (xs.length = xs.length ∧ xs.length ≤ (1000000 : Nat) ∧ (0 : Int) ≤ (↑(a.toNat + (IntKind.i64.wrap (r * c)).toNat) : Int) + (1 : Int) ∧ (↑(a.toNat + (IntKind.i64.wrap (r * c)).toNat) : Int) + (1 : Int) ≤ (1000 : Int) ∧ (0 : Int) ≤ IntKind.i64.wrap (r * c) ∧ IntKind.i64.wrap (r * c) ≤ (100 : Int)) && (true && (true && true)) then bif true && true && (true && true && (true && true && (true && true && true))) then bif true && true && (true && true && (true && true && (true && true && true))) && true then some (AVal.agg [AVal.int IntKind.i64 r, AVal.int IntKind.i64 c, AVal.own ((2 : Nat) + (0 : Nat)) (0 : Nat) (IntKind.i64.wrap (r * c)).toNat (0 : Nat) (1 : Nat), AVal.own ((1 : Nat) + (1 : Nat) + (1 : Nat) + (1 : Nat) + (0 : Nat)) (0 : Nat) (IntKind.i64.wrap (r * c)).toNat (0 : Nat) (1 : Nat)], [{ c := BC.cells [AVal.ro (Cont.ints IntKind.u8 xs) xs.length (1 : Nat), AVal.int IntKind.i64 (↑(((↑(a.toNat + (IntKind.i64.wrap (r * c)).toNat) : Int) + (1 : Int)).toNat + (IntKind.i64.wrap (r * c)).toNat) : Int), AVal.int IntKind.u64 (r8.sd.sv xs (IntKind.i64.wrap (r * c)).toNat ((↑(a.toNat + (IntKind.i64.wrap (r * c)).toNat) : Int) + (1 : Int)).toNat (r8.seed.sv xs (↑(a.toNat + (IntKind.i64.wrap (r * c)).toNat) : Int).toNat (r8.sd.sv xs (IntKind.i64.wrap (r * c)).toNat a.toNat s)))], ver := (0 : Nat) }, { c := BC.cells [AVal.int IntKind.i64 r, AVal.int IntKind.i64 c, AVal.own ((2 : Nat) + (0 : Nat)) (0 : Nat) (IntKind.i64.wrap (r * c)).toNat (0 : Nat) (1 : Nat), AVal.own ((1 : Nat) + (1 : Nat) + (1 : Nat) + (1 : Nat) + (0 : Nat)) (0 : Nat) (IntKind.i64.wrap (r * c)).toNat (0 : Nat) (1 : Nat)], ver := (0 : Nat) }, { c := BC.typ (Cont.ints IntKind.i64 (r8.dg.sv xs (IntKind.i64.wrap (r * c)).toNat a.toNat s)), ver := (0 : Nat) }, { c := BC.cells [AVal.int IntKind.i64 r, AVal.int IntKind.i64 c, AVal.own ((2 : Nat) + (0 : Nat)) (0 : Nat) (IntKind.i64.wrap (r * c)).toNat (0 : Nat) (1 : Nat), AVal.own ((1 : Nat) + (1 : Nat) + (1 : Nat) + (1 : Nat) + (0 : Nat)) (0 : Nat) (IntKind.i64.wrap (r * c)).toNat (0 : Nat) (1 : Nat)], ver := (0 : Nat) }, { c := BC.typ (Cont.ints IntKind.i64 (r8.dg.sv xs (IntKind.i64.wrap (r * c)).toNat ((↑(a.toNat + (IntKind.i64.wrap (r * c)).toNat) : Int) + (1 : Int)).toNat (r8.seed.sv xs (↑(a.toNat + (IntKind.i64.wrap (r * c)).toNat) : Int).toNat (r8.sd.sv xs (IntKind.i64.wrap (r * c)).toNat a.toNat s)))), ver := (0 : Nat) }]) else none else none else none else none else none else none) := by kernel_rfl
theorem round1z (xs as_ : List Int) (r c : Nat) (a s : Int) (qa : Nat) (i f n : Nat) :
  L1 f (n + 1) (mkS 80 [(6, .ptr 1 0 0), (7, .ptr 3 0 0), (8, .int .i64 i)] [⟨.cells [.ro (.ints .u8 xs) xs.length 1, .int .i64 a, .int .u64 s], 0⟩, ⟨.cells [.int .i64 0, .int .i64 0, .nils, .nils], 0⟩, ⟨.typ (.ints .i64 as_), 0⟩, ⟨.cells [.int .i64 r, .int .i64 c, .own 2 0 qa 0 1, .nils], 0⟩])
  = (bif true && true then bif decide ((↑i : Int) < (↑qa : Int)) then bif true && true then bif true && true then bif true && (decide ((0 : Int) ≤ (↑i : Int)) && decide ((↑i : Int) < (↑qa : Int))) then bif true && decide ((↑i : Int).toNat < as_.length) then bif (1 : Nat) == (1 : Nat) && (1 : Nat) == (1 : Nat) && (true && true && (decide ((0 : Nat) < (List.take (1 : Nat) (List.drop (0 : Nat) ((List.replicate (1 : Nat) (0 : Int)).set (0 : Nat) (IntKind.i64.wrap ((0 : Int) - gz as_ (↑i : Int).toNat))))).length) && (decide ((List.take (1 : Nat) (List.drop (0 : Nat) ((List.replicate (1 : Nat) (0 : Int)).set (0 : Nat) (IntKind.i64.wrap ((0 : Int) - gz as_ (↑i : Int).toNat))))).length ≤ (4611686018427387904 : Nat)) && decide ((List.take (1 : Nat) (List.drop (0 : Nat) ((List.replicate (1 : Nat) (0 : Int)).set (0 : Nat) (IntKind.i64.wrap ((0 : Int) - gz as_ (↑i : Int).toNat))))).length * (8 : Nat) ≤ (140737488355328 : Nat))))) then L1 f n (mkS (80 : Nat) [((6 : Nat), AVal.ptr (1 : Nat) (0 : Nat) (0 : Nat)), ((7 : Nat), AVal.ptr (3 : Nat) (0 : Nat) (0 : Nat)), ((8 : Nat), AVal.int IntKind.i64 (IntKind.i64.wrap ((↑i : Int) + (1 : Int))))] [{ c := BC.cells [AVal.ro (Cont.ints IntKind.u8 xs) xs.length (1 : Nat), AVal.int IntKind.i64 a, AVal.int IntKind.u64 s], ver := (0 : Nat) }, { c := BC.cells [AVal.int IntKind.i64 (0 : Int), AVal.int IntKind.i64 (0 : Int), AVal.nils, AVal.nils], ver := (0 : Nat) }, { c := BC.typ (Cont.ints IntKind.i64 as_), ver := (0 : Nat) }, { c := BC.cells [AVal.int IntKind.i64 (↑r : Int), AVal.int IntKind.i64 (↑c : Int), AVal.own (2 : Nat) (0 : Nat) qa (0 : Nat) (1 : Nat), AVal.own ((1 : Nat) + (1 : Nat) + (1 : Nat) + (1 : Nat) + (1 : Nat)) (0 : Nat) (List.take (1 : Nat) (List.drop (0 : Nat) ((List.replicate (1 : Nat) (0 : Int)).set (0 : Nat) (IntKind.i64.wrap ((0 : Int) - gz as_ (↑i : Int).toNat))))).length (0 : Nat) (1 : Nat)], ver := (0 : Nat) }, { c := BC.typ (Cont.ints IntKind.i64 ((List.replicate (1 : Nat) (0 : Int)).set (0 : Nat) (IntKind.i64.wrap ((0 : Int) - gz as_ (↑i : Int).toNat)))), ver := (0 : Nat) }, { c := BC.typ (Cont.ints IntKind.i64 (List.take (1 : Nat) (List.drop (0 : Nat) ((List.replicate (1 : Nat) (0 : Int)).set (0 : Nat) (IntKind.i64.wrap ((0 : Int) - gz as_ (↑i : Int).toNat)))))), ver := (0 : Nat) }]) else none else none else none else none else none else bif true && true && (true && true && (true && true && (true && true && true))) then bif true && true && (true && true && (true && true && (true && true && true))) && true then some (AVal.agg [AVal.int IntKind.i64 (↑r : Int), AVal.int IntKind.i64 (↑c : Int), AVal.own (2 : Nat) (0 : Nat) qa (0 : Nat) (1 : Nat), AVal.nils], [{ c := BC.cells [AVal.ro (Cont.ints IntKind.u8 xs) xs.length (1 : Nat), AVal.int IntKind.i64 a, AVal.int IntKind.u64 s], ver := (0 : Nat) }, { c := BC.cells [AVal.int IntKind.i64 (↑r : Int), AVal.int IntKind.i64 (↑c : Int), AVal.own (2 : Nat) (0 : Nat) qa (0 : Nat) (1 : Nat), AVal.nils], ver := (0 : Nat) }, { c := BC.typ (Cont.ints IntKind.i64 as_), ver := (0 : Nat) }, { c := BC.cells [AVal.int IntKind.i64 (↑r : Int), AVal.int IntKind.i64 (↑c : Int), AVal.own (2 : Nat) (0 : Nat) qa (0 : Nat) (1 : Nat), AVal.nils], ver := (0 : Nat) }]) else none else none else none) := by kernel_rfl
theorem round1 (xs as_ : List Int) (r c : Nat) (a s : Int) (qa : Nat) (bs : List Int) (u : Int) (q i f n : Nat) :
  L1 f (n + 1) (mkS 80 [(6, .ptr 1 0 0), (7, .ptr 3 0 0), (8, .int .i64 i)] [⟨.cells [.ro (.ints .u8 xs) xs.length 1, .int .i64 a, .int .u64 s], 0⟩, ⟨.cells [.int .i64 0, .int .i64 0, .nils, .nils], 0⟩, ⟨.typ (.ints .i64 as_), 0⟩, ⟨.cells [.int .i64 r, .int .i64 c, .own 2 0 qa 0 1, .own 5 0 q 0 1], 0⟩, ⟨.typ (.ints .i64 [u]), 0⟩, ⟨.typ (.ints .i64 bs), 0⟩])
  = (bif true && true then bif decide ((↑i : Int) < (↑qa : Int)) then bif true && true then bif true && true then bif true && (decide ((0 : Int) ≤ (↑i : Int)) && decide ((↑i : Int) < (↑qa : Int))) then bif true && decide ((↑i : Int).toNat < as_.length) then bif (1 : Nat) == (1 : Nat) && (1 : Nat) == (1 : Nat) && (true && (true && true) && (true && true && (decide (q + (List.take (1 : Nat) (List.drop (0 : Nat) ((List.replicate (1 : Nat) (0 : Int)).set (0 : Nat) (IntKind.i64.wrap ((0 : Int) - gz as_ (↑i : Int).toNat))))).length ≤ (4611686018427387904 : Nat)) && decide ((q + (List.take (1 : Nat) (List.drop (0 : Nat) ((List.replicate (1 : Nat) (0 : Int)).set (0 : Nat) (IntKind.i64.wrap ((0 : Int) - gz as_ (↑i : Int).toNat))))).length) * (8 : Nat) ≤ (140737488355328 : Nat))))) then L1 f n (mkS (80 : Nat) [((6 : Nat), AVal.ptr (1 : Nat) (0 : Nat) (0 : Nat)), ((7 : Nat), AVal.ptr (3 : Nat) (0 : Nat) (0 : Nat)), ((8 : Nat), AVal.int IntKind.i64 (IntKind.i64.wrap ((↑i : Int) + (1 : Int))))] [{ c := BC.cells [AVal.ro (Cont.ints IntKind.u8 xs) xs.length (1 : Nat), AVal.int IntKind.i64 a, AVal.int IntKind.u64 s], ver := (0 : Nat) }, { c := BC.cells [AVal.int IntKind.i64 (0 : Int), AVal.int IntKind.i64 (0 : Int), AVal.nils, AVal.nils], ver := (0 : Nat) }, { c := BC.typ (Cont.ints IntKind.i64 as_), ver := (0 : Nat) }, { c := BC.cells [AVal.int IntKind.i64 (↑r : Int), AVal.int IntKind.i64 (↑c : Int), AVal.own (2 : Nat) (0 : Nat) qa (0 : Nat) (1 : Nat), AVal.own (5 : Nat) (0 : Nat) (q + (List.take (1 : Nat) (List.drop (0 : Nat) ((List.replicate (1 : Nat) (0 : Int)).set (0 : Nat) (IntKind.i64.wrap ((0 : Int) - gz as_ (↑i : Int).toNat))))).length) (0 : Nat) (1 : Nat)], ver := (0 : Nat) }, { c := BC.typ (Cont.ints IntKind.i64 [u]), ver := (0 : Nat) }, { c := BC.typ (Cont.ints IntKind.i64 (List.take q bs ++ List.take (1 : Nat) (List.drop (0 : Nat) ((List.replicate (1 : Nat) (0 : Int)).set (0 : Nat) (IntKind.i64.wrap ((0 : Int) - gz as_ (↑i : Int).toNat)))))), ver := (0 : Nat) }]) else none else none else none else none else none else bif true && true && (true && true && (true && true && (true && true && true))) then bif true && true && (true && true && (true && true && (true && true && true))) && true then some (AVal.agg [AVal.int IntKind.i64 (↑r : Int), AVal.int IntKind.i64 (↑c : Int), AVal.own (2 : Nat) (0 : Nat) qa (0 : Nat) (1 : Nat), AVal.own (5 : Nat) (0 : Nat) q (0 : Nat) (1 : Nat)], [{ c := BC.cells [AVal.ro (Cont.ints IntKind.u8 xs) xs.length (1 : Nat), AVal.int IntKind.i64 a, AVal.int IntKind.u64 s], ver := (0 : Nat) }, { c := BC.cells [AVal.int IntKind.i64 (↑r : Int), AVal.int IntKind.i64 (↑c : Int), AVal.own (2 : Nat) (0 : Nat) qa (0 : Nat) (1 : Nat), AVal.own (5 : Nat) (0 : Nat) q (0 : Nat) (1 : Nat)], ver := (0 : Nat) }, { c := BC.typ (Cont.ints IntKind.i64 as_), ver := (0 : Nat) }, { c := BC.cells [AVal.int IntKind.i64 (↑r : Int), AVal.int IntKind.i64 (↑c : Int), AVal.own (2 : Nat) (0 : Nat) qa (0 : Nat) (1 : Nat), AVal.own (5 : Nat) (0 : Nat) q (0 : Nat) (1 : Nat)], ver := (0 : Nat) }, { c := BC.typ (Cont.ints IntKind.i64 [u]), ver := (0 : Nat) }, { c := BC.typ (Cont.ints IntKind.i64 bs), ver := (0 : Nat) }]) else none else none else none) := by kernel_rfl
theorem round3 (xs as_ : List Int) (r c : Nat) (a s : Int) (qa : Nat) (bs : List Int) (q i f n : Nat) :
  L3 f (n + 1) (mkS 80 [(0, .ptr 0 0 0), (1, .int .i64 r), (2, .int .i64 c), (6, .ptr 1 0 0), (7, .ptr 3 0 0), (9, .int .i64 i)] [⟨.cells [.ro (.ints .u8 xs) xs.length 1, .int .i64 a, .int .u64 s], 0⟩, ⟨.cells [.int .i64 0, .int .i64 0, .nils, .nils], 0⟩, ⟨.typ (.ints .i64 as_), 0⟩, ⟨.cells [.int .i64 r, .int .i64 c, .own 2 0 qa 0 1, .own 4 0 q 0 1], 0⟩, ⟨.typ (.ints .i64 bs), 0⟩])
  = (bif decide ((↑i : Int) < (↑r : Int)) then bif decide (xs.length = xs.length ∧ xs.length ≤ (1000000 : Nat) ∧ (0 : Int) ≤ a ∧ a ≤ (1000000 : Int) ∧ (2 : Int) ≤ (9 : Int) ∧ (9 : Int) ≤ (200 : Int)) && (true && (true && true)) then L5 f n f (mkS (80 : Nat) [((0 : Nat), AVal.ptr (0 : Nat) (0 : Nat) (0 : Nat)), ((1 : Nat), AVal.int IntKind.i64 (↑r : Int)), ((2 : Nat), AVal.int IntKind.i64 (↑c : Int)), ((6 : Nat), AVal.ptr (1 : Nat) (0 : Nat) (0 : Nat)), ((7 : Nat), AVal.ptr (3 : Nat) (0 : Nat) (0 : Nat)), ((9 : Nat), AVal.int IntKind.i64 (↑i : Int)), ((10 : Nat), AVal.int IntKind.i64 ((r8.nx.sv xs a.toNat s).tmod (9 : Int))), ((11 : Nat), AVal.int IntKind.i64 (0 : Int))] [{ c := BC.cells [AVal.ro (Cont.ints IntKind.u8 xs) xs.length (1 : Nat), AVal.int IntKind.i64 (a + (1 : Int)), AVal.int IntKind.u64 (r8.seed.sv xs a.toNat s)], ver := (0 : Nat) }, { c := BC.cells [AVal.int IntKind.i64 (0 : Int), AVal.int IntKind.i64 (0 : Int), AVal.nils, AVal.nils], ver := (0 : Nat) }, { c := BC.typ (Cont.ints IntKind.i64 as_), ver := (0 : Nat) }, { c := BC.cells [AVal.int IntKind.i64 (↑r : Int), AVal.int IntKind.i64 (↑c : Int), AVal.own (2 : Nat) (0 : Nat) qa (0 : Nat) (1 : Nat), AVal.own (4 : Nat) (0 : Nat) q (0 : Nat) (1 : Nat)], ver := (0 : Nat) }, { c := BC.typ (Cont.ints IntKind.i64 bs), ver := (0 : Nat) }]) else none else bif true && true && (true && true && (true && true && (true && true && true))) then bif true && true && (true && true && (true && true && (true && true && true))) && true then some (AVal.agg [AVal.int IntKind.i64 (↑r : Int), AVal.int IntKind.i64 (↑c : Int), AVal.own (2 : Nat) (0 : Nat) qa (0 : Nat) (1 : Nat), AVal.own (4 : Nat) (0 : Nat) q (0 : Nat) (1 : Nat)], [{ c := BC.cells [AVal.ro (Cont.ints IntKind.u8 xs) xs.length (1 : Nat), AVal.int IntKind.i64 a, AVal.int IntKind.u64 s], ver := (0 : Nat) }, { c := BC.cells [AVal.int IntKind.i64 (↑r : Int), AVal.int IntKind.i64 (↑c : Int), AVal.own (2 : Nat) (0 : Nat) qa (0 : Nat) (1 : Nat), AVal.own (4 : Nat) (0 : Nat) q (0 : Nat) (1 : Nat)], ver := (0 : Nat) }, { c := BC.typ (Cont.ints IntKind.i64 as_), ver := (0 : Nat) }, { c := BC.cells [AVal.int IntKind.i64 (↑r : Int), AVal.int IntKind.i64 (↑c : Int), AVal.own (2 : Nat) (0 : Nat) qa (0 : Nat) (1 : Nat), AVal.own (4 : Nat) (0 : Nat) q (0 : Nat) (1 : Nat)], ver := (0 : Nat) }, { c := BC.typ (Cont.ints IntKind.i64 bs), ver := (0 : Nat) }]) else none else none) := by kernel_rfl
theorem round5 (xs as_ : List Int) (r c : Nat) (a s : Int) (qa : Nat) (bs : List Int) (w : Int) (q i k f n n2 : Nat) :
  L5 f n (n2 + 1) (mkS 80 [(0, .ptr 0 0 0), (1, .int .i64 r), (2, .int .i64 c), (6, .ptr 1 0 0), (7, .ptr 3 0 0), (9, .int .i64 i), (10, .int .i64 w), (11, .int .i64 k)] [⟨.cells [.ro (.ints .u8 xs) xs.length 1, .int .i64 a, .int .u64 s], 0⟩, ⟨.cells [.int .i64 0, .int .i64 0, .nils, .nils], 0⟩, ⟨.typ (.ints .i64 as_), 0⟩, ⟨.cells [.int .i64 r, .int .i64 c, .own 2 0 qa 0 1, .own 4 0 q 0 1], 0⟩, ⟨.typ (.ints .i64 bs), 0⟩])
  = (bif decide ((↑k : Int) < (↑c : Int)) then bif true && true then bif true && (decide ((0 : Int) ≤ IntKind.i64.wrap (IntKind.i64.wrap ((↑i : Int) * (↑c : Int)) + (↑k : Int))) && decide (IntKind.i64.wrap (IntKind.i64.wrap ((↑i : Int) * (↑c : Int)) + (↑k : Int)) < (↑q : Int))) then bif true && decide ((IntKind.i64.wrap (IntKind.i64.wrap ((↑i : Int) * (↑c : Int)) + (↑k : Int))).toNat < bs.length) then bif true && (decide ((0 : Int) ≤ IntKind.i64.wrap (IntKind.i64.wrap ((↑i : Int) * (↑c : Int)) + (↑k : Int))) && decide (IntKind.i64.wrap (IntKind.i64.wrap ((↑i : Int) * (↑c : Int)) + (↑k : Int)) < (↑q : Int))) then bif true && (true && (decide ((IntKind.i64.wrap (IntKind.i64.wrap ((↑i : Int) * (↑c : Int)) + (↑k : Int))).toNat < bs.length) && true)) then L5 f n n2 (mkS (80 : Nat) [((0 : Nat), AVal.ptr (0 : Nat) (0 : Nat) (0 : Nat)), ((1 : Nat), AVal.int IntKind.i64 (↑r : Int)), ((2 : Nat), AVal.int IntKind.i64 (↑c : Int)), ((6 : Nat), AVal.ptr (1 : Nat) (0 : Nat) (0 : Nat)), ((7 : Nat), AVal.ptr (3 : Nat) (0 : Nat) (0 : Nat)), ((9 : Nat), AVal.int IntKind.i64 (↑i : Int)), ((10 : Nat), AVal.int IntKind.i64 w), ((11 : Nat), AVal.int IntKind.i64 (IntKind.i64.wrap ((↑k : Int) + (1 : Int))))] [{ c := BC.cells [AVal.ro (Cont.ints IntKind.u8 xs) xs.length (1 : Nat), AVal.int IntKind.i64 a, AVal.int IntKind.u64 s], ver := (0 : Nat) }, { c := BC.cells [AVal.int IntKind.i64 (0 : Int), AVal.int IntKind.i64 (0 : Int), AVal.nils, AVal.nils], ver := (0 : Nat) }, { c := BC.typ (Cont.ints IntKind.i64 as_), ver := (0 : Nat) }, { c := BC.cells [AVal.int IntKind.i64 (↑r : Int), AVal.int IntKind.i64 (↑c : Int), AVal.own (2 : Nat) (0 : Nat) qa (0 : Nat) (1 : Nat), AVal.own (4 : Nat) (0 : Nat) q (0 : Nat) (1 : Nat)], ver := (0 : Nat) }, { c := BC.typ (Cont.ints IntKind.i64 (bs.set (IntKind.i64.wrap (IntKind.i64.wrap ((↑i : Int) * (↑c : Int)) + (↑k : Int))).toNat (IntKind.i64.wrap (gz bs (IntKind.i64.wrap (IntKind.i64.wrap ((↑i : Int) * (↑c : Int)) + (↑k : Int))).toNat + w)))), ver := (0 : Nat) }]) else none else none else none else none else none else L3 f n (mkS (80 : Nat) [((0 : Nat), AVal.ptr (0 : Nat) (0 : Nat) (0 : Nat)), ((1 : Nat), AVal.int IntKind.i64 (↑r : Int)), ((2 : Nat), AVal.int IntKind.i64 (↑c : Int)), ((6 : Nat), AVal.ptr (1 : Nat) (0 : Nat) (0 : Nat)), ((7 : Nat), AVal.ptr (3 : Nat) (0 : Nat) (0 : Nat)), ((9 : Nat), AVal.int IntKind.i64 (IntKind.i64.wrap ((↑i : Int) + (1 : Int))))] [{ c := BC.cells [AVal.ro (Cont.ints IntKind.u8 xs) xs.length (1 : Nat), AVal.int IntKind.i64 a, AVal.int IntKind.u64 s], ver := (0 : Nat) }, { c := BC.cells [AVal.int IntKind.i64 (0 : Int), AVal.int IntKind.i64 (0 : Int), AVal.nils, AVal.nils], ver := (0 : Nat) }, { c := BC.typ (Cont.ints IntKind.i64 as_), ver := (0 : Nat) }, { c := BC.cells [AVal.int IntKind.i64 (↑r : Int), AVal.int IntKind.i64 (↑c : Int), AVal.own (2 : Nat) (0 : Nat) qa (0 : Nat) (1 : Nat), AVal.own (4 : Nat) (0 : Nat) q (0 : Nat) (1 : Nat)], ver := (0 : Nat) }, { c := BC.typ (Cont.ints IntKind.i64 bs), ver := (0 : Nat) }])) := by kernel_rfl
theorem loop1 (xs as_ : List Int) (r c : Nat) (a s : Int) (qa : Nat) (u : Int) (f : Nat) (ha : as_.length = qa) (hq : qa ≤ 100) : ∀ (d i n : Nat), i + d = qa → 1 ≤ i → d < n →
    L1 f n (mkS 80 [(6, .ptr 1 0 0), (7, .ptr 3 0 0), (8, .int .i64 ((i : Nat) : Int))] [⟨.cells [.ro (.ints .u8 xs) xs.length 1, .int .i64 a, .int .u64 s], 0⟩, ⟨.cells [.int .i64 0, .int .i64 0, .nils, .nils], 0⟩, ⟨.typ (.ints .i64 as_), 0⟩, ⟨.cells [.int .i64 r, .int .i64 c, .own 2 0 qa 0 1, .own 5 0 (i) 0 1], 0⟩, ⟨.typ (.ints .i64 [u]), 0⟩, ⟨.typ (.ints .i64 ((r8.neg.sv as_).take i)), 0⟩]) = some (.agg [.int .i64 r, .int .i64 c, .own 2 0 qa 0 1, .own 5 0 qa 0 1], [⟨.cells [.ro (.ints .u8 xs) xs.length 1, .int .i64 a, .int .u64 s], 0⟩, ⟨.cells [.int .i64 r, .int .i64 c, .own 2 0 qa 0 1, .own 5 0 qa 0 1], 0⟩, ⟨.typ (.ints .i64 as_), 0⟩, ⟨.cells [.int .i64 r, .int .i64 c, .own 2 0 qa 0 1, .own 5 0 qa 0 1], 0⟩, ⟨.typ (.ints .i64 [u]), 0⟩, ⟨.typ (.ints .i64 (r8.neg.sv as_)), 0⟩]) := by
  intro d
  induction d with
  | zero =>
    intro i n hi h1 hn
    obtain ⟨n, rfl⟩ : ∃ k, n = k + 1 := ⟨n - 1, by omega⟩
    obtain rfl : i = qa := by omega
    have e : (r8.neg.sv as_).take i = r8.neg.sv as_ := List.take_of_length_le (by rw [r8.neg.sv, List.length_map]; omega)
    rw [round1, e]
    simp -implicitDefEqProofs only [Int.lt_irrefl, decide_true, decide_false, Bool.and_self, Bool.or_self, Bool.and_true, Bool.true_and, Bool.and_false, Bool.false_and, Bool.or_true, Bool.true_or, Bool.or_false, Bool.false_or, Bool.not_true, Bool.not_false, cond_true, cond_false]
  | succ d ih =>
    intro i n hi h1 hn
    obtain ⟨n, rfl⟩ : ∃ k, n = k + 1 := ⟨n - 1, by omega⟩
    have c1 : (i : Int) < (qa : Int) := by omega
    have c0 : (0 : Int) ≤ (i : Int) := Int.natCast_nonneg _
    have c2 : i < as_.length := by omega
    have wi : IntKind.i64.wrap ((i : Int) + 1) = ((i + 1 : Nat) : Int) := wrap_nat i (by omega)
    have k0 : i + 1 ≤ 4611686018427387904 := by omega
    have k1 : (i + 1) * 8 ≤ 140737488355328 := by omega
    have e : (r8.neg.sv as_).take i ++ [IntKind.i64.wrap (0 - gz as_ i)] = (r8.neg.sv as_).take (i + 1) := by
      rw [List.take_add_one, List.getElem?_eq_getElem (by rw [r8.neg.sv, List.length_map]; omega), gz_eq c2]
      simp [r8.neg.sv]
    have ht : ((r8.neg.sv as_).take i).take i = (r8.neg.sv as_).take i := by rw [List.take_take, Nat.min_self]
    have hih := ih (i + 1) n (by omega) (by omega) (by omega)
    rw [round1]
    simp -implicitDefEqProofs only [c1, c0, c2, wi, k0, k1, e, ht, one_set, List.length_singleton, Nat.reduceBEq, Int.toNat_natCast, decide_true, decide_false, Bool.and_self, Bool.or_self, Bool.and_true, Bool.true_and, Bool.and_false, Bool.false_and, Bool.or_true, Bool.true_or, Bool.or_false, Bool.false_or, Bool.not_true, Bool.not_false, cond_true, cond_false]
    exact hih
theorem all1 (xs as_ : List Int) (r c : Nat) (a s : Int) (qa : Nat) (f : Nat) (ha : as_.length = qa) (hq : qa ≤ 100) (h0 : 0 < qa) (hf : 200 < f) : L1 f f (mkS 80 [(6, .ptr 1 0 0), (7, .ptr 3 0 0), (8, .int .i64 ((0 : Nat) : Int))] [⟨.cells [.ro (.ints .u8 xs) xs.length 1, .int .i64 a, .int .u64 s], 0⟩, ⟨.cells [.int .i64 0, .int .i64 0, .nils, .nils], 0⟩, ⟨.typ (.ints .i64 as_), 0⟩, ⟨.cells [.int .i64 r, .int .i64 c, .own 2 0 qa 0 1, .nils], 0⟩]) = some (.agg [.int .i64 r, .int .i64 c, .own 2 0 qa 0 1, .own 5 0 qa 0 1], [⟨.cells [.ro (.ints .u8 xs) xs.length 1, .int .i64 a, .int .u64 s], 0⟩, ⟨.cells [.int .i64 r, .int .i64 c, .own 2 0 qa 0 1, .own 5 0 qa 0 1], 0⟩, ⟨.typ (.ints .i64 as_), 0⟩, ⟨.cells [.int .i64 r, .int .i64 c, .own 2 0 qa 0 1, .own 5 0 qa 0 1], 0⟩, ⟨.typ (.ints .i64 [IntKind.i64.wrap (0 - gz as_ 0)]), 0⟩, ⟨.typ (.ints .i64 (r8.neg.sv as_)), 0⟩]) := by
  obtain ⟨m, hm⟩ : ∃ k, f = k + 1 := ⟨f - 1, by omega⟩
  have c1 : ((0 : Nat) : Int) < (qa : Int) := by omega
  have c0 : (0 : Int) ≤ ((0 : Nat) : Int) := by omega
  have c2 : 0 < as_.length := by omega
  have wi : IntKind.i64.wrap (((0 : Nat) : Int) + 1) = ((1 : Nat) : Int) := by decide
  have k0 : 1 ≤ 4611686018427387904 := by omega
  have k1 : 1 * 8 ≤ 140737488355328 := by omega
  have z1 : 0 < 1 := by omega
  have e : [IntKind.i64.wrap (0 - gz as_ 0)] = (r8.neg.sv as_).take 1 := by
    cases as_ with
    | nil => simp at c2
    | cons y t => rfl
  have hl := loop1 xs as_ r c a s qa (IntKind.i64.wrap (0 - gz as_ 0)) f ha hq (qa - 1) 1 m (by omega) (by omega) (by omega)
  conv => lhs; arg 2; rw [hm]
  rw [round1z]
  simp -implicitDefEqProofs only [c1, c0, c2, wi, k0, k1, z1, one_set, List.length_singleton, Nat.reduceBEq, Int.toNat_natCast, decide_true, decide_false, Bool.and_self, Bool.or_self, Bool.and_true, Bool.true_and, Bool.and_false, Bool.false_and, Bool.or_true, Bool.true_or, Bool.or_false, Bool.false_or, Bool.not_true, Bool.not_false, cond_true, cond_false]
  rw [← e] at hl
  exact hl
theorem loop5 (xs as_ : List Int) (r c : Nat) (a s : Int) (qa : Nat) (w : Int) (q i f n : Nat) (hi : i < r) (hr : r ≤ 6) (hc : c ≤ 6) (hq : q = r * c) : ∀ (d k n2 : Nat) (bs : List Int), k + d = c → d < n2 → bs.length = q →
    L5 f n n2 (mkS 80 [(0, .ptr 0 0 0), (1, .int .i64 r), (2, .int .i64 c), (6, .ptr 1 0 0), (7, .ptr 3 0 0), (9, .int .i64 ((i : Nat) : Int)), (10, .int .i64 w), (11, .int .i64 ((k : Nat) : Int))] [⟨.cells [.ro (.ints .u8 xs) xs.length 1, .int .i64 a, .int .u64 s], 0⟩, ⟨.cells [.int .i64 0, .int .i64 0, .nils, .nils], 0⟩, ⟨.typ (.ints .i64 as_), 0⟩, ⟨.cells [.int .i64 r, .int .i64 c, .own 2 0 qa 0 1, .own 4 0 q 0 1], 0⟩, ⟨.typ (.ints .i64 bs), 0⟩]) = L3 f n (mkS 80 [(0, .ptr 0 0 0), (1, .int .i64 r), (2, .int .i64 c), (6, .ptr 1 0 0), (7, .ptr 3 0 0), (9, .int .i64 ((i + 1 : Nat) : Int))] [⟨.cells [.ro (.ints .u8 xs) xs.length 1, .int .i64 a, .int .u64 s], 0⟩, ⟨.cells [.int .i64 0, .int .i64 0, .nils, .nils], 0⟩, ⟨.typ (.ints .i64 as_), 0⟩, ⟨.cells [.int .i64 r, .int .i64 c, .own 2 0 qa 0 1, .own 4 0 q 0 1], 0⟩, ⟨.typ (.ints .i64 (r8.ar.sv w d (i * c + k) bs)), 0⟩]) := by
  intro d
  induction d with
  | zero =>
    intro k n2 bs hk hn hb
    obtain ⟨n2, rfl⟩ : ∃ k, n2 = k + 1 := ⟨n2 - 1, by omega⟩
    obtain rfl : k = c := by omega
    have wi : IntKind.i64.wrap ((i : Int) + 1) = ((i + 1 : Nat) : Int) := wrap_nat i (by omega)
    rw [round5]
    simp -implicitDefEqProofs only [Int.lt_irrefl, wi, r8.ar.sv, decide_true, decide_false, Bool.and_self, Bool.or_self, Bool.and_true, Bool.true_and, Bool.and_false, Bool.false_and, Bool.or_true, Bool.true_or, Bool.or_false, Bool.false_or, Bool.not_true, Bool.not_false, cond_true, cond_false]
  | succ d ih =>
    intro k n2 bs hk hn hb
    obtain ⟨n2, rfl⟩ : ∃ k, n2 = k + 1 := ⟨n2 - 1, by omega⟩
    have hkc : k < c := by omega
    have c1 : (k : Int) < (c : Int) := by omega
    have hlt := gm.ix_lt (R := r) (C := c) hi hkc
    have h36 := gm.le_36 hr hc
    have em : (i : Int) * (c : Int) = ((i * c : Nat) : Int) := by simp
    have ee : ((i * c : Nat) : Int) + (k : Int) = ((i * c + k : Nat) : Int) := by simp
    have w1 : IntKind.i64.wrap ((i * c : Nat) : Int) = ((i * c : Nat) : Int) := IntWalk.i64_in _ (by omega)
    have w2 : IntKind.i64.wrap ((i * c + k : Nat) : Int) = ((i * c + k : Nat) : Int) := IntWalk.i64_in _ (by omega)
    have wk : IntKind.i64.wrap ((k : Int) + 1) = ((k + 1 : Nat) : Int) := wrap_nat k (by omega)
    have p0 : (0 : Int) ≤ ((i * c + k : Nat) : Int) := Int.natCast_nonneg _
    have p1 : ((i * c + k : Nat) : Int) < (q : Int) := by omega
    have p2 : i * c + k < bs.length := by omega
    have hih := ih (k + 1) n2 (bs.set (i * c + k) (IntKind.i64.wrap (gz bs (i * c + k) + w))) (by omega) (by omega) (by rw [List.length_set]; exact hb)
    rw [round5]
    simp -implicitDefEqProofs only [c1, em, w1, ee, w2, wk, p0, p1, p2, r8.ar.sv, Int.toNat_natCast, decide_true, decide_false, Bool.and_self, Bool.or_self, Bool.and_true, Bool.true_and, Bool.and_false, Bool.false_and, Bool.or_true, Bool.true_or, Bool.or_false, Bool.false_or, Bool.not_true, Bool.not_false, cond_true, cond_false]
    exact hih
theorem loop3 (xs as_ : List Int) (r c : Nat) (qa : Nat) (q f : Nat) (hx : xs.length ≤ 1000000) (hr : r ≤ 6) (hc : c ≤ 6) (hq : q = r * c) (hf : 200 < f) : ∀ (d i n a : Nat) (s : Int) (bs : List Int), i + d = r → d < n → bs.length = q → a + d ≤ 1000 →
    L3 f n (mkS 80 [(0, .ptr 0 0 0), (1, .int .i64 r), (2, .int .i64 c), (6, .ptr 1 0 0), (7, .ptr 3 0 0), (9, .int .i64 ((i : Nat) : Int))] [⟨.cells [.ro (.ints .u8 xs) xs.length 1, .int .i64 ((a : Nat) : Int), .int .u64 s], 0⟩, ⟨.cells [.int .i64 0, .int .i64 0, .nils, .nils], 0⟩, ⟨.typ (.ints .i64 as_), 0⟩, ⟨.cells [.int .i64 r, .int .i64 c, .own 2 0 qa 0 1, .own 4 0 q 0 1], 0⟩, ⟨.typ (.ints .i64 bs), 0⟩]) = some (.agg [.int .i64 r, .int .i64 c, .own 2 0 qa 0 1, .own 4 0 q 0 1], [⟨.cells [.ro (.ints .u8 xs) xs.length 1, .int .i64 ((a + d : Nat) : Int), .int .u64 (r8.sd.sv xs d a s)], 0⟩, ⟨.cells [.int .i64 r, .int .i64 c, .own 2 0 qa 0 1, .own 4 0 q 0 1], 0⟩, ⟨.typ (.ints .i64 as_), 0⟩, ⟨.cells [.int .i64 r, .int .i64 c, .own 2 0 qa 0 1, .own 4 0 q 0 1], 0⟩, ⟨.typ (.ints .i64 (r8.al.sv xs c d i a s bs)), 0⟩]) := by
  intro d
  induction d with
  | zero =>
    intro i n a s bs hi hn hb ha
    obtain ⟨n, rfl⟩ : ∃ k, n = k + 1 := ⟨n - 1, by omega⟩
    obtain rfl : i = r := by omega
    rw [round3]
    simp -implicitDefEqProofs only [Int.lt_irrefl, r8.al.sv, r8.sd.sv, Nat.add_zero, decide_true, decide_false, Bool.and_self, Bool.or_self, Bool.and_true, Bool.true_and, Bool.and_false, Bool.false_and, Bool.or_true, Bool.true_or, Bool.or_false, Bool.false_or, Bool.not_true, Bool.not_false, cond_true, cond_false]
  | succ d ih =>
    intro i n a s bs hi hn hb ha
    obtain ⟨n, rfl⟩ : ∃ k, n = k + 1 := ⟨n - 1, by omega⟩
    have hir : i < r := by omega
    have c1 : (i : Int) < (r : Int) := by omega
    have a0 : (0 : Int) ≤ (a : Int) := Int.natCast_nonneg _
    have a1 : (a : Int) ≤ 1000000 := by omega
    have t1 : (2 : Int) ≤ 9 := by decide
    have t2 : (9 : Int) ≤ 200 := by decide
    have ea : (a : Int) + 1 = ((a + 1 : Nat) : Int) := by omega
    have h5 := loop5 xs as_ r c ((a + 1 : Nat) : Int) (r8.seed.sv xs a s) qa ((r8.nx.sv xs a s).tmod 9) q i f n hir hr hc hq c 0 f bs (by omega) (by omega) hb
    rw [Nat.add_zero] at h5
    have hih := ih (i + 1) n (a + 1) (r8.seed.sv xs a s) (r8.ar.sv ((r8.nx.sv xs a s).tmod 9) c (i * c) bs) (by omega) (by omega) (by rw [r8.ar_length]; exact hb) (by omega)
    rw [round3]
    simp -implicitDefEqProofs only [c1, hx, a0, a1, t1, t2, ea, Int.toNat_natCast, and_self, eq_self, decide_true, decide_false, Bool.and_self, Bool.or_self, Bool.and_true, Bool.true_and, Bool.and_false, Bool.false_and, Bool.or_true, Bool.true_or, Bool.or_false, Bool.false_or, Bool.not_true, Bool.not_false, cond_true, cond_false]
    rw [show a + (d + 1) = a + 1 + d from by omega]
    exact h5.trans hih
theorem runa : ∀ args H v new, Ra args H = some (true, v, new) → ∃ fuel, runFn Try.prog (orcW [⟨37, srcPick.R⟩, ⟨74, l02DrawGains.R⟩] []) hd Dr.std none fuel (bodyOf Try.f36) 80 [.cell 6 26] args H = some (v, new) := by
  intro args H v new h
  unfold Ra at h
  split at h
  · rename_i r c xs m a s
    simp only [Option.some.injEq, Prod.mk.injEq, decide_eq_true_eq, Bool.and_eq_true, Bool.not_eq_true'] at h
    obtain ⟨⟨⟨rfl, h1, rfl, rfl, h2, h3, h4, h5⟩, hc⟩, rfl, rfl⟩ := h
    obtain ⟨r, rfl⟩ : ∃ q : Nat, r = q := ⟨r.toNat, by omega⟩
    obtain ⟨c, rfl⟩ : ∃ q : Nat, c = q := ⟨c.toNat, by omega⟩
    obtain ⟨F, hF⟩ : ∃ F : Nat, F = 2000 := ⟨2000, rfl⟩
    refine ⟨F, ?_⟩
    rw [Int.toNat_natCast, Int.toNat_natCast] at hc ⊢
    have h36 := gm.le_36 (R := r) (C := c) (by omega) (by omega)
    have hpos : 0 < r * c := Nat.mul_pos (by omega) (by omega)
    have em : (r : Int) * (c : Int) = ((r * c : Nat) : Int) := by simp
    have w1 : IntKind.i64.wrap ((r * c : Nat) : Int) = ((r * c : Nat) : Int) := IntWalk.i64_in _ (by omega)
    have z0 : (0 : Int) ≤ 0 := Int.le_refl _
    have z1 : (0 : Int) ≤ 1000 := by decide
    have n0 : (0 : Int) ≤ ((r * c : Nat) : Int) := Int.natCast_nonneg _
    have n1 : ((r * c : Nat) : Int) ≤ 100 := by omega
    have n2 : ((r * c : Nat) : Int) ≤ 1000000 := by omega
    have n3 : ((r * c : Nat) : Int) + 1 = ((r * c + 1 : Nat) : Int) := by omega
    have n4 : (0 : Int) ≤ ((r * c + 1 : Nat) : Int) := Int.natCast_nonneg _
    have n5 : ((r * c + 1 : Nat) : Int) ≤ 1000 := by omega
    have t1 : (2 : Int) ≤ 4 := by decide
    have t2 : (4 : Int) ≤ 200 := by decide
    have lg : (r8.gA.sv xs (r * c)).length = r * c := r8.gA_length _ _
    have tk : (r8.gA.sv xs (r * c)).take (r * c) = r8.gA.sv xs (r * c) := List.take_of_length_le (by omega)
    have g1 : r * c ≤ 4611686018427387904 := by omega
    have g2 : r * c * 8 ≤ 140737488355328 := by omega
    have eg : r8.dg.sv xs (r * c) 0 0 = r8.gA.sv xs (r * c) := rfl
    have ep : (r8.nx.sv xs (r * c) (r8.sd.sv xs (r * c) 0 0)).tmod 4 = r8.p4.sv xs (r * c) := rfl
    have z2 : (0 : Int).toNat = 0 := rfl
    rw [start]
    simp -implicitDefEqProofs only [em, w1, h1, z0, z1, z2, n0, n1, n2, n3, n4, n5, t1, t2, eg, ep, hc, Int.toNat_natCast, Nat.zero_add, List.drop_zero, List.replicate_zero, List.take_nil, List.nil_append, tk, lg, g1, g2, Nat.reduceBEq, and_self, eq_self, decide_true, decide_false, Bool.and_self, Bool.or_self, Bool.and_true, Bool.true_and, Bool.and_false, Bool.false_and, Bool.or_true, Bool.true_or, Bool.or_false, Bool.false_or, Bool.not_true, Bool.not_false, cond_true, cond_false]
    exact all1 xs (r8.gA.sv xs (r * c)) r c ((r * c + 1 : Nat) : Int) (r8.seed.sv xs (r * c) (r8.sd.sv xs (r * c) 0 0)) (r * c) F lg (by omega) hpos (by omega)
  · cases h
theorem oka : EntWOk Try.prog ⟨36, Ra⟩ :=
  entw_ok mixed (A := (orcW [⟨37, srcPick.R⟩, ⟨74, l02DrawGains.R⟩] [])) (orcW_ok (by simp only [List.mem_cons, List.not_mem_nil, or_false, forall_eq_or_imp, forall_eq]; exact ⟨srcPick.ok, l02DrawGains.ok⟩) (by simp)) Try.func36 (by kernel_rfl) (by kernel_rfl) (n := 80) (ts := [.cell 6 26]) (hd := hd) (dr := Dr.std) (cut := none) (by kernel_rfl) (by kernel_rfl) (by kernel_rfl) runa
theorem runb : ∀ args H v new, Rb args H = some (true, v, new) → ∃ fuel, runFn Try.prog (orcW [⟨37, srcPick.R⟩, ⟨74, l02DrawGains.R⟩] []) hd Dr.std none fuel (bodyOf Try.f36) 80 [.cell 6 26] args H = some (v, new) := by
  intro args H v new h
  unfold Rb at h
  split at h
  · rename_i r c xs m a s
    simp only [Option.some.injEq, Prod.mk.injEq, decide_eq_true_eq, Bool.and_eq_true, Bool.not_eq_true'] at h
    obtain ⟨⟨⟨rfl, h1, rfl, rfl, h2, h3, h4, h5⟩, hc, hc2⟩, rfl, rfl⟩ := h
    obtain ⟨r, rfl⟩ : ∃ q : Nat, r = q := ⟨r.toNat, by omega⟩
    obtain ⟨c, rfl⟩ : ∃ q : Nat, c = q := ⟨c.toNat, by omega⟩
    obtain ⟨F, hF⟩ : ∃ F : Nat, F = 2000 := ⟨2000, rfl⟩
    refine ⟨F, ?_⟩
    rw [Int.toNat_natCast, Int.toNat_natCast] at hc hc2 ⊢
    have h36 := gm.le_36 (R := r) (C := c) (by omega) (by omega)
    have hpos : 0 < r * c := Nat.mul_pos (by omega) (by omega)
    have em : (r : Int) * (c : Int) = ((r * c : Nat) : Int) := by simp
    have w1 : IntKind.i64.wrap ((r * c : Nat) : Int) = ((r * c : Nat) : Int) := IntWalk.i64_in _ (by omega)
    have z0 : (0 : Int) ≤ 0 := Int.le_refl _
    have z1 : (0 : Int) ≤ 1000 := by decide
    have n0 : (0 : Int) ≤ ((r * c : Nat) : Int) := Int.natCast_nonneg _
    have n1 : ((r * c : Nat) : Int) ≤ 100 := by omega
    have n2 : ((r * c : Nat) : Int) ≤ 1000000 := by omega
    have n3 : ((r * c : Nat) : Int) + 1 = ((r * c + 1 : Nat) : Int) := by omega
    have n4 : (0 : Int) ≤ ((r * c + 1 : Nat) : Int) := Int.natCast_nonneg _
    have n5 : ((r * c + 1 : Nat) : Int) ≤ 1000 := by omega
    have t1 : (2 : Int) ≤ 4 := by decide
    have t2 : (4 : Int) ≤ 200 := by decide
    have lg : (r8.gA.sv xs (r * c)).length = r * c := r8.gA_length _ _
    have tk : (r8.gA.sv xs (r * c)).take (r * c) = r8.gA.sv xs (r * c) := List.take_of_length_le (by omega)
    have g1 : r * c ≤ 4611686018427387904 := by omega
    have g2 : r * c * 8 ≤ 140737488355328 := by omega
    have eg : r8.dg.sv xs (r * c) 0 0 = r8.gA.sv xs (r * c) := rfl
    have ep : (r8.nx.sv xs (r * c) (r8.sd.sv xs (r * c) 0 0)).tmod 4 = r8.p4.sv xs (r * c) := rfl
    have z2 : (0 : Int).toNat = 0 := rfl
    rw [start]
    simp -implicitDefEqProofs only [em, w1, h1, z0, z1, z2, n0, n1, n2, n3, n4, n5, t1, t2, eg, ep, hc, hc2, Int.toNat_natCast, Nat.zero_add, List.drop_zero, List.replicate_zero, List.take_nil, List.nil_append, tk, lg, g1, g2, Nat.reduceBEq, and_self, eq_self, decide_true, decide_false, Bool.and_self, Bool.or_self, Bool.and_true, Bool.true_and, Bool.and_false, Bool.false_and, Bool.or_true, Bool.true_or, Bool.or_false, Bool.false_or, Bool.not_true, Bool.not_false, cond_true, cond_false]
    exact loop3 xs (r8.gA.sv xs (r * c)) r c (r * c) (r * c) F h1 (by omega) (by omega) rfl (by omega) r 0 F (r * c + 1) (r8.seed.sv xs (r * c) (r8.sd.sv xs (r * c) 0 0)) (r8.gA.sv xs (r * c)) (by omega) (by omega) lg (by omega)
  · cases h
theorem okb : EntWOk Try.prog ⟨36, Rb⟩ :=
  entw_ok mixed (A := (orcW [⟨37, srcPick.R⟩, ⟨74, l02DrawGains.R⟩] [])) (orcW_ok (by simp only [List.mem_cons, List.not_mem_nil, or_false, forall_eq_or_imp, forall_eq]; exact ⟨srcPick.ok, l02DrawGains.ok⟩) (by simp)) Try.func36 (by kernel_rfl) (by kernel_rfl) (n := 80) (ts := [.cell 6 26]) (hd := hd) (dr := Dr.std) (cut := none) (by kernel_rfl) (by kernel_rfl) (by kernel_rfl) runb
theorem runc : ∀ args H v new, Rc args H = some (true, v, new) → ∃ fuel, runFn Try.prog (orcW [⟨37, srcPick.R⟩, ⟨74, l02DrawGains.R⟩] []) hd Dr.std none fuel (bodyOf Try.f36) 80 [.cell 6 26] args H = some (v, new) := by
  intro args H v new h
  unfold Rc at h
  split at h
  · rename_i r c xs m a s
    simp only [Option.some.injEq, Prod.mk.injEq, decide_eq_true_eq, Bool.and_eq_true, Bool.not_eq_true'] at h
    obtain ⟨⟨⟨rfl, h1, rfl, rfl, h2, h3, h4, h5⟩, hc, hc2⟩, rfl, rfl⟩ := h
    obtain ⟨r, rfl⟩ : ∃ q : Nat, r = q := ⟨r.toNat, by omega⟩
    obtain ⟨c, rfl⟩ : ∃ q : Nat, c = q := ⟨c.toNat, by omega⟩
    obtain ⟨F, hF⟩ : ∃ F : Nat, F = 2000 := ⟨2000, rfl⟩
    refine ⟨F, ?_⟩
    rw [Int.toNat_natCast, Int.toNat_natCast] at hc hc2 ⊢
    have h36 := gm.le_36 (R := r) (C := c) (by omega) (by omega)
    have hpos : 0 < r * c := Nat.mul_pos (by omega) (by omega)
    have em : (r : Int) * (c : Int) = ((r * c : Nat) : Int) := by simp
    have w1 : IntKind.i64.wrap ((r * c : Nat) : Int) = ((r * c : Nat) : Int) := IntWalk.i64_in _ (by omega)
    have z0 : (0 : Int) ≤ 0 := Int.le_refl _
    have z1 : (0 : Int) ≤ 1000 := by decide
    have n0 : (0 : Int) ≤ ((r * c : Nat) : Int) := Int.natCast_nonneg _
    have n1 : ((r * c : Nat) : Int) ≤ 100 := by omega
    have n2 : ((r * c : Nat) : Int) ≤ 1000000 := by omega
    have n3 : ((r * c : Nat) : Int) + 1 = ((r * c + 1 : Nat) : Int) := by omega
    have n4 : (0 : Int) ≤ ((r * c + 1 : Nat) : Int) := Int.natCast_nonneg _
    have n5 : ((r * c + 1 : Nat) : Int) ≤ 1000 := by omega
    have t1 : (2 : Int) ≤ 4 := by decide
    have t2 : (4 : Int) ≤ 200 := by decide
    have lg : (r8.gA.sv xs (r * c)).length = r * c := r8.gA_length _ _
    have tk : (r8.gA.sv xs (r * c)).take (r * c) = r8.gA.sv xs (r * c) := List.take_of_length_le (by omega)
    have g1 : r * c ≤ 4611686018427387904 := by omega
    have g2 : r * c * 8 ≤ 140737488355328 := by omega
    have eg : r8.dg.sv xs (r * c) 0 0 = r8.gA.sv xs (r * c) := rfl
    have ep : (r8.nx.sv xs (r * c) (r8.sd.sv xs (r * c) 0 0)).tmod 4 = r8.p4.sv xs (r * c) := rfl
    have z2 : (0 : Int).toNat = 0 := rfl
    rw [start]
    simp -implicitDefEqProofs only [em, w1, h1, z0, z1, z2, n0, n1, n2, n3, n4, n5, t1, t2, eg, ep, hc, hc2, Int.toNat_natCast, Nat.zero_add, List.drop_zero, List.replicate_zero, List.take_nil, List.nil_append, tk, lg, g1, g2, Nat.reduceBEq, and_self, eq_self, decide_true, decide_false, Bool.and_self, Bool.or_self, Bool.and_true, Bool.true_and, Bool.and_false, Bool.false_and, Bool.or_true, Bool.true_or, Bool.or_false, Bool.false_or, Bool.not_true, Bool.not_false, cond_true, cond_false]

  · cases h
theorem okc : EntWOk Try.prog ⟨36, Rc⟩ :=
  entw_ok mixed (A := (orcW [⟨37, srcPick.R⟩, ⟨74, l02DrawGains.R⟩] [])) (orcW_ok (by simp only [List.mem_cons, List.not_mem_nil, or_false, forall_eq_or_imp, forall_eq]; exact ⟨srcPick.ok, l02DrawGains.ok⟩) (by simp)) Try.func36 (by kernel_rfl) (by kernel_rfl) (n := 80) (ts := [.cell 6 26]) (hd := hd) (dr := Dr.std) (cut := none) (by kernel_rfl) (by kernel_rfl) (by kernel_rfl) runc
end l02DrawSides

namespace R8Gamea
def R : List AVal → Option (Bool × AVal × List Blk)
  | [.ro (.ints .u8 xs) m 1, .int .i64 r, .int .i64 c] => some (decide (m = xs.length ∧ m ≤ 1000000 ∧ 1 ≤ r ∧ r ≤ 6 ∧ 1 ≤ c ∧ c ≤ 6) && (r8.p4.sv xs (r.toNat * c.toNat) == 0), .agg [.int .i64 r, .int .i64 c, .own 0 0 (r.toNat * c.toNat) 0 1, .own 1 0 (r.toNat * c.toNat) 0 1], [⟨.typ (.ints .i64 (r8.gA.sv xs (r.toNat * c.toNat))), 0⟩, ⟨.typ (.ints .i64 (r8.gB.sv xs r.toNat c.toNat)), 0⟩])
  | _ => none
theorem go (xs : List Int) (r c : Int) :
  regc [3, 6] (runFn Try.prog (orcW [⟨36, l02DrawSides.Ra⟩] [⟨35, l00From.R⟩]) hd0 Dr.std none 0 (bodyOf Try.f8) 14 [.cell 6 26] [.ro (.ints .u8 xs) xs.length 1, .int .i64 r, .int .i64 c] [])
  = (match bif true && (true && true || true && (false && true && true)) then bif decide (xs.length = xs.length ∧ xs.length ≤ (1000000 : Nat) ∧ (0 : Int) = (0 : Int) ∧ (0 : Int) = (0 : Int) ∧ (1 : Int) ≤ r ∧ r ≤ (6 : Int) ∧ (1 : Int) ≤ c ∧ c ≤ (6 : Int)) && r8.p4.sv xs (r.toNat * c.toNat) == (0 : Int) && (true && (true && true)) then bif true && (true && (true && decide ((0 : Nat) < (4 : Nat)) && (true && decide ((1 : Nat) < (4 : Nat)) && (true && decide ((2 : Nat) < (3 : Nat) + (1 : Nat)) && (true && decide ((3 : Nat) < (2 : Nat) + (1 : Nat) + (1 : Nat)) && true))))) then bif true && true && (true && true && (true && true && (true && true && true))) && true then some (AVal.agg [AVal.int IntKind.i64 r, AVal.int IntKind.i64 c, AVal.own ((1 : Nat) + (1 : Nat) + (1 : Nat)) (0 : Nat) (r.toNat * c.toNat) (0 : Nat) (1 : Nat), AVal.own ((1 : Nat) + (1 : Nat) + (4 : Nat)) (0 : Nat) (r.toNat * c.toNat) (0 : Nat) (1 : Nat)], [{ c := BC.cells [AVal.int IntKind.i64 r, AVal.int IntKind.i64 c, AVal.own ((1 : Nat) + (1 : Nat) + (1 : Nat)) (0 : Nat) (r.toNat * c.toNat) (0 : Nat) (1 : Nat), AVal.own ((1 : Nat) + (1 : Nat) + (4 : Nat)) (0 : Nat) (r.toNat * c.toNat) (0 : Nat) (1 : Nat)], ver := (0 : Nat) }, { c := BC.cells [AVal.ro (Cont.ints IntKind.u8 xs) xs.length (1 : Nat), AVal.int IntKind.i64 (↑(r.toNat * c.toNat + (1 : Nat)) : Int), AVal.int IntKind.u64 (r8.seed.sv xs (r.toNat * c.toNat) (r8.sd.sv xs (r.toNat * c.toNat) (0 : Nat) (0 : Int)))], ver := (0 : Nat) }, { c := BC.cells [AVal.int IntKind.i64 r, AVal.int IntKind.i64 c, AVal.own ((1 : Nat) + (1 : Nat) + (1 : Nat)) (0 : Nat) (r.toNat * c.toNat) (0 : Nat) (1 : Nat), AVal.own ((1 : Nat) + (1 : Nat) + (4 : Nat)) (0 : Nat) (r.toNat * c.toNat) (0 : Nat) (1 : Nat)], ver := (0 : Nat) }, { c := BC.typ (Cont.ints IntKind.i64 (r8.gA.sv xs (r.toNat * c.toNat))), ver := (0 : Nat) }, { c := BC.cells [AVal.int IntKind.i64 r, AVal.int IntKind.i64 c, AVal.own ((1 : Nat) + (1 : Nat) + (1 : Nat)) (0 : Nat) (r.toNat * c.toNat) (0 : Nat) (1 : Nat), AVal.own ((1 : Nat) + (1 : Nat) + (4 : Nat)) (0 : Nat) (r.toNat * c.toNat) (0 : Nat) (1 : Nat)], ver := (0 : Nat) }, { c := BC.typ (Cont.ints IntKind.i64 [IntKind.i64.wrap ((0 : Int) - gz (r8.gA.sv xs (r.toNat * c.toNat)) (0 : Nat))]), ver := (0 : Nat) }, { c := BC.typ (Cont.ints IntKind.i64 (r8.neg.sv (r8.gA.sv xs (r.toNat * c.toNat)))), ver := (0 : Nat) }]) else none else none else none else none with
| some (v, h) =>
  bif true && (ltN (3 : Nat) (hlen h) && (ltN (6 : Nat) (hlen h) && true)) then
    some
      (AVal.re [(3 : Nat), (6 : Nat)] h v,
        match nth h (3 : Nat) with
        | some b => { c := BC.re [(3 : Nat), (6 : Nat)] h b.c, ver := b.ver } :: reB [(3 : Nat), (6 : Nat)] h [(6 : Nat)]
        | none => { c := BC.cells [], ver := (0 : Nat) } :: reB [(3 : Nat), (6 : Nat)] h [(6 : Nat)])
  else none
| none => none) := by kernel_rfl
theorem run : ∀ args v new, R args = some (true, v, new) → ∃ fuel, regc [3, 6] (runFn Try.prog (orcW [⟨36, l02DrawSides.Ra⟩] [⟨35, l00From.R⟩]) hd0 Dr.std none fuel (bodyOf Try.f8) 14 [.cell 6 26] args []) = some (v, new) := by
  intro args v new h
  unfold R at h
  split at h
  · rename_i xs m r c
    simp only [Option.some.injEq, Prod.mk.injEq, decide_eq_true_eq, Bool.and_eq_true, Bool.not_eq_true'] at h
    obtain ⟨⟨⟨rfl, h1, h2, h3, h4, h5⟩, hc⟩, rfl, rfl⟩ := h
    refine ⟨0, ?_⟩
    rw [go]
    unfold r8.gB.sv
    simp -implicitDefEqProofs only [h1, h2, h3, h4, h5, hc, and_self, eq_self, decide_true, decide_false, Bool.and_self, Bool.or_self, Bool.and_true, Bool.true_and, Bool.and_false, Bool.false_and, Bool.or_true, Bool.true_or, Bool.or_false, Bool.false_or, Bool.not_true, Bool.not_false, cond_true, cond_false]
    rfl
  · cases h
theorem ok : EntOk Try.prog ⟨8, R⟩ :=
  ent_okAG (ks := [3, 6]) mixed (A := (orcW [⟨36, l02DrawSides.Ra⟩] [⟨35, l00From.R⟩])) (orcW_ok (by simp only [List.mem_cons, List.not_mem_nil, or_false, forall_eq_or_imp, forall_eq]; exact l02DrawSides.oka) (by simp only [List.mem_cons, List.not_mem_nil, or_false, forall_eq_or_imp, forall_eq]; exact l00From.ok)) Try.func8 (by kernel_rfl) (by kernel_rfl) (n := 14) (ts := [.cell 6 26]) (hd := hd0) (dr := Dr.std) (cut := none) (by kernel_rfl) (by kernel_rfl) (by kernel_rfl) run
end R8Gamea

namespace R8Gameb
def R : List AVal → Option (Bool × AVal × List Blk)
  | [.ro (.ints .u8 xs) m 1, .int .i64 r, .int .i64 c] => some (decide (m = xs.length ∧ m ≤ 1000000 ∧ 1 ≤ r ∧ r ≤ 6 ∧ 1 ≤ c ∧ c ≤ 6) && (!(r8.p4.sv xs (r.toNat * c.toNat) == 0) && r8.p4.sv xs (r.toNat * c.toNat) == 1), .agg [.int .i64 r, .int .i64 c, .own 0 0 (r.toNat * c.toNat) 0 1, .own 1 0 (r.toNat * c.toNat) 0 1], [⟨.typ (.ints .i64 (r8.gA.sv xs (r.toNat * c.toNat))), 0⟩, ⟨.typ (.ints .i64 (r8.gB.sv xs r.toNat c.toNat)), 0⟩])
  | _ => none
theorem go (xs : List Int) (r c : Int) :
  regc [3, 5] (runFn Try.prog (orcW [⟨36, l02DrawSides.Rb⟩] [⟨35, l00From.R⟩]) hd0 Dr.std none 0 (bodyOf Try.f8) 14 [.cell 6 26] [.ro (.ints .u8 xs) xs.length 1, .int .i64 r, .int .i64 c] [])
  = (match bif true && (true && true || true && (false && true && true)) then bif decide (xs.length = xs.length ∧ xs.length ≤ (1000000 : Nat) ∧ (0 : Int) = (0 : Int) ∧ (0 : Int) = (0 : Int) ∧ (1 : Int) ≤ r ∧ r ≤ (6 : Int) ∧ (1 : Int) ≤ c ∧ c ≤ (6 : Int)) && (!r8.p4.sv xs (r.toNat * c.toNat) == (0 : Int) && r8.p4.sv xs (r.toNat * c.toNat) == (1 : Int)) && (true && (true && true)) then bif true && (true && (true && decide ((0 : Nat) < (4 : Nat)) && (true && decide ((1 : Nat) < (4 : Nat)) && (true && decide ((2 : Nat) < (3 : Nat) + (1 : Nat)) && (true && decide ((3 : Nat) < (2 : Nat) + (1 : Nat) + (1 : Nat)) && true))))) then bif true && true && (true && true && (true && true && (true && true && true))) && true then some (AVal.agg [AVal.int IntKind.i64 r, AVal.int IntKind.i64 c, AVal.own ((1 : Nat) + (1 : Nat) + (1 : Nat)) (0 : Nat) (r.toNat * c.toNat) (0 : Nat) (1 : Nat), AVal.own ((1 : Nat) + (1 : Nat) + (3 : Nat)) (0 : Nat) (r.toNat * c.toNat) (0 : Nat) (1 : Nat)], [{ c := BC.cells [AVal.int IntKind.i64 r, AVal.int IntKind.i64 c, AVal.own ((1 : Nat) + (1 : Nat) + (1 : Nat)) (0 : Nat) (r.toNat * c.toNat) (0 : Nat) (1 : Nat), AVal.own ((1 : Nat) + (1 : Nat) + (3 : Nat)) (0 : Nat) (r.toNat * c.toNat) (0 : Nat) (1 : Nat)], ver := (0 : Nat) }, { c := BC.cells [AVal.ro (Cont.ints IntKind.u8 xs) xs.length (1 : Nat), AVal.int IntKind.i64 (↑(r.toNat * c.toNat + (1 : Nat) + r.toNat) : Int), AVal.int IntKind.u64 (r8.sd.sv xs r.toNat (r.toNat * c.toNat + (1 : Nat)) (r8.seed.sv xs (r.toNat * c.toNat) (r8.sd.sv xs (r.toNat * c.toNat) (0 : Nat) (0 : Int))))], ver := (0 : Nat) }, { c := BC.cells [AVal.int IntKind.i64 r, AVal.int IntKind.i64 c, AVal.own ((1 : Nat) + (1 : Nat) + (1 : Nat)) (0 : Nat) (r.toNat * c.toNat) (0 : Nat) (1 : Nat), AVal.own ((1 : Nat) + (1 : Nat) + (3 : Nat)) (0 : Nat) (r.toNat * c.toNat) (0 : Nat) (1 : Nat)], ver := (0 : Nat) }, { c := BC.typ (Cont.ints IntKind.i64 (r8.gA.sv xs (r.toNat * c.toNat))), ver := (0 : Nat) }, { c := BC.cells [AVal.int IntKind.i64 r, AVal.int IntKind.i64 c, AVal.own ((1 : Nat) + (1 : Nat) + (1 : Nat)) (0 : Nat) (r.toNat * c.toNat) (0 : Nat) (1 : Nat), AVal.own ((1 : Nat) + (1 : Nat) + (3 : Nat)) (0 : Nat) (r.toNat * c.toNat) (0 : Nat) (1 : Nat)], ver := (0 : Nat) }, { c := BC.typ (Cont.ints IntKind.i64 (r8.al.sv xs c.toNat r.toNat (0 : Nat) (r.toNat * c.toNat + (1 : Nat)) (r8.seed.sv xs (r.toNat * c.toNat) (r8.sd.sv xs (r.toNat * c.toNat) (0 : Nat) (0 : Int))) (r8.gA.sv xs (r.toNat * c.toNat)))), ver := (0 : Nat) }]) else none else none else none else none with
| some (v, h) =>
  bif true && (ltN (3 : Nat) (hlen h) && (ltN (5 : Nat) (hlen h) && true)) then
    some
      (AVal.re [(3 : Nat), (5 : Nat)] h v,
        match nth h (3 : Nat) with
        | some b => { c := BC.re [(3 : Nat), (5 : Nat)] h b.c, ver := b.ver } :: reB [(3 : Nat), (5 : Nat)] h [(5 : Nat)]
        | none => { c := BC.cells [], ver := (0 : Nat) } :: reB [(3 : Nat), (5 : Nat)] h [(5 : Nat)])
  else none
| none => none) := by kernel_rfl
theorem run : ∀ args v new, R args = some (true, v, new) → ∃ fuel, regc [3, 5] (runFn Try.prog (orcW [⟨36, l02DrawSides.Rb⟩] [⟨35, l00From.R⟩]) hd0 Dr.std none fuel (bodyOf Try.f8) 14 [.cell 6 26] args []) = some (v, new) := by
  intro args v new h
  unfold R at h
  split at h
  · rename_i xs m r c
    simp only [Option.some.injEq, Prod.mk.injEq, decide_eq_true_eq, Bool.and_eq_true, Bool.not_eq_true'] at h
    obtain ⟨⟨⟨rfl, h1, h2, h3, h4, h5⟩, hc, hc2⟩, rfl, rfl⟩ := h
    refine ⟨0, ?_⟩
    rw [go]
    unfold r8.gB.sv
    simp -implicitDefEqProofs only [h1, h2, h3, h4, h5, hc, hc2, and_self, eq_self, decide_true, decide_false, Bool.and_self, Bool.or_self, Bool.and_true, Bool.true_and, Bool.and_false, Bool.false_and, Bool.or_true, Bool.true_or, Bool.or_false, Bool.false_or, Bool.not_true, Bool.not_false, cond_true, cond_false]
    rfl
  · cases h
theorem ok : EntOk Try.prog ⟨8, R⟩ :=
  ent_okAG (ks := [3, 5]) mixed (A := (orcW [⟨36, l02DrawSides.Rb⟩] [⟨35, l00From.R⟩])) (orcW_ok (by simp only [List.mem_cons, List.not_mem_nil, or_false, forall_eq_or_imp, forall_eq]; exact l02DrawSides.okb) (by simp only [List.mem_cons, List.not_mem_nil, or_false, forall_eq_or_imp, forall_eq]; exact l00From.ok)) Try.func8 (by kernel_rfl) (by kernel_rfl) (n := 14) (ts := [.cell 6 26]) (hd := hd0) (dr := Dr.std) (cut := none) (by kernel_rfl) (by kernel_rfl) (by kernel_rfl) run
end R8Gameb

namespace R8Gamec
def R : List AVal → Option (Bool × AVal × List Blk)
  | [.ro (.ints .u8 xs) m 1, .int .i64 r, .int .i64 c] => some (decide (m = xs.length ∧ m ≤ 1000000 ∧ 1 ≤ r ∧ r ≤ 6 ∧ 1 ≤ c ∧ c ≤ 6) && (!(r8.p4.sv xs (r.toNat * c.toNat) == 0) && !(r8.p4.sv xs (r.toNat * c.toNat) == 1)), .agg [.int .i64 r, .int .i64 c, .own 0 0 (r.toNat * c.toNat) 0 1, .own 1 0 (r.toNat * c.toNat) 0 1], [⟨.typ (.ints .i64 (r8.gA.sv xs (r.toNat * c.toNat))), 0⟩, ⟨.typ (.ints .i64 (r8.gB.sv xs r.toNat c.toNat)), 0⟩])
  | _ => none
theorem go (xs : List Int) (r c : Int) :
  regc [3, 5] (runFn Try.prog (orcW [⟨36, l02DrawSides.Rc⟩] [⟨35, l00From.R⟩]) hd0 Dr.std none 0 (bodyOf Try.f8) 14 [.cell 6 26] [.ro (.ints .u8 xs) xs.length 1, .int .i64 r, .int .i64 c] [])
  = (match bif true && (true && true || true && (false && true && true)) then bif decide (xs.length = xs.length ∧ xs.length ≤ (1000000 : Nat) ∧ (0 : Int) = (0 : Int) ∧ (0 : Int) = (0 : Int) ∧ (1 : Int) ≤ r ∧ r ≤ (6 : Int) ∧ (1 : Int) ≤ c ∧ c ≤ (6 : Int)) && (!r8.p4.sv xs (r.toNat * c.toNat) == (0 : Int) && !r8.p4.sv xs (r.toNat * c.toNat) == (1 : Int)) && (true && (true && true)) then bif true && (true && (true && decide ((0 : Nat) < (4 : Nat)) && (true && decide ((1 : Nat) < (4 : Nat)) && (true && decide ((2 : Nat) < (3 : Nat) + (1 : Nat)) && (true && decide ((3 : Nat) < (2 : Nat) + (1 : Nat) + (1 : Nat)) && true))))) then bif true && true && (true && true && (true && true && (true && true && true))) && true then some (AVal.agg [AVal.int IntKind.i64 r, AVal.int IntKind.i64 c, AVal.own ((1 : Nat) + (1 : Nat) + (1 : Nat)) (0 : Nat) (r.toNat * c.toNat) (0 : Nat) (1 : Nat), AVal.own ((1 : Nat) + (1 : Nat) + (3 : Nat)) (0 : Nat) (r.toNat * c.toNat) (0 : Nat) (1 : Nat)], [{ c := BC.cells [AVal.int IntKind.i64 r, AVal.int IntKind.i64 c, AVal.own ((1 : Nat) + (1 : Nat) + (1 : Nat)) (0 : Nat) (r.toNat * c.toNat) (0 : Nat) (1 : Nat), AVal.own ((1 : Nat) + (1 : Nat) + (3 : Nat)) (0 : Nat) (r.toNat * c.toNat) (0 : Nat) (1 : Nat)], ver := (0 : Nat) }, { c := BC.cells [AVal.ro (Cont.ints IntKind.u8 xs) xs.length (1 : Nat), AVal.int IntKind.i64 (↑(r.toNat * c.toNat + (1 : Nat) + r.toNat * c.toNat) : Int), AVal.int IntKind.u64 (r8.sd.sv xs (r.toNat * c.toNat) (r.toNat * c.toNat + (1 : Nat)) (r8.seed.sv xs (r.toNat * c.toNat) (r8.sd.sv xs (r.toNat * c.toNat) (0 : Nat) (0 : Int))))], ver := (0 : Nat) }, { c := BC.cells [AVal.int IntKind.i64 r, AVal.int IntKind.i64 c, AVal.own ((1 : Nat) + (1 : Nat) + (1 : Nat)) (0 : Nat) (r.toNat * c.toNat) (0 : Nat) (1 : Nat), AVal.own ((1 : Nat) + (1 : Nat) + (3 : Nat)) (0 : Nat) (r.toNat * c.toNat) (0 : Nat) (1 : Nat)], ver := (0 : Nat) }, { c := BC.typ (Cont.ints IntKind.i64 (r8.gA.sv xs (r.toNat * c.toNat))), ver := (0 : Nat) }, { c := BC.cells [AVal.int IntKind.i64 r, AVal.int IntKind.i64 c, AVal.own ((1 : Nat) + (1 : Nat) + (1 : Nat)) (0 : Nat) (r.toNat * c.toNat) (0 : Nat) (1 : Nat), AVal.own ((1 : Nat) + (1 : Nat) + (3 : Nat)) (0 : Nat) (r.toNat * c.toNat) (0 : Nat) (1 : Nat)], ver := (0 : Nat) }, { c := BC.typ (Cont.ints IntKind.i64 (r8.dg.sv xs (r.toNat * c.toNat) (r.toNat * c.toNat + (1 : Nat)) (r8.seed.sv xs (r.toNat * c.toNat) (r8.sd.sv xs (r.toNat * c.toNat) (0 : Nat) (0 : Int))))), ver := (0 : Nat) }]) else none else none else none else none with
| some (v, h) =>
  bif true && (ltN (3 : Nat) (hlen h) && (ltN (5 : Nat) (hlen h) && true)) then
    some
      (AVal.re [(3 : Nat), (5 : Nat)] h v,
        match nth h (3 : Nat) with
        | some b => { c := BC.re [(3 : Nat), (5 : Nat)] h b.c, ver := b.ver } :: reB [(3 : Nat), (5 : Nat)] h [(5 : Nat)]
        | none => { c := BC.cells [], ver := (0 : Nat) } :: reB [(3 : Nat), (5 : Nat)] h [(5 : Nat)])
  else none
| none => none) := by kernel_rfl
theorem run : ∀ args v new, R args = some (true, v, new) → ∃ fuel, regc [3, 5] (runFn Try.prog (orcW [⟨36, l02DrawSides.Rc⟩] [⟨35, l00From.R⟩]) hd0 Dr.std none fuel (bodyOf Try.f8) 14 [.cell 6 26] args []) = some (v, new) := by
  intro args v new h
  unfold R at h
  split at h
  · rename_i xs m r c
    simp only [Option.some.injEq, Prod.mk.injEq, decide_eq_true_eq, Bool.and_eq_true, Bool.not_eq_true'] at h
    obtain ⟨⟨⟨rfl, h1, h2, h3, h4, h5⟩, hc, hc2⟩, rfl, rfl⟩ := h
    refine ⟨0, ?_⟩
    rw [go]
    unfold r8.gB.sv
    simp -implicitDefEqProofs only [h1, h2, h3, h4, h5, hc, hc2, and_self, eq_self, decide_true, decide_false, Bool.and_self, Bool.or_self, Bool.and_true, Bool.true_and, Bool.and_false, Bool.false_and, Bool.or_true, Bool.true_or, Bool.or_false, Bool.false_or, Bool.not_true, Bool.not_false, cond_true, cond_false]
    rfl
  · cases h
theorem ok : EntOk Try.prog ⟨8, R⟩ :=
  ent_okAG (ks := [3, 5]) mixed (A := (orcW [⟨36, l02DrawSides.Rc⟩] [⟨35, l00From.R⟩])) (orcW_ok (by simp only [List.mem_cons, List.not_mem_nil, or_false, forall_eq_or_imp, forall_eq]; exact l02DrawSides.okc) (by simp only [List.mem_cons, List.not_mem_nil, or_false, forall_eq_or_imp, forall_eq]; exact l00From.ok)) Try.func8 (by kernel_rfl) (by kernel_rfl) (n := 14) (ts := [.cell 6 26]) (hd := hd0) (dr := Dr.std) (cut := none) (by kernel_rfl) (by kernel_rfl) (by kernel_rfl) run
end R8Gamec

namespace R8Game
def R2 : List AVal → Option (Bool × AVal × List Blk)
  | [.ro (.ints .u8 xs) m 1, .int .i64 r, .int .i64 c] => some (decide (m = xs.length ∧ m ≤ 1000000 ∧ 1 ≤ r ∧ r ≤ 6 ∧ 1 ≤ c ∧ c ≤ 6) && !(r8.p4.sv xs (r.toNat * c.toNat) == 0), .agg [.int .i64 r, .int .i64 c, .own 0 0 (r.toNat * c.toNat) 0 1, .own 1 0 (r.toNat * c.toNat) 0 1], [⟨.typ (.ints .i64 (r8.gA.sv xs (r.toNat * c.toNat))), 0⟩, ⟨.typ (.ints .i64 (r8.gB.sv xs r.toNat c.toNat)), 0⟩])
  | _ => none
def R : List AVal → Option (Bool × AVal × List Blk)
  | [.ro (.ints .u8 xs) m 1, .int .i64 r, .int .i64 c] => some (decide (m = xs.length ∧ m ≤ 1000000 ∧ 1 ≤ r ∧ r ≤ 6 ∧ 1 ≤ c ∧ c ≤ 6), .agg [.int .i64 r, .int .i64 c, .own 0 0 (r.toNat * c.toNat) 0 1, .own 1 0 (r.toNat * c.toNat) 0 1], [⟨.typ (.ints .i64 (r8.gA.sv xs (r.toNat * c.toNat))), 0⟩, ⟨.typ (.ints .i64 (r8.gB.sv xs r.toNat c.toNat)), 0⟩])
  | _ => none
theorem ok2 : EntOk Try.prog ⟨8, R2⟩ := by
  refine EntOk.cases R8Gameb.ok R8Gamec.ok fun args v new h => ?_
  unfold R2 at h
  split at h
  · rename_i xs m r c
    simp only [Option.some.injEq, Prod.mk.injEq, decide_eq_true_eq, Bool.and_eq_true] at h
    obtain ⟨⟨h, hc⟩, rfl, rfl⟩ := h
    unfold R8Gameb.R R8Gamec.R
    simp only [Option.some.injEq, Prod.mk.injEq, decide_eq_true_eq, Bool.and_eq_true, and_true, h, hc, true_and]
    cases r8.p4.sv xs (r.toNat * c.toNat) == 1 <;> simp <;> omega
  · cases h
theorem ok : EntOk Try.prog ⟨8, R⟩ := by
  refine EntOk.cases R8Gamea.ok ok2 fun args v new h => ?_
  unfold R at h
  split at h
  · rename_i xs m r c
    simp only [Option.some.injEq, Prod.mk.injEq, decide_eq_true_eq] at h
    obtain ⟨h, rfl, rfl⟩ := h
    unfold R8Gamea.R R2
    simp only [Option.some.injEq, Prod.mk.injEq, decide_eq_true_eq, Bool.and_eq_true, and_true, h, true_and]
    cases r8.p4.sv xs (r.toNat * c.toNat) == 0 <;> simp <;> omega
  · cases h
end R8Game

end Go.Proofs.Ytgblgofmdhekiaa.Ab
