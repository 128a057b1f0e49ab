/-
  Functions: WishesShared, its matches held.
-/
import Derived.Test.YthecninmmojkgaaFnIF
namespace Go.Proofs.Ythecninmmojkgaa.Ab
open Go
set_option linter.unusedVariables false
set_option linter.unusedSimpArgs false
set_option maxRecDepth 100000

-- numbers
/-- What is new, and stands first in what is handed back, is held. -/
theorem KOk.of_ent3 {P : Program} {f : FuncId} {R : List AVal → Option (Bool × AVal × List Blk)} {R' : List AVal → Option (Bool × AVal × Nat)} (h : EntOk P ⟨f, R⟩)
    (hR : ∀ args u n, R' args = some (true, u, n) → ∃ (xs : List Int) (m : Nat) (a : Int) (b : Bool), R args = some (true, .tup [.own 0 0 m 0 1, .int .i64 a, .bool b], [⟨.typ (.ints .i64 xs), 0⟩]) ∧ u = .tup [.bun 0 (.ints .i64 xs) m, .int .i64 a, .bool b] ∧ n = 1 ∧ m ≤ xs.length) : KOk P ⟨f, R'⟩ := by
  refine ⟨h.1, fun args u n hr w cargs hargs => ?_⟩
  obtain ⟨xs, m, a0, b0, h1, rfl, rfl, h3⟩ := hR args u n hr
  have S0 : @Sim noF [] [] w := @Sim.mk noF [] [] w rfl List.nodup_nil (fun b hb => by cases hb) (fun l b blk h => by simp at h)
  refine (@h.2 args _ _ h1 noF [] w cargs S0 hargs).mono fun e w' ⟨c, he, ρ', hv, S, M⟩ => ⟨c, he, ?_⟩
  cases hv with
  | tup _ cs htl hall =>
  have v0 := hall 0 _ rfl
  have v1 := hall 1 _ rfl
  have v2 := hall 2 _ rfl
  generalize hc0 : cs.getD 0 Go.undef = c0 at v0
  generalize hc1 : cs.getD 1 Go.undef = c1 at v1
  generalize hc2 : cs.getD 2 Go.undef = c2 at v2
  cases v1
  cases v2
  cases v0 with
  | own _ _ _ _ _ a cap ho hm =>
    obtain ⟨blk, g1, g2, g3⟩ := ho
    simp only [List.getElem?_cons_zero, Option.some.injEq] at g1
    subst g1
    obtain ⟨b, cs1, t, r1, rfl, r3, r4, r5⟩ := g3 rfl
    obtain ⟨cs', t', q1, q2, q3⟩ := @Sim.blk noF _ _ _ S 0 b _ rfl r1
    rw [r4] at q1
    simp only [Option.some.injEq, Obj.cells.injEq] at q1
    obtain ⟨rfl, rfl, _⟩ := q1
    have hb : b ∈ ρ' := List.mem_of_getElem? r1
    have hge : w.heap.size ≤ b := by
      rcases Nat.lt_or_ge b w.heap.size with h | h
      · exact absurd hb (M.frame b h List.not_mem_nil).2
      · exact h
    let F1 : Forb := ⟨[b], [(.slice (some ⟨b, 0, none⟩) m cap, [b])]⟩
    refine ⟨F1, ⟨fun i v B hi x hx => ?_, fun i j v v' B B' hij hi hj => ?_⟩, rfl, fun x hx => ?_, ?_, ⟨M.os, M.tape, M.output, M.size, fun x h1 h2 => (M.frame x h1 h2).1⟩⟩
    · have hi' : [((Value.slice (some ⟨b, 0, none⟩) m cap), [b])][i]? = some (v, B) := hi
      cases i with
      | zero => simp only [List.getElem?_cons_zero, Option.some.injEq, Prod.mk.injEq] at hi'; obtain ⟨_, rfl⟩ := hi'; exact hx
      | succ i => simp at hi'
    · have hi' : [((Value.slice (some ⟨b, 0, none⟩) m cap), [b])][i]? = some (v, B) := hi
      have hj' : [((Value.slice (some ⟨b, 0, none⟩) m cap), [b])][j]? = some (v', B') := hj
      have l1 := (List.getElem?_eq_some_iff.1 hi').1
      have l2 := (List.getElem?_eq_some_iff.1 hj').1
      simp only [List.length_singleton] at l1 l2
      omega
    · have hx' : x ∈ [b] := hx
      simp only [List.mem_singleton] at hx'
      subst hx'
      exact ⟨hge, heap_lt r4⟩
    · refine @VR.tup F1 [] [] w' _ cs htl fun i v hi => ?_
      match i, hi with
      | 0, hi =>
        simp only [List.getElem?_cons_zero, Option.some.injEq] at hi
        subst hi
        rw [hc0]
        refine @VR.bun F1 [] [] w' 0 (.ints .i64 xs) m _ [b] rfl (.inl ⟨rfl, ⟨b, 0, none⟩, cap, rfl, ⟨b, cs1, t, rfl, List.mem_singleton_self b, List.not_mem_nil, r4, by omega, fun j n hj => ?_⟩, hm, h3⟩)
        obtain ⟨x, hx, hvx⟩ := q3 j (.int .i64 n) (by simp [BC.get?, Cont.get?, hj])
        cases hvx
        exact hx
      | 1, hi => simp only [List.getElem?_cons_succ, List.getElem?_cons_zero, Option.some.injEq] at hi; subst hi; rw [hc1]; exact @VR.int F1 _ _ _ _ _
      | 2, hi => simp only [List.getElem?_cons_succ, List.getElem?_cons_zero, Option.some.injEq] at hi; subst hi; rw [hc2]; exact @VR.bool F1 _ _ _ _
      | i + 3, hi => simp at hi
namespace kAskS
def R : List AVal → Option (Bool × AVal × Nat)
  | [.agg [.ro (.rows .i64 ls) m 1, .ro (.rows .i64 rs) k 1]] => some (decide (m = ls.length ∧ m ≤ 4611686018427387904 ∧ k = rs.length ∧ k ≤ 4611686018427387904 ∧ tot.sv ls ≤ 1000000000) && ((short.sp 4611686018427387904 ls && short.sp 4611686018427387904 rs) && vw.sp ls rs), .tup [.bun 0 (.ints .i64 (wss.m.sv ls rs)) m, .int .i64 (ask.ct.sv ls rs (List.replicate m 1)), .bool true], 1)
  | _ => none
theorem ok : KOk Try.prog ⟨43, R⟩ := KOk.of_ent3 sAskMatch_t.ok (by
  intro args u n h
  unfold R at h
  split at h
  · rename_i ls m rs k
    simp only [Option.some.injEq, Prod.mk.injEq, Bool.and_eq_true, decide_eq_true_eq] at h
    obtain ⟨⟨⟨rfl, h1, rfl, h2, ht⟩, ⟨h3, h4⟩, hv⟩, rfl, rfl⟩ := h
    exact ⟨wss.m.sv ls rs, ls.length, _, _, by simp only [sAskMatch_t.R, h1, h2, h3, h4, ht, hv, and_self, decide_true, Bool.and_self]; rfl, rfl, rfl, Nat.le_of_eq (ask.om_len ls rs _).symm⟩
  · cases h)
end kAskS
namespace kAskI
def R : List AVal → Option (Bool × AVal × Nat)
  | [.agg [.ro (.rows .i64 ls) m 1, .ro (.rows .i64 rs) k 1]] => some (decide (m = ls.length ∧ m ≤ 4611686018427387904 ∧ k = rs.length ∧ k ≤ 4611686018427387904 ∧ tot.sv ls ≤ 1000000000) && ((short.sp 4611686018427387904 ls && short.sp 4611686018427387904 rs) && vw.sp ls rs), .tup [.bun 0 (.ints .i64 (wss.m.sv ls rs)) m, .int .i64 (ask.ct.sv ls rs (List.replicate m 1)), .bool true], 1)
  | _ => none
theorem ok : KOk Try.prog ⟨45, R⟩ := KOk.of_ent3 iAskMatch_t.ok (by
  intro args u n h
  unfold R at h
  split at h
  · rename_i ls m rs k
    simp only [Option.some.injEq, Prod.mk.injEq, Bool.and_eq_true, decide_eq_true_eq] at h
    obtain ⟨⟨⟨rfl, h1, rfl, h2, ht⟩, ⟨h3, h4⟩, hv⟩, rfl, rfl⟩ := h
    exact ⟨wss.m.sv ls rs, ls.length, _, _, by simp only [iAskMatch_t.R, h1, h2, h3, h4, ht, hv, and_self, decide_true, Bool.and_self]; rfl, rfl, rfl, Nat.le_of_eq (ask.om_len ls rs _).symm⟩
  · cases h)
end kAskI
namespace wss
/-- Matches that are held, one behind the other. -/
def bcs.sv (xs : List WsT) (i : Nat) : List AVal := (List.range i).map fun j => .bun j (.ints .i64 (m.sv (wg xs j).1 (wg xs j).2)) (wg xs j).1.length
theorem bcs_len (xs : List WsT) (i : Nat) : (bcs.sv xs i).length = i := by simp [bcs.sv]
theorem bcs_succ (xs : List WsT) (i : Nat) : bcs.sv xs (i + 1) = bcs.sv xs i ++ [.bun i (.ints .i64 (m.sv (wg xs i).1 (wg xs i).2)) (wg xs i).1.length] := by
  unfold bcs.sv
  rw [List.range_succ, List.map_append]
  rfl
theorem res0_bcs (H : Heap) (xs : List WsT) (i : Nat) : res0.sv H (bcs.sv xs i) = bcs.sv xs i := by
  unfold res0.sv bcs.sv
  rw [res_eq, List.map_map]
  rfl
theorem res0_step (H : Heap) (xs : List WsT) (i j : Nat) (c : Cont) (n : Nat) : res0.sv H (bcs.sv xs i ++ [.bun j c n]) = bcs.sv xs i ++ [.bun j c n] := by
  have h := res0_bcs H xs i
  unfold res0.sv at *
  rw [res_eq, List.map_append, ← res_eq, h]
  rfl
theorem res0_nil (H : Heap) (xs : List WsT) : res0.sv H (tops.sv []) = bcs.sv xs 0 := rfl
theorem bcs_at (xs : List WsT) {i j : Nat} (h : j < i) : (bcs.sv xs i)[j]? = some (.bun j (.ints .i64 (m.sv (wg xs j).1 (wg xs j).2)) (wg xs j).1.length) := by
  unfold bcs.sv
  rw [List.getElem?_map, List.getElem?_range h]
  rfl
end wss
namespace kWishesI
def R : List AVal → Option (Bool × AVal × Nat)
  | [.ro (.recs [2, 2] fs) m 2, .int .i64 w] => some (decide (fs.length = m * 2) && (wsh.sp fs && (wss.short.sp 4611686018427387904 (wof.sv fs) && (wss.few.sp (wof.sv fs) && wss.sp (wof.sv fs) w))), .tup [.bun 0 (.rows .i64 (wss.o.sv (wof.sv fs))) m, .bool true], 1)
  | _ => none
def C : XC := ⟨[⟨45, kAskI.R⟩], [], []⟩
def hd : Nat → List Nat := fun _ => [4, 5, 6, 21, 22, 23, 997, 994]
noncomputable def L (f n : Nat) (x : SX) := loopX Try.prog (orcWU [] [⟨33, areWorkers.R⟩]) C hd Dr.std f (bodyOf Try.f25) 0 [true, true, true, false, true] (retX Try.prog [4, 5]) n x
theorem start (fs : List Fld) (m : Nat) (w : Int) (f : Nat) :
  runFnX Try.prog (orcWU [] [⟨33, areWorkers.R⟩]) C hd Dr.std f (bodyOf Try.f25) 41 [4, 5] [.ro (.recs [2, 2] fs) m 2, .int .i64 w] [] 0
  = (bif decide ((8 : Int) < (↑m : Int)) then some (AVal.tup [AVal.nils, AVal.bool false], [], (0 : Nat)) else bif true && (true && true || true && true) then bif !(decide ((1 : Int) ≤ w) && decide (w ≤ (8 : Int))) then some (AVal.tup [AVal.nils, AVal.bool false], [], (0 : Nat)) else L f f (mkX (41 : Nat) [((4 : Nat), AVal.nils), ((5 : Nat), AVal.bool false), ((6 : Nat), AVal.own (0 : Nat) (0 : Nat) (0 : Nat) (0 : Nat) (1 : Nat)), ((21 : Nat), AVal.ro (Cont.recs [(2 : Nat), (2 : Nat)] fs) m (2 : Nat)), ((22 : Nat), AVal.int IntKind.i64 (↑m : Int)), ((23 : Nat), AVal.int IntKind.i64 (0 : Int))] [{ c := BC.cells (res0.sv [{ c := BC.cells (tops.sv (List.replicate (0 : Nat) [])), ver := (0 : Nat) }] (tops.sv (List.replicate (0 : Nat) []))), ver := (0 : Nat) }] (0 : Nat)) else none) := by kernel_rfl
theorem round (fs : List Fld) (us : List AVal) (m q i ver : Nat) (f n : Nat) :
  L f (n + 1) (mkX 41 [(4, .nils), (5, .bool false), (6, .own 0 0 q ver 1), (21, .ro (.recs [2, 2] fs) m 2), (22, .int .i64 m), (23, .int .i64 i)] [⟨.cells us, ver⟩] q)
  = (bif decide ((↑i : Int) < (↑m : Int)) then bif true && (true && (recfit.sp [(2 : Nat), (2 : Nat)] fs && (decide ((0 : Int) ≤ (↑i : Int)) && decide ((↑i : Int) < (↑m : Int))))) then bif true && true && (true && true && true) then bif decide ((recR.sv fs (addL ((↑i : Int).toNat * nat_lit 2) (0 : Nat))).length = (recR.sv fs (addL ((↑i : Int).toNat * nat_lit 2) (0 : Nat))).length ∧ (recR.sv fs (addL ((↑i : Int).toNat * nat_lit 2) (0 : Nat))).length ≤ (4611686018427387904 : Nat) ∧ (recR.sv fs (addL ((↑i : Int).toNat * nat_lit 2) ((0 : Nat) + (1 : Nat)))).length = (recR.sv fs (addL ((↑i : Int).toNat * nat_lit 2) ((0 : Nat) + (1 : Nat)))).length ∧ (recR.sv fs (addL ((↑i : Int).toNat * nat_lit 2) ((0 : Nat) + (1 : Nat)))).length ≤ (4611686018427387904 : Nat) ∧ tot.sv (recR.sv fs (addL ((↑i : Int).toNat * nat_lit 2) (0 : Nat))) ≤ (1000000000 : Nat)) && (short.sp (4611686018427387904 : Nat) (recR.sv fs (addL ((↑i : Int).toNat * (2 : Nat)) (0 : Nat))) && short.sp (4611686018427387904 : Nat) (recR.sv fs (addL ((↑i : Int).toNat * (2 : Nat)) (1 : Nat))) && vw.sp (recR.sv fs (addL ((↑i : Int).toNat * (2 : Nat)) (0 : Nat))) (recR.sv fs (addL ((↑i : Int).toNat * (2 : Nat)) (1 : Nat)))) && (true && (true && true)) then bif (1 : Nat) == (1 : Nat) && (1 : Nat) == (1 : Nat) && (eqN ver ver && (true && true) && (true && (true && true) && (eqN (hlen us) q && (true && (true && true)) && (decide (q + (1 : Nat) ≤ (4611686018427387904 : Nat)) && decide ((q + (1 : Nat)) * (24 : Nat) ≤ (140737488355328 : Nat)))))) then L f n (mkX (41 : Nat) [((4 : Nat), AVal.nils), ((5 : Nat), AVal.bool false), ((6 : Nat), AVal.own (0 : Nat) (0 : Nat) (q + (1 : Nat)) (ver + (1 : Nat)) (1 : Nat)), ((21 : Nat), AVal.ro (Cont.recs [(2 : Nat), (2 : Nat)] fs) m (2 : Nat)), ((22 : Nat), AVal.int IntKind.i64 (↑m : Int)), ((23 : Nat), AVal.int IntKind.i64 (IntKind.i64.wrap ((↑i : Int) + (1 : Int))))] [{ c := BC.cells (res0.sv [{ c := BC.cells (app us [AVal.bun (q + (0 : Nat)) (Cont.ints IntKind.i64 (wss.m.sv (recR.sv fs (addL ((↑i : Int).toNat * (2 : Nat)) (0 : Nat))) (recR.sv fs (addL ((↑i : Int).toNat * (2 : Nat)) (1 : Nat))))) (recR.sv fs (addL ((↑i : Int).toNat * (2 : Nat)) (0 : Nat))).length]), ver := ver + (1 : Nat) }, { c := BC.cells [AVal.ro (Cont.rows IntKind.i64 (recR.sv fs (addL ((↑i : Int).toNat * (2 : Nat)) (0 : Nat)))) (recR.sv fs (addL ((↑i : Int).toNat * (2 : Nat)) (0 : Nat))).length (1 : Nat), AVal.ro (Cont.rows IntKind.i64 (recR.sv fs (addL ((↑i : Int).toNat * (2 : Nat)) (1 : Nat)))) (recR.sv fs (addL ((↑i : Int).toNat * (2 : Nat)) (1 : Nat))).length (1 : Nat)], ver := (0 : Nat) }, { c := BC.cells [AVal.bun (q + (0 : Nat)) (Cont.ints IntKind.i64 (wss.m.sv (recR.sv fs (addL ((↑i : Int).toNat * (2 : Nat)) (0 : Nat))) (recR.sv fs (addL ((↑i : Int).toNat * (2 : Nat)) (1 : Nat))))) (recR.sv fs (addL ((↑i : Int).toNat * (2 : Nat)) (0 : Nat))).length], ver := (0 : Nat) }] (app us [AVal.bun (q + (0 : Nat)) (Cont.ints IntKind.i64 (wss.m.sv (recR.sv fs (addL ((↑i : Int).toNat * (2 : Nat)) (0 : Nat))) (recR.sv fs (addL ((↑i : Int).toNat * (2 : Nat)) (1 : Nat))))) (recR.sv fs (addL ((↑i : Int).toNat * (2 : Nat)) (0 : Nat))).length])), ver := ver + (1 : Nat) }] (q + (1 : Nat))) else none else none else none else none else some (AVal.tup [AVal.own (0 : Nat) (0 : Nat) q ver (1 : Nat), AVal.bool true], [{ c := BC.cells (res0.sv [{ c := BC.cells us, ver := ver }] us), ver := ver }], q)) := by kernel_rfl
theorem Cok : XCok Try.prog C := ⟨by simp only [C, List.mem_cons, List.not_mem_nil, or_false, forall_eq]; exact kAskI.ok, by simp [C], by simp [C]⟩
theorem loop (xs : List WsT) (f : Nat) (hx : xs.length ≤ 8) (hs : wss.short.sp 4611686018427387904 xs = true) (hw : wss.few.sp xs = true) (hv : xs.all wss.v.sp = true) (hf : 64 < f) : ∀ (d i n : Nat), i + d = xs.length → d < n →
    L f n (mkX 41 [(4, .nils), (5, .bool false), (6, .own 0 0 i i 1), (21, .ro (.recs [2, 2] (wfs.sv xs)) xs.length 2), (22, .int .i64 (xs.length : Int)), (23, .int .i64 (i : Int))] [⟨.cells (wss.bcs.sv xs i), i⟩] i) = some (.tup [.own 0 0 xs.length xs.length 1, .bool true], [⟨.cells (wss.bcs.sv xs xs.length), xs.length⟩], xs.length) := by
  intro d
  induction d with
  | zero =>
    intro i n hi hn
    obtain ⟨n, rfl⟩ : ∃ k, n = k + 1 := ⟨n - 1, by omega⟩
    obtain rfl : i = xs.length := by omega
    rw [round]
    simp -implicitDefEqProofs (disch := omega) only [wss.res0_bcs, take_one, set_one, decide_eq_true, decide_eq_false, IntWalk.i64_in, beqT, beqF, bneT, bneF, nat_succ, ← Int.natCast_mul, ← Int.natCast_add, Int.toNat_natCast, Int.zero_mul, Int.zero_add, Int.add_zero, Nat.zero_add, Nat.add_zero, Nat.zero_mul, List.length_singleton, List.length_append, List.length_nil, List.length_cons, List.take_length, List.drop_zero, List.replicate_zero, List.take_nil, List.nil_append, Nat.reduceBEq, Nat.reduceMul, Nat.reduceLeDiff, eq_self, and_self, true_and, and_true, decide_true, decide_false, Bool.and_self, Bool.or_self, Bool.and_true, Bool.true_and, Bool.and_false, Bool.false_and, Bool.or_true, Bool.true_or, Bool.or_false, Bool.false_or, Bool.not_true, Bool.not_false, cond_true, cond_false]
  | succ d ih =>
    intro i n hi hn
    obtain ⟨n, rfl⟩ : ∃ k, n = k + 1 := ⟨n - 1, by omega⟩
    have hlt : i < xs.length := by omega
    obtain ⟨r1, r2⟩ := wfs_rec hlt
    obtain ⟨s1, s2, s3, s4⟩ := wss.short_at hs hlt
    have s5 := wss.few_at hw hlt
    have ft := wfs_fit xs
    have vv : vw.sp (wg xs i).1 (wg xs i).2 = true := List.all_eq_true.1 hv _ (wg_mem hlt).1
    have bl := wss.bcs_len xs i
    have g := ih (i + 1) n (by omega) (by omega)
    rw [wss.bcs_succ] at g
    rw [round]
    simp -implicitDefEqProofs (disch := omega) only [r1, r2, s1, s2, s3, s4, s5, ft, vv, bl, wss.res0_step, addL_eq, mulN_eq, app_eq, eqN_eq, hlen_eq, beq_self_eq_true, Nat.le_refl, take_one, set_one, decide_eq_true, decide_eq_false, IntWalk.i64_in, beqT, beqF, bneT, bneF, nat_succ, ← Int.natCast_mul, ← Int.natCast_add, Int.toNat_natCast, Int.zero_mul, Int.zero_add, Int.add_zero, Nat.zero_add, Nat.add_zero, Nat.zero_mul, List.length_singleton, List.length_append, List.length_nil, List.length_cons, List.take_length, List.drop_zero, List.replicate_zero, List.take_nil, List.nil_append, Nat.reduceBEq, Nat.reduceMul, Nat.reduceLeDiff, eq_self, and_self, true_and, and_true, decide_true, decide_false, Bool.and_self, Bool.or_self, Bool.and_true, Bool.true_and, Bool.and_false, Bool.false_and, Bool.or_true, Bool.true_or, Bool.or_false, Bool.false_or, Bool.not_true, Bool.not_false, cond_true, cond_false]
    exact g
theorem ok : KOk Try.prog ⟨25, R⟩ := by
  refine ⟨⟨_, Try.func25, by kernel_rfl, by kernel_rfl⟩, fun args u n h0 w cargs hargs => ?_⟩
  have h : R args = some (true, u, n) := h0
  unfold R at h
  split at h
  case h_2 => cases h
  rename_i fs m wk
  simp only [Option.some.injEq, Prod.mk.injEq, Bool.and_eq_true, decide_eq_true_eq] at h
  obtain ⟨⟨hl, hs, hsh, hw, hsp⟩, rfl, rfl⟩ := h
  obtain ⟨xs, rfl⟩ : ∃ xs, fs = wfs.sv xs := ⟨_, (wsh_eq hs).symm⟩
  rw [(wsh_of xs).2] at *
  have hlen := wfs_len xs
  obtain rfl : m = xs.length := by omega
  simp only [wss.sp, Bool.and_eq_true, decide_eq_true_eq] at hsp
  obtain ⟨⟨k1, k2, k3⟩, k4⟩ := hsp
  obtain ⟨F, hF⟩ : ∃ F : Nat, F = 100 := ⟨100, rfl⟩
  have g1 := loop xs F k1 hsh hw k4 (by omega) xs.length 0 F (by omega) (by omega)
  have hrun : runFnX Try.prog (orcWU [] [⟨33, areWorkers.R⟩]) C hd Dr.std F (bodyOf Try.f25) 41 [4, 5] [.ro (.recs [2, 2] (wfs.sv xs)) xs.length 2, .int .i64 wk] [] 0 = some (.tup [.own 0 0 xs.length xs.length 1, .bool true], [⟨.cells (wss.bcs.sv xs xs.length), xs.length⟩], xs.length) := by
    rw [start, ← g1]
    simp -implicitDefEqProofs (disch := omega) only [wss.res0_nil _ xs, k2, k3, take_one, set_one, decide_eq_true, decide_eq_false, IntWalk.i64_in, beqT, beqF, bneT, bneF, nat_succ, ← Int.natCast_mul, ← Int.natCast_add, Int.toNat_natCast, Int.zero_mul, Int.zero_add, Int.add_zero, Nat.zero_add, Nat.add_zero, Nat.zero_mul, List.length_singleton, List.length_append, List.length_nil, List.length_cons, List.take_length, List.drop_zero, List.replicate_zero, List.take_nil, List.nil_append, Nat.reduceBEq, Nat.reduceMul, Nat.reduceLeDiff, eq_self, and_self, true_and, and_true, decide_true, decide_false, Bool.and_self, Bool.or_self, Bool.and_true, Bool.true_and, Bool.and_false, Bool.false_and, Bool.or_true, Bool.true_or, Bool.or_false, Bool.false_or, Bool.not_true, Bool.not_false, cond_true, cond_false]
    rfl
  refine (fnX_sound (X := []) mixed (A := (orcWU [] [⟨33, areWorkers.R⟩])) (orcWU_ok (by simp) (by simp only [List.mem_cons, List.not_mem_nil, or_false, forall_eq_or_imp, forall_eq]; exact areWorkers.ok)) Cok Try.func25 (by kernel_rfl) (n := 41) (ts := [4, 5]) (by kernel_rfl) (by kernel_rfl) (by kernel_rfl) hrun hargs (sim_nil w)
    (kept_nil _ _)).mono fun e w' ⟨c, he, Fb, ρ, hv, S, k⟩ => ⟨c, he, ?_⟩
  cases hv with
  | tup _ cs htl hall =>
  obtain ⟨F1, e1, e2, e3, e4, e5⟩ := held_rows (rows := wss.o.sv xs) (by simp [wss.o.sv]) (fun j r hj => by
    have hlt : j < xs.length := by simpa [wss.o.sv] using (List.getElem?_eq_some_iff.1 hj).1
    rw [wss.bcs_at xs hlt]
    simp only [wss.o.sv, List.getElem?_map, List.getElem?_eq_getElem hlt, Option.map_some, Option.some.injEq, (wg_mem hlt).2] at hj
    subst hj
    simp only [wss.m.sv, ask.om_len]) ⟨Fb, ρ, hall 0 _ rfl, S, k⟩
  have v1 := hall 1 _ rfl
  refine ⟨F1, e1, e2, e3, @VR.tup F1 [] [] w' _ cs htl fun i v hi => ?_, e5⟩
  match i, hi with
  | 0, hi => simp only [List.getElem?_cons_zero, Option.some.injEq] at hi; subst hi; exact e4
  | 1, hi =>
    simp only [List.getElem?_cons_succ, List.getElem?_cons_zero, Option.some.injEq] at hi
    subst hi
    generalize cs.getD 1 Go.undef = c1 at v1
    cases v1
    exact @VR.bool F1 _ _ _ _
  | i + 2, hi => simp at hi
end kWishesI
namespace kWishesR
def R : List AVal → Option (Bool × AVal × Nat)
  | [.ro (.recs [2, 2] fs) m 2, .int .i64 w] => some (decide (fs.length = m * 2) && (wsh.sp fs && (wss.short.sp 4611686018427387904 (wof.sv fs) && (wss.few.sp (wof.sv fs) && wss.sp (wof.sv fs) w))), .tup [.bun 0 (.rows .i64 (wss.o.sv (wof.sv fs))) m, .bool true], 1)
  | _ => none
def C : XC := ⟨[⟨43, kAskS.R⟩], [], []⟩
def hd : Nat → List Nat := fun _ => [0, 4, 5, 6, 21, 22, 997, 994]
noncomputable def L (f n : Nat) (x : SX) := loopX Try.prog (orcWU [] [⟨29, l00In.R⟩]) C hd Dr.std f (bodyOf Try.f23) 0 [true, true, true, false, true] (retX Try.prog [4, 5]) n x
theorem start (fs : List Fld) (m : Nat) (w : Int) (f : Nat) :
  runFnX Try.prog (orcWU [] [⟨29, l00In.R⟩]) C hd Dr.std f (bodyOf Try.f23) 42 [4, 5] [.ro (.recs [2, 2] fs) m 2, .int .i64 w] [] 0
  = (bif decide ((8 : Int) < (↑m : Int)) then some (AVal.tup [AVal.nils, AVal.bool false], [], (0 : Nat)) else bif true && (true && true || true && true) then bif !(decide ((1 : Int) ≤ w) && decide (w ≤ (8 : Int))) then some (AVal.tup [AVal.nils, AVal.bool false], [], (0 : Nat)) else L f f (mkX (42 : Nat) [((0 : Nat), AVal.ro (Cont.recs [(2 : Nat), (2 : Nat)] fs) m (2 : Nat)), ((4 : Nat), AVal.nils), ((5 : Nat), AVal.bool false), ((6 : Nat), AVal.own (0 : Nat) (0 : Nat) (0 : Nat) (0 : Nat) (1 : Nat)), ((21 : Nat), AVal.int IntKind.i64 (↑m : Int)), ((22 : Nat), AVal.int IntKind.i64 (0 : Int))] [{ c := BC.cells (res0.sv [{ c := BC.cells (tops.sv (List.replicate (0 : Nat) [])), ver := (0 : Nat) }] (tops.sv (List.replicate (0 : Nat) []))), ver := (0 : Nat) }] (0 : Nat)) else none) := by kernel_rfl
theorem round (fs : List Fld) (us : List AVal) (m q i ver : Nat) (f n : Nat) :
  L f (n + 1) (mkX 42 [(0, .ro (.recs [2, 2] fs) m 2), (4, .nils), (5, .bool false), (6, .own 0 0 q ver 1), (21, .int .i64 m), (22, .int .i64 i)] [⟨.cells us, ver⟩] q)
  = (bif decide ((↑i : Int) < (↑m : Int)) then bif true && (true && (recfit.sp [(2 : Nat), (2 : Nat)] fs && (decide ((0 : Int) ≤ (↑i : Int)) && decide ((↑i : Int) < (↑m : Int))))) then bif decide ((recR.sv fs (addL ((↑i : Int).toNat * nat_lit 2) (0 : Nat))).length = (recR.sv fs (addL ((↑i : Int).toNat * nat_lit 2) (0 : Nat))).length ∧ (recR.sv fs (addL ((↑i : Int).toNat * nat_lit 2) (0 : Nat))).length ≤ (4611686018427387904 : Nat) ∧ (recR.sv fs (addL ((↑i : Int).toNat * nat_lit 2) ((0 : Nat) + (1 : Nat)))).length = (recR.sv fs (addL ((↑i : Int).toNat * nat_lit 2) ((0 : Nat) + (1 : Nat)))).length ∧ (recR.sv fs (addL ((↑i : Int).toNat * nat_lit 2) ((0 : Nat) + (1 : Nat)))).length ≤ (4611686018427387904 : Nat) ∧ tot.sv (recR.sv fs (addL ((↑i : Int).toNat * nat_lit 2) (0 : Nat))) ≤ (1000000000 : Nat)) && (short.sp (4611686018427387904 : Nat) (recR.sv fs (addL ((↑i : Int).toNat * (2 : Nat)) (0 : Nat))) && short.sp (4611686018427387904 : Nat) (recR.sv fs (addL ((↑i : Int).toNat * (2 : Nat)) (1 : Nat))) && vw.sp (recR.sv fs (addL ((↑i : Int).toNat * (2 : Nat)) (0 : Nat))) (recR.sv fs (addL ((↑i : Int).toNat * (2 : Nat)) (1 : Nat)))) && (true && (true && true)) then bif (1 : Nat) == (1 : Nat) && (1 : Nat) == (1 : Nat) && (eqN ver ver && (true && true) && (true && (true && true) && (eqN (hlen us) q && (true && (true && true)) && (decide (q + (1 : Nat) ≤ (4611686018427387904 : Nat)) && decide ((q + (1 : Nat)) * (24 : Nat) ≤ (140737488355328 : Nat)))))) then L f n (mkX (42 : Nat) [((0 : Nat), AVal.ro (Cont.recs [(2 : Nat), (2 : Nat)] fs) m (2 : Nat)), ((4 : Nat), AVal.nils), ((5 : Nat), AVal.bool false), ((6 : Nat), AVal.own (0 : Nat) (0 : Nat) (q + (1 : Nat)) (ver + (1 : Nat)) (1 : Nat)), ((21 : Nat), AVal.int IntKind.i64 (↑m : Int)), ((22 : Nat), AVal.int IntKind.i64 (IntKind.i64.wrap ((↑i : Int) + (1 : Int))))] [{ c := BC.cells (res0.sv [{ c := BC.cells (app us [AVal.bun (q + (0 : Nat)) (Cont.ints IntKind.i64 (wss.m.sv (recR.sv fs (addL ((↑i : Int).toNat * (2 : Nat)) (0 : Nat))) (recR.sv fs (addL ((↑i : Int).toNat * (2 : Nat)) (1 : Nat))))) (recR.sv fs (addL ((↑i : Int).toNat * (2 : Nat)) (0 : Nat))).length]), ver := ver + (1 : Nat) }, { c := BC.cells [AVal.bun (q + (0 : Nat)) (Cont.ints IntKind.i64 (wss.m.sv (recR.sv fs (addL ((↑i : Int).toNat * (2 : Nat)) (0 : Nat))) (recR.sv fs (addL ((↑i : Int).toNat * (2 : Nat)) (1 : Nat))))) (recR.sv fs (addL ((↑i : Int).toNat * (2 : Nat)) (0 : Nat))).length], ver := (0 : Nat) }] (app us [AVal.bun (q + (0 : Nat)) (Cont.ints IntKind.i64 (wss.m.sv (recR.sv fs (addL ((↑i : Int).toNat * (2 : Nat)) (0 : Nat))) (recR.sv fs (addL ((↑i : Int).toNat * (2 : Nat)) (1 : Nat))))) (recR.sv fs (addL ((↑i : Int).toNat * (2 : Nat)) (0 : Nat))).length])), ver := ver + (1 : Nat) }] (q + (1 : Nat))) else none else none else none else some (AVal.tup [AVal.own (0 : Nat) (0 : Nat) q ver (1 : Nat), AVal.bool true], [{ c := BC.cells (res0.sv [{ c := BC.cells us, ver := ver }] us), ver := ver }], q)) := by kernel_rfl
theorem Cok : XCok Try.prog C := ⟨by simp only [C, List.mem_cons, List.not_mem_nil, or_false, forall_eq]; exact kAskS.ok, by simp [C], by simp [C]⟩
theorem loop (xs : List WsT) (f : Nat) (hx : xs.length ≤ 8) (hs : wss.short.sp 4611686018427387904 xs = true) (hw : wss.few.sp xs = true) (hv : xs.all wss.v.sp = true) (hf : 64 < f) : ∀ (d i n : Nat), i + d = xs.length → d < n →
    L f n (mkX 42 [(0, .ro (.recs [2, 2] (wfs.sv xs)) xs.length 2), (4, .nils), (5, .bool false), (6, .own 0 0 i i 1), (21, .int .i64 (xs.length : Int)), (22, .int .i64 (i : Int))] [⟨.cells (wss.bcs.sv xs i), i⟩] i) = some (.tup [.own 0 0 xs.length xs.length 1, .bool true], [⟨.cells (wss.bcs.sv xs xs.length), xs.length⟩], xs.length) := by
  intro d
  induction d with
  | zero =>
    intro i n hi hn
    obtain ⟨n, rfl⟩ : ∃ k, n = k + 1 := ⟨n - 1, by omega⟩
    obtain rfl : i = xs.length := by omega
    rw [round]
    simp -implicitDefEqProofs (disch := omega) only [wss.res0_bcs, take_one, set_one, decide_eq_true, decide_eq_false, IntWalk.i64_in, beqT, beqF, bneT, bneF, nat_succ, ← Int.natCast_mul, ← Int.natCast_add, Int.toNat_natCast, Int.zero_mul, Int.zero_add, Int.add_zero, Nat.zero_add, Nat.add_zero, Nat.zero_mul, List.length_singleton, List.length_append, List.length_nil, List.length_cons, List.take_length, List.drop_zero, List.replicate_zero, List.take_nil, List.nil_append, Nat.reduceBEq, Nat.reduceMul, Nat.reduceLeDiff, eq_self, and_self, true_and, and_true, decide_true, decide_false, Bool.and_self, Bool.or_self, Bool.and_true, Bool.true_and, Bool.and_false, Bool.false_and, Bool.or_true, Bool.true_or, Bool.or_false, Bool.false_or, Bool.not_true, Bool.not_false, cond_true, cond_false]
  | succ d ih =>
    intro i n hi hn
    obtain ⟨n, rfl⟩ : ∃ k, n = k + 1 := ⟨n - 1, by omega⟩
    have hlt : i < xs.length := by omega
    obtain ⟨r1, r2⟩ := wfs_rec hlt
    obtain ⟨s1, s2, s3, s4⟩ := wss.short_at hs hlt
    have s5 := wss.few_at hw hlt
    have ft := wfs_fit xs
    have vv : vw.sp (wg xs i).1 (wg xs i).2 = true := List.all_eq_true.1 hv _ (wg_mem hlt).1
    have bl := wss.bcs_len xs i
    have g := ih (i + 1) n (by omega) (by omega)
    rw [wss.bcs_succ] at g
    rw [round]
    simp -implicitDefEqProofs (disch := omega) only [r1, r2, s1, s2, s3, s4, s5, ft, vv, bl, wss.res0_step, addL_eq, mulN_eq, app_eq, eqN_eq, hlen_eq, beq_self_eq_true, Nat.le_refl, take_one, set_one, decide_eq_true, decide_eq_false, IntWalk.i64_in, beqT, beqF, bneT, bneF, nat_succ, ← Int.natCast_mul, ← Int.natCast_add, Int.toNat_natCast, Int.zero_mul, Int.zero_add, Int.add_zero, Nat.zero_add, Nat.add_zero, Nat.zero_mul, List.length_singleton, List.length_append, List.length_nil, List.length_cons, List.take_length, List.drop_zero, List.replicate_zero, List.take_nil, List.nil_append, Nat.reduceBEq, Nat.reduceMul, Nat.reduceLeDiff, eq_self, and_self, true_and, and_true, decide_true, decide_false, Bool.and_self, Bool.or_self, Bool.and_true, Bool.true_and, Bool.and_false, Bool.false_and, Bool.or_true, Bool.true_or, Bool.or_false, Bool.false_or, Bool.not_true, Bool.not_false, cond_true, cond_false]
    exact g
theorem ok : KOk Try.prog ⟨23, R⟩ := by
  refine ⟨⟨_, Try.func23, by kernel_rfl, by kernel_rfl⟩, fun args u n h0 w cargs hargs => ?_⟩
  have h : R args = some (true, u, n) := h0
  unfold R at h
  split at h
  case h_2 => cases h
  rename_i fs m wk
  simp only [Option.some.injEq, Prod.mk.injEq, Bool.and_eq_true, decide_eq_true_eq] at h
  obtain ⟨⟨hl, hs, hsh, hw, hsp⟩, rfl, rfl⟩ := h
  obtain ⟨xs, rfl⟩ : ∃ xs, fs = wfs.sv xs := ⟨_, (wsh_eq hs).symm⟩
  rw [(wsh_of xs).2] at *
  have hlen := wfs_len xs
  obtain rfl : m = xs.length := by omega
  simp only [wss.sp, Bool.and_eq_true, decide_eq_true_eq] at hsp
  obtain ⟨⟨k1, k2, k3⟩, k4⟩ := hsp
  obtain ⟨F, hF⟩ : ∃ F : Nat, F = 100 := ⟨100, rfl⟩
  have g1 := loop xs F k1 hsh hw k4 (by omega) xs.length 0 F (by omega) (by omega)
  have hrun : runFnX Try.prog (orcWU [] [⟨29, l00In.R⟩]) C hd Dr.std F (bodyOf Try.f23) 42 [4, 5] [.ro (.recs [2, 2] (wfs.sv xs)) xs.length 2, .int .i64 wk] [] 0 = some (.tup [.own 0 0 xs.length xs.length 1, .bool true], [⟨.cells (wss.bcs.sv xs xs.length), xs.length⟩], xs.length) := by
    rw [start, ← g1]
    simp -implicitDefEqProofs (disch := omega) only [wss.res0_nil _ xs, k2, k3, take_one, set_one, decide_eq_true, decide_eq_false, IntWalk.i64_in, beqT, beqF, bneT, bneF, nat_succ, ← Int.natCast_mul, ← Int.natCast_add, Int.toNat_natCast, Int.zero_mul, Int.zero_add, Int.add_zero, Nat.zero_add, Nat.add_zero, Nat.zero_mul, List.length_singleton, List.length_append, List.length_nil, List.length_cons, List.take_length, List.drop_zero, List.replicate_zero, List.take_nil, List.nil_append, Nat.reduceBEq, Nat.reduceMul, Nat.reduceLeDiff, eq_self, and_self, true_and, and_true, decide_true, decide_false, Bool.and_self, Bool.or_self, Bool.and_true, Bool.true_and, Bool.and_false, Bool.false_and, Bool.or_true, Bool.true_or, Bool.or_false, Bool.false_or, Bool.not_true, Bool.not_false, cond_true, cond_false]
    rfl
  refine (fnX_sound (X := []) mixed (A := (orcWU [] [⟨29, l00In.R⟩])) (orcWU_ok (by simp) (by simp only [List.mem_cons, List.not_mem_nil, or_false, forall_eq_or_imp, forall_eq]; exact l00In.ok)) Cok Try.func23 (by kernel_rfl) (n := 42) (ts := [4, 5]) (by kernel_rfl) (by kernel_rfl) (by kernel_rfl) hrun hargs (sim_nil w)
    (kept_nil _ _)).mono fun e w' ⟨c, he, Fb, ρ, hv, S, k⟩ => ⟨c, he, ?_⟩
  cases hv with
  | tup _ cs htl hall =>
  obtain ⟨F1, e1, e2, e3, e4, e5⟩ := held_rows (rows := wss.o.sv xs) (by simp [wss.o.sv]) (fun j r hj => by
    have hlt : j < xs.length := by simpa [wss.o.sv] using (List.getElem?_eq_some_iff.1 hj).1
    rw [wss.bcs_at xs hlt]
    simp only [wss.o.sv, List.getElem?_map, List.getElem?_eq_getElem hlt, Option.map_some, Option.some.injEq, (wg_mem hlt).2] at hj
    subst hj
    simp only [wss.m.sv, ask.om_len]) ⟨Fb, ρ, hall 0 _ rfl, S, k⟩
  have v1 := hall 1 _ rfl
  refine ⟨F1, e1, e2, e3, @VR.tup F1 [] [] w' _ cs htl fun i v hi => ?_, e5⟩
  match i, hi with
  | 0, hi => simp only [List.getElem?_cons_zero, Option.some.injEq] at hi; subst hi; exact e4
  | 1, hi =>
    simp only [List.getElem?_cons_succ, List.getElem?_cons_zero, Option.some.injEq] at hi
    subst hi
    generalize cs.getD 1 Go.undef = c1 at v1
    cases v1
    exact @VR.bool F1 _ _ _ _
  | i + 2, hi => simp at hi
end kWishesR
end Go.Proofs.Ythecninmmojkgaa.Ab
