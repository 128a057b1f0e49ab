/-
  Functions: lists of wishes: as fields, and the runs that fail.
-/
import Derived.Test.YthecninmmojkgaaFnU2
import Derived.Test.YthecninmmojkgaaFnUB
import Derived.Test.YthecninmmojkgaaFnIB
import Derived.Test.YthecninmmojkgaaFnAU
import Derived.Test.YthecninmmojkgaaAbWk
namespace Go.Proofs.Ythecninmmojkgaa.Ab
open Go
set_option linter.unusedVariables false
set_option linter.unusedSimpArgs false
set_option maxRecDepth 100000

namespace areWorkers
def R : List AVal → Option (Bool × AVal × List Blk)
  | [.int .i64 n] => some (true, .bool (decide (1 ≤ n) && decide (n ≤ 8)), [])
  | _ => none
theorem go (n : Int) :
  runFn Try.prog (orc [⟨51, within.R⟩]) hd0 Dr.std none 0 (bodyOf Try.f33) 5 [2] [.int .i64 n] []
  = (bif true && (true && true || true && true) then some (AVal.bool (decide ((1 : Int) ≤ n) && decide (n ≤ (8 : Int))), []) else none) := by kernel_rfl
theorem run : ∀ args v new, R args = some (true, v, new) → ∃ fuel, runFn Try.prog (orc [⟨51, within.R⟩]) hd0 Dr.std none fuel (bodyOf Try.f33) 5 [2] args [] = some (v, new) := by
  intro args v new h
  unfold R at h
  split at h
  · rename_i n
    simp only [Option.some.injEq, Prod.mk.injEq] at h
    obtain ⟨_, rfl, rfl⟩ := h
    refine ⟨0, ?_⟩
    rw [go]
    try rfl
  · cases h
theorem ok : EntOk Try.prog ⟨33, R⟩ :=
  ent_okA mixed (A := (orc [⟨51, within.R⟩])) (orc_ok (by simp only [List.mem_cons, List.not_mem_nil, or_false, forall_eq_or_imp, forall_eq]; exact within.ok)) Try.func33 (by kernel_rfl) (by kernel_rfl) (n := 5) (ts := [2]) (hd := hd0) (dr := Dr.std) (cut := none) (by kernel_rfl) (by kernel_rfl) (by kernel_rfl) run
end areWorkers

abbrev WsT := List (List Int) × List (List Int)
/-- Wishes as fields, and back. -/
def wfs.sv : List WsT → List Fld
  | [] => []
  | g :: r => .rows g.1 :: .rows g.2 :: wfs.sv r
def wof.sv : List Fld → List WsT
  | .rows a :: .rows b :: r => (a, b) :: wof.sv r
  | _ => []
def wsh.sp : List Fld → Bool
  | [] => true
  | .rows _ :: .rows _ :: r => wsh.sp r
  | _ => false
def wg (xs : List WsT) (i : Nat) : WsT := xs.getD i ([], [])
namespace wss
def v.sp (g : WsT) : Bool := vw.sp g.1 g.2
/-- The match of one, of all. -/
def m.sv (ls rs : List (List Int)) : List Int := ask.om.sv ls rs (List.replicate ls.length 1)
def o.sv (xs : List WsT) : List (List Int) := xs.map fun g => m.sv g.1 g.2
/-- Short lists, and not many in all. -/
def short.sp (n : Nat) (xs : List WsT) : Bool := xs.all fun g => (decide (g.1.length ≤ n) && decide (g.2.length ≤ n)) && (Ab.short.sp n g.1 && Ab.short.sp n g.2)
def few.sp (xs : List WsT) : Bool := xs.all fun g => decide (tot.sv g.1 ≤ 1000000000)
def sp (xs : List WsT) (w : Int) : Bool := (decide (xs.length ≤ 8) && (decide (1 ≤ w) && decide (w ≤ 8))) && xs.all v.sp
/-- What is left behind wishes. -/
def szl.sv : List WsT → Int → Int
  | [], l => l
  | g :: r, l => bif decide (sw.sv g.1 g.2 l < 0) then -1 else szl.sv r (sw.sv g.1 g.2 l)
def sz.sv (xs : List WsT) (l : Int) : Int := bif decide (l - (xs.length : Int) < 0) then -1 else szl.sv xs (l - (xs.length : Int))
/-- Numbers that a mark writes. -/
def tt.sv : List WsT → Nat
  | [] => 0
  | g :: r => tot.sv g.1 + tot.sv g.2 + tt.sv r
end wss
theorem wsh_eq : ∀ {fs : List Fld}, wsh.sp fs = true → wfs.sv (wof.sv fs) = fs
  | [], _ => rfl
  | .rows a :: .rows b :: r, h => by
    have h : wsh.sp r = true := h
    simp only [wof.sv, wfs.sv, wsh_eq h]
theorem wsh_of : ∀ xs : List WsT, wsh.sp (wfs.sv xs) = true ∧ wof.sv (wfs.sv xs) = xs
  | [] => ⟨rfl, rfl⟩
  | g :: r => by
    obtain ⟨a, b⟩ := wsh_of r
    exact ⟨a, by simp only [wfs.sv, wof.sv, b]⟩
theorem wfs_len : ∀ xs : List WsT, (wfs.sv xs).length = xs.length * 2
  | [] => rfl
  | g :: r => by simp only [wfs.sv, List.length_cons, wfs_len r]; omega
theorem wfs_at : ∀ (xs : List WsT) (i : Nat), i < xs.length → (wfs.sv xs)[i * 2]? = some (.rows (wg xs i).1) ∧ (wfs.sv xs)[i * 2 + 1]? = some (.rows (wg xs i).2)
  | [], i, h => by simp at h
  | g :: r, 0, _ => ⟨rfl, rfl⟩
  | g :: r, i + 1, h => by
    have k := wfs_at r i (by simpa using h)
    have e : ∀ j, (wfs.sv (g :: r))[(i + 1) * 2 + j]? = (wfs.sv r)[i * 2 + j]? := by
      intro j
      rw [show (i + 1) * 2 + j = i * 2 + j + 2 by omega]
      simp only [wfs.sv, List.getElem?_cons_succ]
    refine ⟨(e 0).trans k.1, (e 1).trans k.2⟩
theorem wfs_rec {xs : List WsT} {i : Nat} (h : i < xs.length) : recR.sv (wfs.sv xs) (i * 2) = (wg xs i).1 ∧ recR.sv (wfs.sv xs) (i * 2 + 1) = (wg xs i).2 := by
  obtain ⟨a, b⟩ := wfs_at xs i h
  unfold recR.sv
  rw [a, b]
  exact ⟨rfl, rfl⟩
theorem wfs_fit (xs : List WsT) : recfit.sp [2, 2] (wfs.sv xs) = true := by
  unfold recfit.sp
  rw [decide_eq_true_eq]
  intro p hp
  rw [wfs_len] at hp
  obtain ⟨a, b⟩ := wfs_at xs (p / 2) (by omega)
  rw [List.getD_eq_getElem?_getD]
  have hm : p % 2 = 0 ∨ p % 2 = 1 := by omega
  have hl : ([2, 2] : List Nat).length = 2 := rfl
  rw [hl]
  rcases hm with h | h
  · rw [show p / 2 * 2 = p by omega] at a; rw [a, h]; rfl
  · rw [show p / 2 * 2 + 1 = p by omega] at b; rw [b, h]; rfl
theorem wg_mem {xs : List WsT} {i : Nat} (h : i < xs.length) : wg xs i ∈ xs ∧ xs[i] = wg xs i := by
  have e : wg xs i = xs[i] := by unfold wg; rw [List.getD_eq_getElem?_getD, List.getElem?_eq_getElem h]; rfl
  exact ⟨by rw [e]; exact List.getElem_mem h, e.symm⟩
theorem wg_drop {xs : List WsT} {i : Nat} (h : i < xs.length) : xs.drop i = wg xs i :: xs.drop (i + 1) := by
  rw [List.drop_eq_getElem_cons h, (wg_mem h).2]
theorem wg_take {xs : List WsT} {i : Nat} (h : i < xs.length) : xs.take (i + 1) = xs.take i ++ [wg xs i] := by
  rw [List.take_add_one, List.getElem?_eq_getElem h, (wg_mem h).2]; rfl
namespace wss
theorem short_at {n : Nat} {xs : List WsT} (h : short.sp n xs = true) {i : Nat} (hi : i < xs.length) : (wg xs i).1.length ≤ n ∧ (wg xs i).2.length ≤ n ∧ Ab.short.sp n (wg xs i).1 = true ∧ Ab.short.sp n (wg xs i).2 = true := by
  have := List.all_eq_true.1 h _ (wg_mem hi).1
  simp only [Bool.and_eq_true, decide_eq_true_eq] at this
  exact ⟨this.1.1, this.1.2, this.2.1, this.2.2⟩
theorem few_at {xs : List WsT} (h : few.sp xs = true) {i : Nat} (hi : i < xs.length) : tot.sv (wg xs i).1 ≤ 1000000000 := by
  have := List.all_eq_true.1 h _ (wg_mem hi).1
  simpa using this
theorem rows_mono {n k : Nat} (hk : n ≤ k) {xs : List (List Int)} (h : Ab.short.sp n xs = true) : Ab.short.sp k xs = true := by
  unfold Ab.short.sp at *
  rw [List.all_eq_true] at *
  intro g hg
  have := h g hg
  simp only [decide_eq_true_eq] at *
  omega
theorem short_mono {n k : Nat} (hk : n ≤ k) {xs : List WsT} (h : short.sp n xs = true) : short.sp k xs = true := by
  unfold short.sp at *
  rw [List.all_eq_true] at *
  intro g hg
  have := h g hg
  simp only [Bool.and_eq_true, decide_eq_true_eq] at *
  exact ⟨by omega, rows_mono hk this.2.1, rows_mono hk this.2.2⟩
end wss
theorem ask.go_len (ls rs : List (List Int)) (ss : List Int) : ∀ (d : Nat) (mt ak : List Int) (c : Int), (ask.go ls rs ss d mt ak c).1.length = mt.length := by
  intro d
  induction d with
  | zero => intro mt ak c; rfl
  | succ d ih =>
    intro mt ak c
    simp only [ask.go]
    cases decide (ask.fi.sv ls mt ak < 0)
    · rw [cond_false, ih]
      unfold ask.m2.sv
      cases (gr rs (ask.bw.sv ls ak (ask.fi.sv ls mt ak)).toNat).any (has.sp (ask.fi.sv ls mt ak))
      · rfl
      · rw [cond_true]
        cases decide (gz ss (ask.bw.sv ls ak (ask.fi.sv ls mt ak)).toNat < ask.hc.sv (ask.bw.sv ls ak (ask.fi.sv ls mt ak)) (mt.set (ask.fi.sv ls mt ak).toNat (ask.bw.sv ls ak (ask.fi.sv ls mt ak))))
        · rw [cond_false, List.length_set]
        · rw [cond_true, List.length_set, List.length_set]
    · rfl
theorem ask.om_len (ls rs : List (List Int)) (ss : List Int) : (ask.om.sv ls rs ss).length = ls.length := by
  unfold ask.om.sv
  rw [ask.go_len, List.length_replicate]
def jw.o.sv (ls rs : List (List Int)) : List Int := bif vw.sp ls rs then wss.m.sv ls rs else []
def jw.c.sv (ls rs : List (List Int)) : Int := bif vw.sp ls rs then ask.ct.sv ls rs (List.replicate ls.length 1) else 0
namespace jAskS
/-- The match, or none. -/
def R (args : List AVal) : Option (Bool × AVal) := match args with
  | [.agg [.ro (.rows .i64 ls) m 1, .ro (.rows .i64 rs) k 1]] => some (decide (m = ls.length ∧ m ≤ 4611686018427387904 ∧ k = rs.length ∧ k ≤ 4611686018427387904 ∧ tot.sv ls ≤ 1000000000) && (short.sp 4611686018427387904 ls && short.sp 4611686018427387904 rs), .tup [.ro (.ints .i64 (jw.o.sv ls rs)) (jw.o.sv ls rs).length 1, .int .i64 (jw.c.sv ls rs), .bool (vw.sp ls rs)])
  | _ => none
theorem ok : EntFOk Try.prog ⟨43, R⟩ := by
  refine EntFOk.cases sAskMatch_t.ok.nro sAskMatch_f.ok.nro fun args v h => ?_
  unfold R at h
  split at h
  · rename_i ls m rs k
    simp only [Option.some.injEq, Prod.mk.injEq, Bool.and_eq_true, decide_eq_true_eq] at h
    obtain ⟨⟨⟨rfl, h1, rfl, h2, ht⟩, h3, h4⟩, rfl⟩ := h
    cases hb : vw.sp ls rs
    · right
      have ev : jw.o.sv ls rs = [] := by unfold jw.o.sv; rw [hb]; rfl
      have ec : jw.c.sv ls rs = 0 := by unfold jw.c.sv; rw [hb]; rfl
      have e : sAskMatch_f.R [.agg [.ro (.rows .i64 ls) ls.length 1, .ro (.rows .i64 rs) rs.length 1]] = some (true, .tup [.nils, .int .i64 0, .bool false], []) := by
        simp only [sAskMatch_f.R, h1, h2, h3, h4, ht, hb, and_self, decide_true, Bool.and_self, Bool.not_false]
      unfold layN layF
      rw [e, ev, ec]
      rfl
    · left
      have ev : jw.o.sv ls rs = ask.om.sv ls rs (List.replicate ls.length 1) := by unfold jw.o.sv; rw [hb]; rfl
      have ec : jw.c.sv ls rs = ask.ct.sv ls rs (List.replicate ls.length 1) := by unfold jw.c.sv; rw [hb]; rfl
      have e : sAskMatch_t.R [.agg [.ro (.rows .i64 ls) ls.length 1, .ro (.rows .i64 rs) rs.length 1]] = some (true, .tup [.own 0 0 ls.length 0 1, .int .i64 (ask.ct.sv ls rs (List.replicate ls.length 1)), .bool true], [⟨.typ (.ints .i64 (ask.om.sv ls rs (List.replicate ls.length 1))), 0⟩]) := by
        simp only [sAskMatch_t.R, h1, h2, h3, h4, ht, hb, and_self, decide_true, Bool.and_self]
      unfold layN layF
      rw [e, ev, ec, ask.om_len]
      rfl
  · cases h
end jAskS
namespace jAskI
/-- The match, or none. -/
def R (args : List AVal) : Option (Bool × AVal) := match args with
  | [.agg [.ro (.rows .i64 ls) m 1, .ro (.rows .i64 rs) k 1]] => some (decide (m = ls.length ∧ m ≤ 4611686018427387904 ∧ k = rs.length ∧ k ≤ 4611686018427387904 ∧ tot.sv ls ≤ 1000000000) && (short.sp 4611686018427387904 ls && short.sp 4611686018427387904 rs), .tup [.ro (.ints .i64 (jw.o.sv ls rs)) (jw.o.sv ls rs).length 1, .int .i64 (jw.c.sv ls rs), .bool (vw.sp ls rs)])
  | _ => none
theorem ok : EntFOk Try.prog ⟨45, R⟩ := by
  refine EntFOk.cases iAskMatch_t.ok.nro iAskMatch_f.ok.nro fun args v h => ?_
  unfold R at h
  split at h
  · rename_i ls m rs k
    simp only [Option.some.injEq, Prod.mk.injEq, Bool.and_eq_true, decide_eq_true_eq] at h
    obtain ⟨⟨⟨rfl, h1, rfl, h2, ht⟩, h3, h4⟩, rfl⟩ := h
    cases hb : vw.sp ls rs
    · right
      have ev : jw.o.sv ls rs = [] := by unfold jw.o.sv; rw [hb]; rfl
      have ec : jw.c.sv ls rs = 0 := by unfold jw.c.sv; rw [hb]; rfl
      have e : iAskMatch_f.R [.agg [.ro (.rows .i64 ls) ls.length 1, .ro (.rows .i64 rs) rs.length 1]] = some (true, .tup [.nils, .int .i64 0, .bool false], []) := by
        simp only [iAskMatch_f.R, h1, h2, h3, h4, ht, hb, and_self, decide_true, Bool.and_self, Bool.not_false]
      unfold layN layF
      rw [e, ev, ec]
      rfl
    · left
      have ev : jw.o.sv ls rs = ask.om.sv ls rs (List.replicate ls.length 1) := by unfold jw.o.sv; rw [hb]; rfl
      have ec : jw.c.sv ls rs = ask.ct.sv ls rs (List.replicate ls.length 1) := by unfold jw.c.sv; rw [hb]; rfl
      have e : iAskMatch_t.R [.agg [.ro (.rows .i64 ls) ls.length 1, .ro (.rows .i64 rs) rs.length 1]] = some (true, .tup [.own 0 0 ls.length 0 1, .int .i64 (ask.ct.sv ls rs (List.replicate ls.length 1)), .bool true], [⟨.typ (.ints .i64 (ask.om.sv ls rs (List.replicate ls.length 1))), 0⟩]) := by
        simp only [iAskMatch_t.R, h1, h2, h3, h4, ht, hb, and_self, decide_true, Bool.and_self]
      unfold layN layF
      rw [e, ev, ec, ask.om_len]
      rfl
  · cases h
end jAskI
namespace iWishesShared
def Rf : List AVal → Option (Bool × AVal × List Blk)
  | [.ro (.recs [2, 2] fs) m 2, .int .i64 w] => some (decide (fs.length = m * 2) && (wsh.sp fs && (wss.short.sp 4611686018427387904 (wof.sv fs) && (wss.few.sp (wof.sv fs) && !wss.sp (wof.sv fs) w))), .tup [.nils, .bool false], [])
  | _ => none
def hd : Nat → Head := fun _ => ⟨[4, 5, 6, 21, 22, 23], some 1⟩
noncomputable def L (f n : Nat) (s : State) := loopAt Try.prog (orcF [⟨45, jAskI.R⟩] (orc [⟨33, areWorkers.R⟩])) hd Dr.std 0 f (bodyOf Try.f25) 0 [true, true, true, false, true] (retK Try.prog [4, 5] 0 none) n s
theorem start (fs : List Fld) (m : Nat) (w : Int) (f : Nat) :
  runFn Try.prog (orcF [⟨45, jAskI.R⟩] (orc [⟨33, areWorkers.R⟩])) hd Dr.std none f (bodyOf Try.f25) 41 [4, 5] [.ro (.recs [2, 2] fs) m 2, .int .i64 w] []
  = (bif decide ((8 : Int) < (↑m : Int)) then some (AVal.tup [AVal.nils, AVal.bool false], []) else bif true && (true && true || true && true) then bif !(decide ((1 : Int) ≤ w) && decide (w ≤ (8 : Int))) then some (AVal.tup [AVal.nils, AVal.bool false], []) else L f f (mkS (41 : Nat) [((4 : Nat), AVal.nils), ((5 : Nat), AVal.bool false), ((6 : Nat), AVal.own (0 : Nat) (0 : Nat) (0 : Nat) (0 : Nat) (1 : Nat)), ((21 : Nat), AVal.ro (Cont.recs [(2 : Nat), (2 : Nat)] fs) m (2 : Nat)), ((22 : Nat), AVal.int IntKind.i64 (↑m : Int)), ((23 : Nat), AVal.int IntKind.i64 (0 : Int))] [{ c := BC.typ (Cont.rows IntKind.i64 (List.replicate (0 : Nat) [])), ver := (0 : Nat) }]) else none) := by kernel_rfl
theorem round (fs : List Fld) (m q i : Nat) (os : List (List Int)) (f n : Nat) :
  L f (n + 1) (mkS 41 [(4, .nils), (5, .bool false), (6, .own 0 0 q 0 1), (21, .ro (.recs [2, 2] fs) m 2), (22, .int .i64 m), (23, .int .i64 i)] [⟨.typ (.rows .i64 os), 0⟩])
  = (bif decide ((↑i : Int) < (↑m : Int)) then bif true && (true && (recfit.sp [(2 : Nat), (2 : Nat)] fs && (decide ((0 : Int) ≤ (↑i : Int)) && decide ((↑i : Int) < (↑m : Int))))) then bif true && true && (true && true && true) then bif decide ((recR.sv fs (addL ((↑i : Int).toNat * nat_lit 2) (0 : Nat))).length = (recR.sv fs (addL ((↑i : Int).toNat * nat_lit 2) (0 : Nat))).length ∧ (recR.sv fs (addL ((↑i : Int).toNat * nat_lit 2) (0 : Nat))).length ≤ (4611686018427387904 : Nat) ∧ (recR.sv fs (addL ((↑i : Int).toNat * nat_lit 2) ((0 : Nat) + (1 : Nat)))).length = (recR.sv fs (addL ((↑i : Int).toNat * nat_lit 2) ((0 : Nat) + (1 : Nat)))).length ∧ (recR.sv fs (addL ((↑i : Int).toNat * nat_lit 2) ((0 : Nat) + (1 : Nat)))).length ≤ (4611686018427387904 : Nat) ∧ tot.sv (recR.sv fs (addL ((↑i : Int).toNat * nat_lit 2) (0 : Nat))) ≤ (1000000000 : Nat)) && (short.sp (4611686018427387904 : Nat) (recR.sv fs (addL ((↑i : Int).toNat * (2 : Nat)) (0 : Nat))) && short.sp (4611686018427387904 : Nat) (recR.sv fs (addL ((↑i : Int).toNat * (2 : Nat)) (1 : Nat)))) then bif !vw.sp (recR.sv fs (addL ((↑i : Int).toNat * (2 : Nat)) (0 : Nat))) (recR.sv fs (addL ((↑i : Int).toNat * (2 : Nat)) (1 : Nat))) then some (AVal.tup [AVal.nils, AVal.bool false], [{ c := BC.typ (Cont.rows IntKind.i64 os), ver := (0 : Nat) }]) else bif (1 : Nat) == (1 : Nat) && (1 : Nat) == (1 : Nat) && (true && (true && true) && (true && true && (decide (q + (List.take (1 : Nat) (List.drop (0 : Nat) ((List.replicate (1 : Nat) []).set (0 : Nat) (List.take (jw.o.sv (recR.sv fs (addL ((↑i : Int).toNat * (2 : Nat)) (0 : Nat))) (recR.sv fs (addL ((↑i : Int).toNat * (2 : Nat)) (1 : Nat)))).length (jw.o.sv (recR.sv fs (addL ((↑i : Int).toNat * (2 : Nat)) (0 : Nat))) (recR.sv fs (addL ((↑i : Int).toNat * (2 : Nat)) (1 : Nat)))))))).length ≤ (4611686018427387904 : Nat)) && decide ((q + (List.take (1 : Nat) (List.drop (0 : Nat) ((List.replicate (1 : Nat) []).set (0 : Nat) (List.take (jw.o.sv (recR.sv fs (addL ((↑i : Int).toNat * (2 : Nat)) (0 : Nat))) (recR.sv fs (addL ((↑i : Int).toNat * (2 : Nat)) (1 : Nat)))).length (jw.o.sv (recR.sv fs (addL ((↑i : Int).toNat * (2 : Nat)) (0 : Nat))) (recR.sv fs (addL ((↑i : Int).toNat * (2 : Nat)) (1 : Nat)))))))).length) * (24 : Nat) ≤ (140737488355328 : Nat))))) then L f n (mkS (41 : Nat) [((4 : Nat), AVal.nils), ((5 : Nat), AVal.bool false), ((6 : Nat), AVal.own (0 : Nat) (0 : Nat) (q + (List.take (1 : Nat) (List.drop (0 : Nat) ((List.replicate (1 : Nat) []).set (0 : Nat) (List.take (jw.o.sv (recR.sv fs (addL ((↑i : Int).toNat * (2 : Nat)) (0 : Nat))) (recR.sv fs (addL ((↑i : Int).toNat * (2 : Nat)) (1 : Nat)))).length (jw.o.sv (recR.sv fs (addL ((↑i : Int).toNat * (2 : Nat)) (0 : Nat))) (recR.sv fs (addL ((↑i : Int).toNat * (2 : Nat)) (1 : Nat)))))))).length) (0 : Nat) (1 : Nat)), ((21 : Nat), AVal.ro (Cont.recs [(2 : Nat), (2 : Nat)] fs) m (2 : Nat)), ((22 : Nat), AVal.int IntKind.i64 (↑m : Int)), ((23 : Nat), AVal.int IntKind.i64 (IntKind.i64.wrap ((↑i : Int) + (1 : Int))))] [{ c := BC.typ (Cont.rows IntKind.i64 (List.take q os ++ List.take (1 : Nat) (List.drop (0 : Nat) ((List.replicate (1 : Nat) []).set (0 : Nat) (List.take (jw.o.sv (recR.sv fs (addL ((↑i : Int).toNat * (2 : Nat)) (0 : Nat))) (recR.sv fs (addL ((↑i : Int).toNat * (2 : Nat)) (1 : Nat)))).length (jw.o.sv (recR.sv fs (addL ((↑i : Int).toNat * (2 : Nat)) (0 : Nat))) (recR.sv fs (addL ((↑i : Int).toNat * (2 : Nat)) (1 : Nat))))))))), ver := (0 : Nat) }]) else none else none else none else none else some (AVal.tup [AVal.own (0 : Nat) (0 : Nat) q (0 : Nat) (1 : Nat), AVal.bool true], [{ c := BC.typ (Cont.rows IntKind.i64 os), ver := (0 : Nat) }])) := by kernel_rfl
theorem loop_f (xs : List WsT) (f : Nat) (hx : xs.length ≤ 8) (hs : wss.short.sp 4611686018427387904 xs = true) (hw : wss.few.sp xs = true) (hf : 64 < f) : ∀ (d i n : Nat) (os : List (List Int)), i + d = xs.length → d < n → os.length = i → (xs.drop i).all wss.v.sp = false →
    ∃ H', L f n (mkS 41 [(4, .nils), (5, .bool false), (6, .own 0 0 i 0 1), (21, .ro (.recs [2, 2] (wfs.sv xs)) xs.length 2), (22, .int .i64 (xs.length : Int)), (23, .int .i64 (i : Int))] [⟨.typ (.rows .i64 os), 0⟩]) = some (.tup [.nils, .bool false], H') := by
  intro d
  induction d with
  | zero =>
    intro i n os hi hn hl hv
    rw [List.drop_of_length_le (by omega)] at hv
    cases hv
  | succ d ih =>
    intro i n os hi hn hl hv
    obtain ⟨n, rfl⟩ : ∃ k, n = k + 1 := ⟨n - 1, by omega⟩
    have hlt : i < xs.length := by omega
    rw [wg_drop hlt, List.all_cons] at hv
    obtain ⟨r1, r2⟩ := wfs_rec hlt
    obtain ⟨s1, s2, s3, s4⟩ := wss.short_at hs hlt
    have s5 := wss.few_at hw hlt
    have ft := wfs_fit xs
    have tt : os.take i = os := List.take_of_length_le (by omega)
    cases vv : vw.sp (wg xs i).1 (wg xs i).2
    · apply Exists.intro
      rw [round]
      simp -implicitDefEqProofs (disch := omega) only [r1, r2, s1, s2, s3, s4, s5, ft, vv, tt, addL_eq, mulN_eq, beq_self_eq_true, Nat.le_refl, hl, take_one, set_one, decide_eq_true, decide_eq_false, IntWalk.i64_in, beqT, beqF, bneT, bneF, nat_succ, ← Int.natCast_mul, ← Int.natCast_add, Int.toNat_natCast, Int.zero_mul, Int.zero_add, Int.add_zero, Nat.zero_add, Nat.add_zero, Nat.zero_mul, List.length_singleton, List.length_append, List.length_nil, List.length_cons, List.take_length, List.drop_zero, List.replicate_zero, List.take_nil, List.nil_append, Nat.reduceBEq, Nat.reduceMul, Nat.reduceLeDiff, eq_self, and_self, true_and, and_true, decide_true, decide_false, Bool.and_self, Bool.or_self, Bool.and_true, Bool.true_and, Bool.and_false, Bool.false_and, Bool.or_true, Bool.true_or, Bool.or_false, Bool.false_or, Bool.not_true, Bool.not_false, cond_true, cond_false]
      rfl
    · have hv : (xs.drop (i + 1)).all wss.v.sp = false := by
        have e : wss.v.sp (wg xs i) = true := vv
        rw [e, Bool.true_and] at hv; exact hv
      have t2 : (jw.o.sv (wg xs i).1 (wg xs i).2).take (jw.o.sv (wg xs i).1 (wg xs i).2).length = jw.o.sv (wg xs i).1 (wg xs i).2 := List.take_length
      obtain ⟨H', g⟩ := ih (i + 1) n (os ++ [jw.o.sv (wg xs i).1 (wg xs i).2]) (by omega) (by omega) (by simp [hl]) hv
      refine ⟨H', ?_⟩
      rw [round]
      simp -implicitDefEqProofs (disch := omega) only [r1, r2, s1, s2, s3, s4, s5, ft, vv, tt, addL_eq, mulN_eq, beq_self_eq_true, Nat.le_refl, hl, t2, take_one, set_one, decide_eq_true, decide_eq_false, IntWalk.i64_in, beqT, beqF, bneT, bneF, nat_succ, ← Int.natCast_mul, ← Int.natCast_add, Int.toNat_natCast, Int.zero_mul, Int.zero_add, Int.add_zero, Nat.zero_add, Nat.add_zero, Nat.zero_mul, List.length_singleton, List.length_append, List.length_nil, List.length_cons, List.take_length, List.drop_zero, List.replicate_zero, List.take_nil, List.nil_append, Nat.reduceBEq, Nat.reduceMul, Nat.reduceLeDiff, eq_self, and_self, true_and, and_true, decide_true, decide_false, Bool.and_self, Bool.or_self, Bool.and_true, Bool.true_and, Bool.and_false, Bool.false_and, Bool.or_true, Bool.true_or, Bool.or_false, Bool.false_or, Bool.not_true, Bool.not_false, cond_true, cond_false]
      exact g
theorem runf : ∀ args v new, Rf args = some (true, v, new) → ∃ fuel, regc [] (runFn Try.prog (orcF [⟨45, jAskI.R⟩] (orc [⟨33, areWorkers.R⟩])) hd Dr.std none fuel (bodyOf Try.f25) 41 [4, 5] args []) = some (v, new) := by
  intro args v new h
  unfold Rf at h
  split at h
  · rename_i fs m w
    simp only [Option.some.injEq, Prod.mk.injEq, Bool.and_eq_true, decide_eq_true_eq, Bool.not_eq_true'] at h
    obtain ⟨⟨hl, hs, hsh, hw, hsp⟩, rfl, rfl⟩ := h
    obtain ⟨xs, rfl⟩ : ∃ xs, fs = wfs.sv xs := ⟨_, (wsh_eq hs).symm⟩
    rw [(wsh_of xs).2] at *
    rw [wfs_len] at hl
    obtain rfl : m = xs.length := by omega
    simp only [wss.sp] at hsp
    obtain ⟨F, hF⟩ : ∃ F : Nat, F = 100 := ⟨100, rfl⟩
    refine ⟨F, ?_⟩
    rw [start]
    by_cases k1 : (8 : Int) < (xs.length : Int)
    · simp -implicitDefEqProofs (disch := omega) only [take_one, set_one, decide_eq_true, decide_eq_false, IntWalk.i64_in, beqT, beqF, bneT, bneF, nat_succ, ← Int.natCast_mul, ← Int.natCast_add, Int.toNat_natCast, Int.zero_mul, Int.zero_add, Int.add_zero, Nat.zero_add, Nat.add_zero, Nat.zero_mul, List.length_singleton, List.length_append, List.length_nil, List.length_cons, List.take_length, List.drop_zero, List.replicate_zero, List.take_nil, List.nil_append, Nat.reduceBEq, Nat.reduceMul, Nat.reduceLeDiff, eq_self, and_self, true_and, and_true, decide_true, decide_false, Bool.and_self, Bool.or_self, Bool.and_true, Bool.true_and, Bool.and_false, Bool.false_and, Bool.or_true, Bool.true_or, Bool.or_false, Bool.false_or, Bool.not_true, Bool.not_false, cond_true, cond_false]
      rfl
    cases k2 : (decide (1 ≤ w) && decide (w ≤ 8))
    · simp -implicitDefEqProofs (disch := omega) only [k2, take_one, set_one, decide_eq_true, decide_eq_false, IntWalk.i64_in, beqT, beqF, bneT, bneF, nat_succ, ← Int.natCast_mul, ← Int.natCast_add, Int.toNat_natCast, Int.zero_mul, Int.zero_add, Int.add_zero, Nat.zero_add, Nat.add_zero, Nat.zero_mul, List.length_singleton, List.length_append, List.length_nil, List.length_cons, List.take_length, List.drop_zero, List.replicate_zero, List.take_nil, List.nil_append, Nat.reduceBEq, Nat.reduceMul, Nat.reduceLeDiff, eq_self, and_self, true_and, and_true, decide_true, decide_false, Bool.and_self, Bool.or_self, Bool.and_true, Bool.true_and, Bool.and_false, Bool.false_and, Bool.or_true, Bool.true_or, Bool.or_false, Bool.false_or, Bool.not_true, Bool.not_false, cond_true, cond_false]
      rfl
    · rw [k2, decide_eq_true (show xs.length ≤ 8 by omega), Bool.true_and, Bool.true_and] at hsp
      obtain ⟨H', g⟩ := loop_f xs F (by omega) hsh hw (by omega) xs.length 0 F [] (by omega) (by omega) rfl (by rw [List.drop_zero]; exact hsp)
      simp -implicitDefEqProofs (disch := omega) only [k2, take_one, set_one, decide_eq_true, decide_eq_false, IntWalk.i64_in, beqT, beqF, bneT, bneF, nat_succ, ← Int.natCast_mul, ← Int.natCast_add, Int.toNat_natCast, Int.zero_mul, Int.zero_add, Int.add_zero, Nat.zero_add, Nat.add_zero, Nat.zero_mul, List.length_singleton, List.length_append, List.length_nil, List.length_cons, List.take_length, List.drop_zero, List.replicate_zero, List.take_nil, List.nil_append, Nat.reduceBEq, Nat.reduceMul, Nat.reduceLeDiff, eq_self, and_self, true_and, and_true, decide_true, decide_false, Bool.and_self, Bool.or_self, Bool.and_true, Bool.true_and, Bool.and_false, Bool.false_and, Bool.or_true, Bool.true_or, Bool.or_false, Bool.false_or, Bool.not_true, Bool.not_false, cond_true, cond_false]
      exact (congrArg (regc []) g).trans rfl
  · cases h
theorem okf : EntOk Try.prog ⟨25, Rf⟩ :=
  ent_okAG (ks := []) mixed (A := (orcF [⟨45, jAskI.R⟩] (orc [⟨33, areWorkers.R⟩]))) (orcF_ok (by simp only [List.mem_cons, List.not_mem_nil, or_false, forall_eq_or_imp, forall_eq]; exact jAskI.ok) (orc_ok (by simp only [List.mem_cons, List.not_mem_nil, or_false, forall_eq_or_imp, forall_eq]; exact areWorkers.ok))) Try.func25 (by kernel_rfl) (by kernel_rfl) (n := 41) (ts := [4, 5]) (hd := hd) (dr := Dr.std) (cut := none) (by kernel_rfl) (by kernel_rfl) (by kernel_rfl) runf
end iWishesShared

namespace sWishesShared
def Rf : List AVal → Option (Bool × AVal × List Blk)
  | [.ro (.recs [2, 2] fs) m 2, .int .i64 w] => some (decide (fs.length = m * 2) && (wsh.sp fs && (wss.short.sp 4611686018427387904 (wof.sv fs) && (wss.few.sp (wof.sv fs) && !wss.sp (wof.sv fs) w))), .tup [.nils, .bool false], [])
  | _ => none
def hd : Nat → Head := fun _ => ⟨[0, 4, 5, 6, 21, 22], some 1⟩
noncomputable def L (f n : Nat) (s : State) := loopAt Try.prog (orcF [⟨43, jAskS.R⟩] (orc [⟨29, l00In.R⟩])) hd Dr.std 0 f (bodyOf Try.f23) 0 [true, true, true, false, true] (retK Try.prog [4, 5] 0 none) n s
theorem start (fs : List Fld) (m : Nat) (w : Int) (f : Nat) :
  runFn Try.prog (orcF [⟨43, jAskS.R⟩] (orc [⟨29, l00In.R⟩])) hd Dr.std none f (bodyOf Try.f23) 42 [4, 5] [.ro (.recs [2, 2] fs) m 2, .int .i64 w] []
  = (bif decide ((8 : Int) < (↑m : Int)) then some (AVal.tup [AVal.nils, AVal.bool false], []) else bif true && (true && true || true && true) then bif !(decide ((1 : Int) ≤ w) && decide (w ≤ (8 : Int))) then some (AVal.tup [AVal.nils, AVal.bool false], []) else L f f (mkS (42 : Nat) [((0 : Nat), AVal.ro (Cont.recs [(2 : Nat), (2 : Nat)] fs) m (2 : Nat)), ((4 : Nat), AVal.nils), ((5 : Nat), AVal.bool false), ((6 : Nat), AVal.own (0 : Nat) (0 : Nat) (0 : Nat) (0 : Nat) (1 : Nat)), ((21 : Nat), AVal.int IntKind.i64 (↑m : Int)), ((22 : Nat), AVal.int IntKind.i64 (0 : Int))] [{ c := BC.typ (Cont.rows IntKind.i64 (List.replicate (0 : Nat) [])), ver := (0 : Nat) }]) else none) := by kernel_rfl
theorem round (fs : List Fld) (m q i : Nat) (os : List (List Int)) (f n : Nat) :
  L f (n + 1) (mkS 42 [(0, .ro (.recs [2, 2] fs) m 2), (4, .nils), (5, .bool false), (6, .own 0 0 q 0 1), (21, .int .i64 m), (22, .int .i64 i)] [⟨.typ (.rows .i64 os), 0⟩])
  = (bif decide ((↑i : Int) < (↑m : Int)) then bif true && (true && (recfit.sp [(2 : Nat), (2 : Nat)] fs && (decide ((0 : Int) ≤ (↑i : Int)) && decide ((↑i : Int) < (↑m : Int))))) then bif decide ((recR.sv fs (addL ((↑i : Int).toNat * nat_lit 2) (0 : Nat))).length = (recR.sv fs (addL ((↑i : Int).toNat * nat_lit 2) (0 : Nat))).length ∧ (recR.sv fs (addL ((↑i : Int).toNat * nat_lit 2) (0 : Nat))).length ≤ (4611686018427387904 : Nat) ∧ (recR.sv fs (addL ((↑i : Int).toNat * nat_lit 2) ((0 : Nat) + (1 : Nat)))).length = (recR.sv fs (addL ((↑i : Int).toNat * nat_lit 2) ((0 : Nat) + (1 : Nat)))).length ∧ (recR.sv fs (addL ((↑i : Int).toNat * nat_lit 2) ((0 : Nat) + (1 : Nat)))).length ≤ (4611686018427387904 : Nat) ∧ tot.sv (recR.sv fs (addL ((↑i : Int).toNat * nat_lit 2) (0 : Nat))) ≤ (1000000000 : Nat)) && (short.sp (4611686018427387904 : Nat) (recR.sv fs (addL ((↑i : Int).toNat * (2 : Nat)) (0 : Nat))) && short.sp (4611686018427387904 : Nat) (recR.sv fs (addL ((↑i : Int).toNat * (2 : Nat)) (1 : Nat)))) then bif !vw.sp (recR.sv fs (addL ((↑i : Int).toNat * (2 : Nat)) (0 : Nat))) (recR.sv fs (addL ((↑i : Int).toNat * (2 : Nat)) (1 : Nat))) then some (AVal.tup [AVal.nils, AVal.bool false], [{ c := BC.typ (Cont.rows IntKind.i64 os), ver := (0 : Nat) }]) else bif (1 : Nat) == (1 : Nat) && (1 : Nat) == (1 : Nat) && (true && (true && true) && (true && true && (decide (q + (List.take (1 : Nat) (List.drop (0 : Nat) ((List.replicate (1 : Nat) []).set (0 : Nat) (List.take (jw.o.sv (recR.sv fs (addL ((↑i : Int).toNat * (2 : Nat)) (0 : Nat))) (recR.sv fs (addL ((↑i : Int).toNat * (2 : Nat)) (1 : Nat)))).length (jw.o.sv (recR.sv fs (addL ((↑i : Int).toNat * (2 : Nat)) (0 : Nat))) (recR.sv fs (addL ((↑i : Int).toNat * (2 : Nat)) (1 : Nat)))))))).length ≤ (4611686018427387904 : Nat)) && decide ((q + (List.take (1 : Nat) (List.drop (0 : Nat) ((List.replicate (1 : Nat) []).set (0 : Nat) (List.take (jw.o.sv (recR.sv fs (addL ((↑i : Int).toNat * (2 : Nat)) (0 : Nat))) (recR.sv fs (addL ((↑i : Int).toNat * (2 : Nat)) (1 : Nat)))).length (jw.o.sv (recR.sv fs (addL ((↑i : Int).toNat * (2 : Nat)) (0 : Nat))) (recR.sv fs (addL ((↑i : Int).toNat * (2 : Nat)) (1 : Nat)))))))).length) * (24 : Nat) ≤ (140737488355328 : Nat))))) then L f n (mkS (42 : Nat) [((0 : Nat), AVal.ro (Cont.recs [(2 : Nat), (2 : Nat)] fs) m (2 : Nat)), ((4 : Nat), AVal.nils), ((5 : Nat), AVal.bool false), ((6 : Nat), AVal.own (0 : Nat) (0 : Nat) (q + (List.take (1 : Nat) (List.drop (0 : Nat) ((List.replicate (1 : Nat) []).set (0 : Nat) (List.take (jw.o.sv (recR.sv fs (addL ((↑i : Int).toNat * (2 : Nat)) (0 : Nat))) (recR.sv fs (addL ((↑i : Int).toNat * (2 : Nat)) (1 : Nat)))).length (jw.o.sv (recR.sv fs (addL ((↑i : Int).toNat * (2 : Nat)) (0 : Nat))) (recR.sv fs (addL ((↑i : Int).toNat * (2 : Nat)) (1 : Nat)))))))).length) (0 : Nat) (1 : Nat)), ((21 : Nat), AVal.int IntKind.i64 (↑m : Int)), ((22 : Nat), AVal.int IntKind.i64 (IntKind.i64.wrap ((↑i : Int) + (1 : Int))))] [{ c := BC.typ (Cont.rows IntKind.i64 (List.take q os ++ List.take (1 : Nat) (List.drop (0 : Nat) ((List.replicate (1 : Nat) []).set (0 : Nat) (List.take (jw.o.sv (recR.sv fs (addL ((↑i : Int).toNat * (2 : Nat)) (0 : Nat))) (recR.sv fs (addL ((↑i : Int).toNat * (2 : Nat)) (1 : Nat)))).length (jw.o.sv (recR.sv fs (addL ((↑i : Int).toNat * (2 : Nat)) (0 : Nat))) (recR.sv fs (addL ((↑i : Int).toNat * (2 : Nat)) (1 : Nat))))))))), ver := (0 : Nat) }]) else none else none else none else some (AVal.tup [AVal.own (0 : Nat) (0 : Nat) q (0 : Nat) (1 : Nat), AVal.bool true], [{ c := BC.typ (Cont.rows IntKind.i64 os), ver := (0 : Nat) }])) := by kernel_rfl
theorem loop_f (xs : List WsT) (f : Nat) (hx : xs.length ≤ 8) (hs : wss.short.sp 4611686018427387904 xs = true) (hw : wss.few.sp xs = true) (hf : 64 < f) : ∀ (d i n : Nat) (os : List (List Int)), i + d = xs.length → d < n → os.length = i → (xs.drop i).all wss.v.sp = false →
    ∃ H', L f n (mkS 42 [(0, .ro (.recs [2, 2] (wfs.sv xs)) xs.length 2), (4, .nils), (5, .bool false), (6, .own 0 0 i 0 1), (21, .int .i64 (xs.length : Int)), (22, .int .i64 (i : Int))] [⟨.typ (.rows .i64 os), 0⟩]) = some (.tup [.nils, .bool false], H') := by
  intro d
  induction d with
  | zero =>
    intro i n os hi hn hl hv
    rw [List.drop_of_length_le (by omega)] at hv
    cases hv
  | succ d ih =>
    intro i n os hi hn hl hv
    obtain ⟨n, rfl⟩ : ∃ k, n = k + 1 := ⟨n - 1, by omega⟩
    have hlt : i < xs.length := by omega
    rw [wg_drop hlt, List.all_cons] at hv
    obtain ⟨r1, r2⟩ := wfs_rec hlt
    obtain ⟨s1, s2, s3, s4⟩ := wss.short_at hs hlt
    have s5 := wss.few_at hw hlt
    have ft := wfs_fit xs
    have tt : os.take i = os := List.take_of_length_le (by omega)
    cases vv : vw.sp (wg xs i).1 (wg xs i).2
    · apply Exists.intro
      rw [round]
      simp -implicitDefEqProofs (disch := omega) only [r1, r2, s1, s2, s3, s4, s5, ft, vv, tt, addL_eq, mulN_eq, beq_self_eq_true, Nat.le_refl, hl, take_one, set_one, decide_eq_true, decide_eq_false, IntWalk.i64_in, beqT, beqF, bneT, bneF, nat_succ, ← Int.natCast_mul, ← Int.natCast_add, Int.toNat_natCast, Int.zero_mul, Int.zero_add, Int.add_zero, Nat.zero_add, Nat.add_zero, Nat.zero_mul, List.length_singleton, List.length_append, List.length_nil, List.length_cons, List.take_length, List.drop_zero, List.replicate_zero, List.take_nil, List.nil_append, Nat.reduceBEq, Nat.reduceMul, Nat.reduceLeDiff, eq_self, and_self, true_and, and_true, decide_true, decide_false, Bool.and_self, Bool.or_self, Bool.and_true, Bool.true_and, Bool.and_false, Bool.false_and, Bool.or_true, Bool.true_or, Bool.or_false, Bool.false_or, Bool.not_true, Bool.not_false, cond_true, cond_false]
      rfl
    · have hv : (xs.drop (i + 1)).all wss.v.sp = false := by
        have e : wss.v.sp (wg xs i) = true := vv
        rw [e, Bool.true_and] at hv; exact hv
      have t2 : (jw.o.sv (wg xs i).1 (wg xs i).2).take (jw.o.sv (wg xs i).1 (wg xs i).2).length = jw.o.sv (wg xs i).1 (wg xs i).2 := List.take_length
      obtain ⟨H', g⟩ := ih (i + 1) n (os ++ [jw.o.sv (wg xs i).1 (wg xs i).2]) (by omega) (by omega) (by simp [hl]) hv
      refine ⟨H', ?_⟩
      rw [round]
      simp -implicitDefEqProofs (disch := omega) only [r1, r2, s1, s2, s3, s4, s5, ft, vv, tt, addL_eq, mulN_eq, beq_self_eq_true, Nat.le_refl, hl, t2, take_one, set_one, decide_eq_true, decide_eq_false, IntWalk.i64_in, beqT, beqF, bneT, bneF, nat_succ, ← Int.natCast_mul, ← Int.natCast_add, Int.toNat_natCast, Int.zero_mul, Int.zero_add, Int.add_zero, Nat.zero_add, Nat.add_zero, Nat.zero_mul, List.length_singleton, List.length_append, List.length_nil, List.length_cons, List.take_length, List.drop_zero, List.replicate_zero, List.take_nil, List.nil_append, Nat.reduceBEq, Nat.reduceMul, Nat.reduceLeDiff, eq_self, and_self, true_and, and_true, decide_true, decide_false, Bool.and_self, Bool.or_self, Bool.and_true, Bool.true_and, Bool.and_false, Bool.false_and, Bool.or_true, Bool.true_or, Bool.or_false, Bool.false_or, Bool.not_true, Bool.not_false, cond_true, cond_false]
      exact g
theorem runf : ∀ args v new, Rf args = some (true, v, new) → ∃ fuel, regc [] (runFn Try.prog (orcF [⟨43, jAskS.R⟩] (orc [⟨29, l00In.R⟩])) hd Dr.std none fuel (bodyOf Try.f23) 42 [4, 5] args []) = some (v, new) := by
  intro args v new h
  unfold Rf at h
  split at h
  · rename_i fs m w
    simp only [Option.some.injEq, Prod.mk.injEq, Bool.and_eq_true, decide_eq_true_eq, Bool.not_eq_true'] at h
    obtain ⟨⟨hl, hs, hsh, hw, hsp⟩, rfl, rfl⟩ := h
    obtain ⟨xs, rfl⟩ : ∃ xs, fs = wfs.sv xs := ⟨_, (wsh_eq hs).symm⟩
    rw [(wsh_of xs).2] at *
    rw [wfs_len] at hl
    obtain rfl : m = xs.length := by omega
    simp only [wss.sp] at hsp
    obtain ⟨F, hF⟩ : ∃ F : Nat, F = 100 := ⟨100, rfl⟩
    refine ⟨F, ?_⟩
    rw [start]
    by_cases k1 : (8 : Int) < (xs.length : Int)
    · simp -implicitDefEqProofs (disch := omega) only [take_one, set_one, decide_eq_true, decide_eq_false, IntWalk.i64_in, beqT, beqF, bneT, bneF, nat_succ, ← Int.natCast_mul, ← Int.natCast_add, Int.toNat_natCast, Int.zero_mul, Int.zero_add, Int.add_zero, Nat.zero_add, Nat.add_zero, Nat.zero_mul, List.length_singleton, List.length_append, List.length_nil, List.length_cons, List.take_length, List.drop_zero, List.replicate_zero, List.take_nil, List.nil_append, Nat.reduceBEq, Nat.reduceMul, Nat.reduceLeDiff, eq_self, and_self, true_and, and_true, decide_true, decide_false, Bool.and_self, Bool.or_self, Bool.and_true, Bool.true_and, Bool.and_false, Bool.false_and, Bool.or_true, Bool.true_or, Bool.or_false, Bool.false_or, Bool.not_true, Bool.not_false, cond_true, cond_false]
      rfl
    cases k2 : (decide (1 ≤ w) && decide (w ≤ 8))
    · simp -implicitDefEqProofs (disch := omega) only [k2, take_one, set_one, decide_eq_true, decide_eq_false, IntWalk.i64_in, beqT, beqF, bneT, bneF, nat_succ, ← Int.natCast_mul, ← Int.natCast_add, Int.toNat_natCast, Int.zero_mul, Int.zero_add, Int.add_zero, Nat.zero_add, Nat.add_zero, Nat.zero_mul, List.length_singleton, List.length_append, List.length_nil, List.length_cons, List.take_length, List.drop_zero, List.replicate_zero, List.take_nil, List.nil_append, Nat.reduceBEq, Nat.reduceMul, Nat.reduceLeDiff, eq_self, and_self, true_and, and_true, decide_true, decide_false, Bool.and_self, Bool.or_self, Bool.and_true, Bool.true_and, Bool.and_false, Bool.false_and, Bool.or_true, Bool.true_or, Bool.or_false, Bool.false_or, Bool.not_true, Bool.not_false, cond_true, cond_false]
      rfl
    · rw [k2, decide_eq_true (show xs.length ≤ 8 by omega), Bool.true_and, Bool.true_and] at hsp
      obtain ⟨H', g⟩ := loop_f xs F (by omega) hsh hw (by omega) xs.length 0 F [] (by omega) (by omega) rfl (by rw [List.drop_zero]; exact hsp)
      simp -implicitDefEqProofs (disch := omega) only [k2, take_one, set_one, decide_eq_true, decide_eq_false, IntWalk.i64_in, beqT, beqF, bneT, bneF, nat_succ, ← Int.natCast_mul, ← Int.natCast_add, Int.toNat_natCast, Int.zero_mul, Int.zero_add, Int.add_zero, Nat.zero_add, Nat.add_zero, Nat.zero_mul, List.length_singleton, List.length_append, List.length_nil, List.length_cons, List.take_length, List.drop_zero, List.replicate_zero, List.take_nil, List.nil_append, Nat.reduceBEq, Nat.reduceMul, Nat.reduceLeDiff, eq_self, and_self, true_and, and_true, decide_true, decide_false, Bool.and_self, Bool.or_self, Bool.and_true, Bool.true_and, Bool.and_false, Bool.false_and, Bool.or_true, Bool.true_or, Bool.or_false, Bool.false_or, Bool.not_true, Bool.not_false, cond_true, cond_false]
      exact (congrArg (regc []) g).trans rfl
  · cases h
theorem okf : EntOk Try.prog ⟨23, Rf⟩ :=
  ent_okAG (ks := []) mixed (A := (orcF [⟨43, jAskS.R⟩] (orc [⟨29, l00In.R⟩]))) (orcF_ok (by simp only [List.mem_cons, List.not_mem_nil, or_false, forall_eq_or_imp, forall_eq]; exact jAskS.ok) (orc_ok (by simp only [List.mem_cons, List.not_mem_nil, or_false, forall_eq_or_imp, forall_eq]; exact l00In.ok))) Try.func23 (by kernel_rfl) (by kernel_rfl) (n := 42) (ts := [4, 5]) (hd := hd) (dr := Dr.std) (cut := none) (by kernel_rfl) (by kernel_rfl) (by kernel_rfl) runf
end sWishesShared

end Go.Proofs.Ythecninmmojkgaa.Ab
