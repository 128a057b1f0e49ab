/-
  Functions: loads of crowds.
-/
import Derived.Test.YtgeglpommdckgaaFnI
import Derived.Test.YtgeglpommdckgaaFnE
namespace Go.Proofs.Ytgeglpommdckgaa.Ab
open Go
set_option linter.unusedVariables false
set_option linter.unusedSimpArgs false
set_option maxRecDepth 100000

namespace load
def lin.sp (n : Nat) (x : Int) : Bool := decide (0 ≤ x) && decide (x ≤ (n : Int) - 1)
/-- A valid crowd and choices. -/
def sp (u r : Int) (ws cs xs : List Int) : Bool := (crowd.sp u r ws cs && decide ((xs.length : Int) = u)) && xs.all (lin.sp ws.length)
def bit.sv (w j : Int) : Int := iand.sv .i64 (ishr.sv .i64 w j) 1
def add (w : Int) : List Int → Nat → List Int
  | [], _ => []
  | y :: t, j => IntKind.i64.wrap (y + bit.sv w j) :: add w t (j + 1)
theorem add_length (w : Int) : ∀ (ys : List Int) (j : Nat), (add w ys j).length = ys.length := by
  intro ys
  induction ys with
  | nil => intro j; rfl
  | cons y t ih => intro j; simp [add, ih]
def all (ws : List Int) (xs : List Int) (ys : List Int) : List Int := xs.foldl (fun ys x => add (gz ws x.toNat) ys 0) ys
theorem all_length (ws : List Int) : ∀ (xs ys : List Int), (all ws xs ys).length = ys.length := by
  intro xs
  induction xs with
  | nil => intro ys; rfl
  | cons x t ih => intro ys; simp only [all, List.foldl_cons]; have := ih (add (gz ws x.toNat) ys 0); simp only [all] at this; rw [this, add_length]
def sv (r : Int) (ws xs : List Int) : List Int := all ws xs (List.replicate r.toNat 0)
theorem sv_length (r : Int) (ws xs : List Int) : (sv r ws xs).length = r.toNat := by unfold sv; rw [all_length, List.length_replicate]
theorem valid {u r : Int} {ws cs xs : List Int} (h : sp u r ws cs xs = true) : (1 ≤ u ∧ u ≤ 8) ∧ (1 ≤ r ∧ r ≤ 8) ∧ (1 ≤ ws.length ∧ ws.length ≤ 8) ∧ (cs.length : Int) = u * r ∧ (xs.length : Int) = u ∧ (∀ x ∈ xs, 0 ≤ x ∧ x ≤ (ws.length : Int) - 1) ∧ crowd.sp u r ws cs = true := by
  simp only [sp, Bool.and_eq_true, decide_eq_true_eq, List.all_eq_true, lin.sp] at h
  obtain ⟨⟨h0, h2⟩, h3⟩ := h
  have h1 := h0
  simp only [crowd.sp, Bool.and_eq_true, decide_eq_true_eq] at h1
  exact ⟨h1.1.1.1.1.1, h1.1.1.1.1.2, h1.1.1.1.2, h1.1.1.2, h2, h3, h0⟩
end load



theorem set_mid {α : Type} (pre t : List α) (y v : α) : (pre ++ y :: t).set pre.length v = pre ++ v :: t := by simp
theorem gz_mid (pre t : List Int) (y : Int) : gz (pre ++ y :: t) pre.length = y := by simp [gz]
theorem gz_take {ws : List Int} {m i : Nat} (h : i < m) (hm : m ≤ ws.length) : gz (ws.take m) i = gz ws i := by
  rw [gz_eq (by simp; omega), gz_eq (by omega)]; simp

namespace l06Loads
def R : List AVal → Option (Bool × AVal × List Blk)
  | [.rom [.int .i64 u, .int .i64 r, .ro (.ints .i64 ws) mw 1, .ro (.ints .i64 cs) mc 1] 0, .ro (.ints .i64 xs) l 1] => some (decide (mw ≤ ws.length ∧ mw ≤ 4611686018427387904 ∧ mc ≤ cs.length ∧ mc ≤ 4611686018427387904 ∧ l ≤ xs.length ∧ l ≤ 4611686018427387904) && load.sp u r (ws.take mw) (cs.take mc) (xs.take l), .own 0 0 (load.sv r (ws.take mw) (xs.take l)).length 0 1, [⟨.typ (.ints .i64 (load.sv r (ws.take mw) (xs.take l))), 0⟩])
  | _ => none
def hd : Nat → Head := fun i => bif eqN i 2 then ⟨[0, 1, 5, 6, 7], none⟩ else ⟨[0, 1, 5, 6], none⟩
noncomputable def L1 (f n : Nat) (s : State) := loopAt Try.prog (orc []) hd Dr.std 0 f (bodyOf Try.f79) 0 [true, true, false, true] (retK Try.prog [4] 0 none) n s
noncomputable def L2 (f n n2 : Nat) (s : State) := loopAt Try.prog (orc []) hd Dr.std 0 f (bodyAt (bodyOf Try.f79) [true, true, false, true]) (curAt (bodyOf Try.f79) 0 [true, true, false, true]) [true, false, true] (iterK (normE 0 (hd (curAt (bodyOf Try.f79) 0 [true, true, false, true]))) (L1 f n) (contAt Try.prog (orc []) hd Dr.std 0 f (bodyOf Try.f79) 0 [true, true, false, true] (retK Try.prog [4] 0 none))) n2 s
theorem start (u r : Int) (ws cs : List Int) (mw mc : Nat) (xs : List Int) (l : Nat) (f : Nat) :
  runFn Try.prog (orc []) hd Dr.std none f (bodyOf Try.f79) 48 [4] [.rom [.int .i64 u, .int .i64 r, .ro (.ints .i64 ws) mw 1, .ro (.ints .i64 cs) mc 1] 0, .ro (.ints .i64 xs) l 1] []
  = (bif (1 : Nat) == (1 : Nat) && (r == r && (decide ((0 : Int) ≤ r) && (decide (r * (8 : Int) ≤ (140737488355328 : Int)) && decide (r ≤ (4611686018427387904 : Int))))) then L1 f f (mkS (48 : Nat) [((0 : Nat), AVal.rom [AVal.int IntKind.i64 u, AVal.int IntKind.i64 r, AVal.ro (Cont.ints IntKind.i64 ws) mw (1 : Nat), AVal.ro (Cont.ints IntKind.i64 cs) mc (1 : Nat)] (0 : Nat)), ((1 : Nat), AVal.ro (Cont.ints IntKind.i64 xs) l (1 : Nat)), ((5 : Nat), AVal.own (0 : Nat) (0 : Nat) r.toNat (0 : Nat) (1 : Nat)), ((6 : Nat), AVal.int IntKind.i64 (0 : Int))] [{ c := BC.typ (Cont.ints IntKind.i64 (List.replicate r.toNat (0 : Int))), ver := (0 : Nat) }]) else none) := by kernel_rfl
theorem round1 (u r : Int) (ws cs : List Int) (mw mc : Nat) (xs ys : List Int) (l i q : Nat) (f n : Nat) :
  L1 f (n + 1) (mkS 48 [(0, .rom [.int .i64 u, .int .i64 r, .ro (.ints .i64 ws) mw 1, .ro (.ints .i64 cs) mc 1] 0), (1, .ro (.ints .i64 xs) l 1), (5, .own 0 0 q 0 1), (6, .int .i64 i)] [⟨.typ (.ints .i64 ys), 0⟩])
  = (bif decide ((↑i : Int) < (↑l : Int)) then L2 f n f (mkS (48 : Nat) [((0 : Nat), AVal.rom [AVal.int IntKind.i64 u, AVal.int IntKind.i64 r, AVal.ro (Cont.ints IntKind.i64 ws) mw (1 : Nat), AVal.ro (Cont.ints IntKind.i64 cs) mc (1 : Nat)] (0 : Nat)), ((1 : Nat), AVal.ro (Cont.ints IntKind.i64 xs) l (1 : Nat)), ((5 : Nat), AVal.own (0 : Nat) (0 : Nat) q (0 : Nat) (1 : Nat)), ((6 : Nat), AVal.int IntKind.i64 (↑i : Int)), ((7 : Nat), AVal.int IntKind.i64 (0 : Int))] [{ c := BC.typ (Cont.ints IntKind.i64 ys), ver := (0 : Nat) }]) else some (AVal.own (0 : Nat) (0 : Nat) q (0 : Nat) (1 : Nat), [{ c := BC.typ (Cont.ints IntKind.i64 ys), ver := (0 : Nat) }])) := by kernel_rfl
theorem round2 (u r : Int) (ws cs : List Int) (mw mc : Nat) (xs ys : List Int) (l i q j : Nat) (f n n2 : Nat) :
  L2 f n (n2 + 1) (mkS 48 [(0, .rom [.int .i64 u, .int .i64 r, .ro (.ints .i64 ws) mw 1, .ro (.ints .i64 cs) mc 1] 0), (1, .ro (.ints .i64 xs) l 1), (5, .own 0 0 q 0 1), (6, .int .i64 i), (7, .int .i64 j)] [⟨.typ (.ints .i64 ys), 0⟩])
  = (bif decide ((↑j : Int) < r) then bif true && (decide ((0 : Int) ≤ (↑j : Int)) && decide ((↑j : Int) < (↑q : Int))) then bif true && decide ((↑j : Int).toNat < ys.length) then bif true && (decide ((0 : Int) ≤ (↑i : Int)) && decide ((↑i : Int) < (↑l : Int))) then bif decide ((↑i : Int).toNat < xs.length) then bif true && (decide ((0 : Int) ≤ gz xs (↑i : Int).toNat) && decide (gz xs (↑i : Int).toNat < (↑mw : Int))) then bif decide ((gz xs (↑i : Int).toNat).toNat < ws.length) then bif decide ((0 : Int) ≤ IntKind.u64.wrap (↑j : Int)) then bif true && (decide ((0 : Int) ≤ (↑j : Int)) && decide ((↑j : Int) < (↑q : Int))) then bif true && (true && (decide ((↑j : Int).toNat < ys.length) && true)) then L2 f n n2 (mkS (48 : Nat) [((0 : Nat), AVal.rom [AVal.int IntKind.i64 u, AVal.int IntKind.i64 r, AVal.ro (Cont.ints IntKind.i64 ws) mw (1 : Nat), AVal.ro (Cont.ints IntKind.i64 cs) mc (1 : Nat)] (0 : Nat)), ((1 : Nat), AVal.ro (Cont.ints IntKind.i64 xs) l (1 : Nat)), ((5 : Nat), AVal.own (0 : Nat) (0 : Nat) q (0 : Nat) (1 : Nat)), ((6 : Nat), AVal.int IntKind.i64 (↑i : Int)), ((7 : Nat), AVal.int IntKind.i64 (IntKind.i64.wrap ((↑j : Int) + (1 : Int))))] [{ c := BC.typ (Cont.ints IntKind.i64 (ys.set (↑j : Int).toNat (IntKind.i64.wrap (gz ys (↑j : Int).toNat + iand.sv IntKind.i64 (ishr.sv IntKind.i64 (gz ws (gz xs (↑i : Int).toNat).toNat) (IntKind.u64.wrap (↑j : Int))) (1 : Int))))), ver := (0 : Nat) }]) else none else none else none else none else none else none else none else none else none else L1 f n (mkS (48 : Nat) [((0 : Nat), AVal.rom [AVal.int IntKind.i64 u, AVal.int IntKind.i64 r, AVal.ro (Cont.ints IntKind.i64 ws) mw (1 : Nat), AVal.ro (Cont.ints IntKind.i64 cs) mc (1 : Nat)] (0 : Nat)), ((1 : Nat), AVal.ro (Cont.ints IntKind.i64 xs) l (1 : Nat)), ((5 : Nat), AVal.own (0 : Nat) (0 : Nat) q (0 : Nat) (1 : Nat)), ((6 : Nat), AVal.int IntKind.i64 (IntKind.i64.wrap ((↑i : Int) + (1 : Int))))] [{ c := BC.typ (Cont.ints IntKind.i64 ys), ver := (0 : Nat) }])) := by kernel_rfl
theorem inner (u r : Int) (ws cs : List Int) (mw mc : Nat) (xs : List Int) (l q f n i : Nat) (hws : mw ≤ ws.length) (hxs : l ≤ xs.length) (hr : r = (q : Int)) (hq : q ≤ 8) (hb : l ≤ 1048576) (hv : ∀ x ∈ xs.take l, 0 ≤ x ∧ x ≤ (mw : Int) - 1) (hm : mw ≤ 1048576) (h1 : i < l) : ∀ (d j n2 : Nat) (pre rest : List Int), j + d = q → d < n2 → pre.length = j → rest.length = d →
    L2 f n n2 (mkS 48 [(0, .rom [.int .i64 u, .int .i64 r, .ro (.ints .i64 ws) mw 1, .ro (.ints .i64 cs) mc 1] 0), (1, .ro (.ints .i64 xs) l 1), (5, .own 0 0 q 0 1), (6, .int .i64 i), (7, .int .i64 j)] [⟨.typ (.ints .i64 (pre ++ rest)), 0⟩]) = L1 f n (mkS 48 [(0, .rom [.int .i64 u, .int .i64 r, .ro (.ints .i64 ws) mw 1, .ro (.ints .i64 cs) mc 1] 0), (1, .ro (.ints .i64 xs) l 1), (5, .own 0 0 q 0 1), (6, .int .i64 ((i + 1 : Nat) : Int))] [⟨.typ (.ints .i64 (pre ++ load.add (gz ws (gz xs i).toNat) rest j)), 0⟩]) := by
  have h2 : i < xs.length := by omega
  have h4 : (0 : Int) ≤ (i : Int) := Int.natCast_nonneg _
  have h5 : (i : Int) < (l : Int) := by omega
  have hx := hv xs[i] (List.mem_take_iff_getElem.2 ⟨i, by omega, rfl⟩)
  obtain ⟨k, hk⟩ : ∃ k : Nat, xs[i] = k := ⟨xs[i].toNat, by omega⟩
  have l1 : k < ws.length := by omega
  have k0 : (0 : Int) ≤ (k : Int) := Int.natCast_nonneg _
  have k1 : (k : Int) < (mw : Int) := by omega
  intro d
  induction d with
  | zero =>
    intro j n2 pre rest hj hn hp hr0
    obtain ⟨n2, rfl⟩ : ∃ k, n2 = k + 1 := ⟨n2 - 1, by omega⟩
    obtain rfl : rest = [] := List.eq_nil_of_length_eq_zero hr0
    rw [round2]
    have c : ¬ ((j : Int) < r) := by omega
    simp only [c, decide_false, cond_false, load.add, wrap_nat i (by omega)]
  | succ d ih =>
    intro j n2 pre rest hj hn hp hr0
    obtain ⟨n2, rfl⟩ : ∃ k, n2 = k + 1 := ⟨n2 - 1, by omega⟩
    match rest, hr0 with
    | y :: t, hr0 =>
      have c : (j : Int) < r := by omega
      have c0 : (0 : Int) ≤ (j : Int) := Int.natCast_nonneg _
      have c1 : (j : Int) < (q : Int) := by omega
      have c2 : j < (pre ++ y :: t).length := by simp; omega
      have hu : IntKind.u64.wrap (j : Int) = (j : Int) := IntWalk.u64_in _ (by omega)
      have hg : gz (pre ++ y :: t) j = y := by rw [← hp]; exact gz_mid _ _ _
      have hs : ∀ v, (pre ++ y :: t).set j v = pre ++ v :: t := fun v => by rw [← hp]; exact set_mid _ _ _ _
      have hbit : iand.sv IntKind.i64 (ishr.sv IntKind.i64 (gz ws k) (j : Int)) 1 = load.bit.sv (gz ws k) (j : Int) := rfl
      have hr := ih (j + 1) n2 (pre ++ [IntKind.i64.wrap (y + load.bit.sv (gz ws k) (j : Int))]) t (by omega) (by omega) (by simp; omega) (by simpa using hr0)
      simp only [List.append_assoc, List.cons_append, List.nil_append, gz_eq h2, hk, Int.toNat_natCast] at hr
      rw [round2]
      simp only [Int.toNat_natCast, gz_eq h2, hk, hg, hs, hu, hbit, c, c0, c1, c2, h4, h5, h2, l1, k0, k1, decide_true, Bool.and_self, Bool.or_self, Bool.and_true, Bool.true_and, cond_true, load.add, wrap_nat j (by omega)]
      exact hr
theorem outer (u r : Int) (ws cs : List Int) (mw mc : Nat) (xs : List Int) (l q f : Nat) (hws : mw ≤ ws.length) (hxs : l ≤ xs.length) (hr : r = (q : Int)) (hq : q ≤ 8) (hb : l ≤ 1048576) (hv : ∀ x ∈ xs.take l, 0 ≤ x ∧ x ≤ (mw : Int) - 1) (hm : mw ≤ 1048576) (hf : q < f) : ∀ (d i n : Nat) (ys : List Int), i + d = l → d < n → ys.length = q →
    L1 f n (mkS 48 [(0, .rom [.int .i64 u, .int .i64 r, .ro (.ints .i64 ws) mw 1, .ro (.ints .i64 cs) mc 1] 0), (1, .ro (.ints .i64 xs) l 1), (5, .own 0 0 q 0 1), (6, .int .i64 i)] [⟨.typ (.ints .i64 ys), 0⟩]) = some (.own 0 0 q 0 1, [⟨.typ (.ints .i64 (load.all (ws.take mw) ((xs.take l).drop i) ys)), 0⟩]) := by
  intro d
  induction d with
  | zero =>
    intro i n ys hi hn hy
    obtain ⟨n, rfl⟩ : ∃ k, n = k + 1 := ⟨n - 1, by omega⟩
    obtain rfl : i = l := by omega
    rw [round1]
    have e : (xs.take i).drop i = [] := by simp
    simp only [e, load.all, List.foldl_nil, Int.lt_irrefl, decide_false, cond_false]
  | succ d ih =>
    intro i n ys hi hn hy
    obtain ⟨n, rfl⟩ : ∃ k, n = k + 1 := ⟨n - 1, by omega⟩
    have h1 : i < l := by omega
    have h2 : i < xs.length := by omega
    have h4 : (0 : Int) ≤ (i : Int) := Int.natCast_nonneg _
    have h5 : (i : Int) < (l : Int) := by omega
    rw [round1, drop_take_cons hxs h1]
    have hx := hv xs[i] (List.mem_take_iff_getElem.2 ⟨i, by omega, rfl⟩)
    have hin := inner u r ws cs mw mc xs l q f n i hws hxs hr hq hb hv hm h1 q 0 f [] ys (by omega) hf rfl hy
    have hgt : gz (ws.take mw) xs[i].toNat = gz ws xs[i].toNat := gz_take (by omega) hws
    have hih := ih (i + 1) n (load.add (gz ws xs[i].toNat) ys 0) (by omega) (by omega) (by rw [load.add_length]; exact hy)
    simp only [List.nil_append, gz_eq h2] at hin
    simp only [load.all, List.foldl_cons, hgt] at hih ⊢
    simp only [h4, h5, h2, gz_eq h2, Int.toNat_natCast, decide_true, Bool.and_self, Bool.or_self, Bool.and_true, Bool.true_and, cond_true]
    exact hin.trans hih
theorem run : ∀ args v new, R args = some (true, v, new) → ∃ fuel, runFn Try.prog (orc []) hd Dr.std none fuel (bodyOf Try.f79) 48 [4] args [] = some (v, new) := by
  intro args v new h
  unfold R at h
  split at h
  · rename_i u r ws mw cs mc xs l
    simp only [Option.some.injEq, Prod.mk.injEq, Bool.and_eq_true, decide_eq_true_eq] at h
    obtain ⟨⟨⟨h1, h2, h3, h4, h5, h6⟩, hv⟩, rfl, rfl⟩ := h
    have e1 : (ws.take mw).length = mw := by simp; omega
    have e3 : (xs.take l).length = l := by simp; omega
    obtain ⟨v1, v2, v3, v4, v5, v6, v7⟩ := load.valid hv
    rw [e1] at v3 v6
    rw [e3] at v5
    obtain ⟨q, rfl⟩ : ∃ q : Nat, r = q := ⟨r.toNat, by omega⟩
    refine ⟨l + q + 1, ?_⟩
    rw [start]
    have ho := outer u (q : Int) ws cs mw mc xs l q (l + q + 1) h1 h5 rfl (by omega) (by omega) v6 (by omega) (by omega) l 0 (l + q + 1) (List.replicate q 0) (by omega) (by omega) (by simp)
    have c1 : (0 : Int) ≤ (q : Int) := Int.natCast_nonneg _
    have c2 : (q : Int) * 8 ≤ 140737488355328 := by omega
    have c3 : (q : Int) ≤ 4611686018427387904 := by omega
    have hlen : (load.sv (q : Int) (ws.take mw) (xs.take l)).length = q := by rw [load.sv_length]; rfl
    rw [hlen]
    rw [List.drop_zero] at ho
    simp only [c1, c2, c3, Int.toNat_natCast, beq_self_eq_true, decide_true, Bool.and_self, Bool.and_true, cond_true, Nat.reduceBEq]
    have ho' : L1 (l + q + 1) (l + q + 1) (mkS 48 [(0, .rom [.int .i64 u, .int .i64 (q : Int), .ro (.ints .i64 ws) mw 1, .ro (.ints .i64 cs) mc 1] 0), (1, .ro (.ints .i64 xs) l 1), (5, .own 0 0 q 0 1), (6, .int .i64 0)] [⟨.typ (.ints .i64 (List.replicate q 0)), 0⟩]) = _ := ho
    exact ho'
  · cases h
theorem ok : EntOk Try.prog ⟨79, R⟩ :=
  ent_okA mixed (A := (orc [])) (orc_ok (by simp)) Try.func79 (by kernel_rfl) (by kernel_rfl) (n := 48) (ts := [4]) (hd := hd) (dr := Dr.std) (cut := none) (by kernel_rfl) (by kernel_rfl) (by kernel_rfl) run
end l06Loads

namespace iLoads
def R : List AVal → Option (Bool × AVal × List Blk)
  | [.agg [.int .i64 u, .int .i64 r, .ro (.ints .i64 ws) mw 1, .ro (.ints .i64 cs) mc 1], .ro (.ints .i64 xs) l 1] => some (decide (mw ≤ ws.length ∧ mw ≤ 4611686018427387904 ∧ mc ≤ cs.length ∧ mc ≤ 4611686018427387904 ∧ l ≤ xs.length ∧ l ≤ 4611686018427387904) && load.sp u r (ws.take mw) (cs.take mc) (xs.take l), .own 0 0 (load.sv r (ws.take mw) (xs.take l)).length 0 1, [⟨.typ (.ints .i64 (load.sv r (ws.take mw) (xs.take l))), 0⟩])
  | _ => none
def hd : Nat → Head := fun i => bif eqN i 2 then ⟨[2, 5, 7, 12, 13, 14, 19, 20], none⟩ else ⟨[2, 5, 12, 13, 14], none⟩
noncomputable def L1 (f n : Nat) (s : State) := loopAt Try.prog (orc []) hd Dr.std 0 f (bodyOf Try.f85) 0 [true, true, false, true] (retK Try.prog [4] 0 none) n s
noncomputable def L2 (f n n2 : Nat) (s : State) := loopAt Try.prog (orc []) hd Dr.std 0 f (bodyAt (bodyOf Try.f85) [true, true, false, true]) (curAt (bodyOf Try.f85) 0 [true, true, false, true]) [true, true, false, true, true] (iterK (normE 0 (hd (curAt (bodyOf Try.f85) 0 [true, true, false, true]))) (L1 f n) (contAt Try.prog (orc []) hd Dr.std 0 f (bodyOf Try.f85) 0 [true, true, false, true] (retK Try.prog [4] 0 none))) n2 s
theorem start (u r : Int) (ws cs : List Int) (mw mc : Nat) (xs : List Int) (l : Nat) (f : Nat) :
  runFn Try.prog (orc []) hd Dr.std none f (bodyOf Try.f85) 40 [4] [.agg [.int .i64 u, .int .i64 r, .ro (.ints .i64 ws) mw 1, .ro (.ints .i64 cs) mc 1], .ro (.ints .i64 xs) l 1] []
  = (bif true && true then bif (1 : Nat) == (1 : Nat) && (r == r && (decide ((0 : Int) ≤ r) && (decide (r * (8 : Int) ≤ (140737488355328 : Int)) && decide (r ≤ (4611686018427387904 : Int))))) then L1 f f (mkS (40 : Nat) [((2 : Nat), AVal.ptr (0 : Nat) (0 : Nat) (0 : Nat)), ((5 : Nat), AVal.own (1 : Nat) (0 : Nat) r.toNat (0 : Nat) (1 : Nat)), ((12 : Nat), AVal.ro (Cont.ints IntKind.i64 xs) l (1 : Nat)), ((13 : Nat), AVal.int IntKind.i64 (↑l : Int)), ((14 : Nat), AVal.int IntKind.i64 (0 : Int))] [{ c := BC.cells [AVal.int IntKind.i64 u, AVal.int IntKind.i64 r, AVal.ro (Cont.ints IntKind.i64 ws) mw (1 : Nat), AVal.ro (Cont.ints IntKind.i64 cs) mc (1 : Nat)], ver := (0 : Nat) }, { c := BC.typ (Cont.ints IntKind.i64 (List.replicate r.toNat (0 : Int))), ver := (0 : Nat) }]) else none else none) := by kernel_rfl
theorem round1 (u r : Int) (ws cs : List Int) (mw mc : Nat) (xs ys : List Int) (l i q : Nat) (f n : Nat) :
  L1 f (n + 1) (mkS 40 [(2, .ptr 0 0 0), (5, .own 1 0 q 0 1), (12, .ro (.ints .i64 xs) l 1), (13, .int .i64 l), (14, .int .i64 i)] [⟨.cells [.int .i64 u, .int .i64 r, .ro (.ints .i64 ws) mw 1, .ro (.ints .i64 cs) mc 1], 0⟩, ⟨.typ (.ints .i64 ys), 0⟩])
  = (bif decide ((↑i : Int) < (↑l : Int)) then bif true && (decide ((0 : Int) ≤ (↑i : Int)) && decide ((↑i : Int) < (↑l : Int))) then bif decide ((↑i : Int).toNat < xs.length) then bif true && true then L2 f n f (mkS (40 : Nat) [((2 : Nat), AVal.ptr (0 : Nat) (0 : Nat) (0 : Nat)), ((5 : Nat), AVal.own (1 : Nat) (0 : Nat) q (0 : Nat) (1 : Nat)), ((7 : Nat), AVal.int IntKind.i64 (gz xs (↑i : Int).toNat)), ((12 : Nat), AVal.ro (Cont.ints IntKind.i64 xs) l (1 : Nat)), ((13 : Nat), AVal.int IntKind.i64 (↑l : Int)), ((14 : Nat), AVal.int IntKind.i64 (↑i : Int)), ((19 : Nat), AVal.int IntKind.i64 r), ((20 : Nat), AVal.int IntKind.i64 (0 : Int))] [{ c := BC.cells [AVal.int IntKind.i64 u, AVal.int IntKind.i64 r, AVal.ro (Cont.ints IntKind.i64 ws) mw (1 : Nat), AVal.ro (Cont.ints IntKind.i64 cs) mc (1 : Nat)], ver := (0 : Nat) }, { c := BC.typ (Cont.ints IntKind.i64 ys), ver := (0 : Nat) }]) else none else none else none else some (AVal.own (1 : Nat) (0 : Nat) q (0 : Nat) (1 : Nat), [{ c := BC.cells [AVal.int IntKind.i64 u, AVal.int IntKind.i64 r, AVal.ro (Cont.ints IntKind.i64 ws) mw (1 : Nat), AVal.ro (Cont.ints IntKind.i64 cs) mc (1 : Nat)], ver := (0 : Nat) }, { c := BC.typ (Cont.ints IntKind.i64 ys), ver := (0 : Nat) }])) := by kernel_rfl
theorem round2 (u r : Int) (ws cs : List Int) (mw mc : Nat) (xs ys : List Int) (l i q j : Nat) (w : Int) (f n n2 : Nat) :
  L2 f n (n2 + 1) (mkS 40 [(2, .ptr 0 0 0), (5, .own 1 0 q 0 1), (7, .int .i64 w), (12, .ro (.ints .i64 xs) l 1), (13, .int .i64 l), (14, .int .i64 i), (19, .int .i64 r), (20, .int .i64 j)] [⟨.cells [.int .i64 u, .int .i64 r, .ro (.ints .i64 ws) mw 1, .ro (.ints .i64 cs) mc 1], 0⟩, ⟨.typ (.ints .i64 ys), 0⟩])
  = (bif decide ((↑j : Int) < r) then bif true && (decide ((0 : Int) ≤ (↑j : Int)) && decide ((↑j : Int) < (↑q : Int))) then bif true && decide ((↑j : Int).toNat < ys.length) then bif true && true then bif true && (decide ((0 : Int) ≤ w) && decide (w < (↑mw : Int))) then bif decide (w.toNat < ws.length) then bif decide ((0 : Int) ≤ (↑j : Int)) then bif true && (decide ((0 : Int) ≤ (↑j : Int)) && decide ((↑j : Int) < (↑q : Int))) then bif true && (true && (decide ((↑j : Int).toNat < ys.length) && true)) then L2 f n n2 (mkS (40 : Nat) [((2 : Nat), AVal.ptr (0 : Nat) (0 : Nat) (0 : Nat)), ((5 : Nat), AVal.own (1 : Nat) (0 : Nat) q (0 : Nat) (1 : Nat)), ((7 : Nat), AVal.int IntKind.i64 w), ((12 : Nat), AVal.ro (Cont.ints IntKind.i64 xs) l (1 : Nat)), ((13 : Nat), AVal.int IntKind.i64 (↑l : Int)), ((14 : Nat), AVal.int IntKind.i64 (↑i : Int)), ((19 : Nat), AVal.int IntKind.i64 r), ((20 : Nat), AVal.int IntKind.i64 (IntKind.i64.wrap ((↑j : Int) + (1 : Int))))] [{ c := BC.cells [AVal.int IntKind.i64 u, AVal.int IntKind.i64 r, AVal.ro (Cont.ints IntKind.i64 ws) mw (1 : Nat), AVal.ro (Cont.ints IntKind.i64 cs) mc (1 : Nat)], ver := (0 : Nat) }, { c := BC.typ (Cont.ints IntKind.i64 (ys.set (↑j : Int).toNat (IntKind.i64.wrap (gz ys (↑j : Int).toNat + iand.sv IntKind.i64 (ishr.sv IntKind.i64 (gz ws w.toNat) (↑j : Int)) (1 : Int))))), ver := (0 : Nat) }]) else none else none else none else none else none else none else none else none else L1 f n (mkS (40 : Nat) [((2 : Nat), AVal.ptr (0 : Nat) (0 : Nat) (0 : Nat)), ((5 : Nat), AVal.own (1 : Nat) (0 : Nat) q (0 : Nat) (1 : Nat)), ((12 : Nat), AVal.ro (Cont.ints IntKind.i64 xs) l (1 : Nat)), ((13 : Nat), AVal.int IntKind.i64 (↑l : Int)), ((14 : Nat), AVal.int IntKind.i64 (IntKind.i64.wrap ((↑i : Int) + (1 : Int))))] [{ c := BC.cells [AVal.int IntKind.i64 u, AVal.int IntKind.i64 r, AVal.ro (Cont.ints IntKind.i64 ws) mw (1 : Nat), AVal.ro (Cont.ints IntKind.i64 cs) mc (1 : Nat)], ver := (0 : Nat) }, { c := BC.typ (Cont.ints IntKind.i64 ys), ver := (0 : Nat) }])) := by kernel_rfl
theorem inner (u r : Int) (ws cs : List Int) (mw mc : Nat) (xs : List Int) (l q f n i : Nat) (hws : mw ≤ ws.length) (hxs : l ≤ xs.length) (hr : r = (q : Int)) (hq : q ≤ 8) (hb : l ≤ 1048576) (hv : ∀ x ∈ xs.take l, 0 ≤ x ∧ x ≤ (mw : Int) - 1) (hm : mw ≤ 1048576) (h1 : i < l) : ∀ (d j n2 : Nat) (pre rest : List Int), j + d = q → d < n2 → pre.length = j → rest.length = d →
    L2 f n n2 (mkS 40 [(2, .ptr 0 0 0), (5, .own 1 0 q 0 1), (7, .int .i64 (gz xs i)), (12, .ro (.ints .i64 xs) l 1), (13, .int .i64 l), (14, .int .i64 i), (19, .int .i64 r), (20, .int .i64 j)] [⟨.cells [.int .i64 u, .int .i64 r, .ro (.ints .i64 ws) mw 1, .ro (.ints .i64 cs) mc 1], 0⟩, ⟨.typ (.ints .i64 (pre ++ rest)), 0⟩]) = L1 f n (mkS 40 [(2, .ptr 0 0 0), (5, .own 1 0 q 0 1), (12, .ro (.ints .i64 xs) l 1), (13, .int .i64 l), (14, .int .i64 ((i + 1 : Nat) : Int))] [⟨.cells [.int .i64 u, .int .i64 r, .ro (.ints .i64 ws) mw 1, .ro (.ints .i64 cs) mc 1], 0⟩, ⟨.typ (.ints .i64 (pre ++ load.add (gz ws (gz xs i).toNat) rest j)), 0⟩]) := by
  have h2 : i < xs.length := by omega
  have h4 : (0 : Int) ≤ (i : Int) := Int.natCast_nonneg _
  have h5 : (i : Int) < (l : Int) := by omega
  have hx := hv xs[i] (List.mem_take_iff_getElem.2 ⟨i, by omega, rfl⟩)
  obtain ⟨k, hk⟩ : ∃ k : Nat, xs[i] = k := ⟨xs[i].toNat, by omega⟩
  have l1 : k < ws.length := by omega
  have k0 : (0 : Int) ≤ (k : Int) := Int.natCast_nonneg _
  have k1 : (k : Int) < (mw : Int) := by omega
  intro d
  induction d with
  | zero =>
    intro j n2 pre rest hj hn hp hr0
    obtain ⟨n2, rfl⟩ : ∃ k, n2 = k + 1 := ⟨n2 - 1, by omega⟩
    obtain rfl : rest = [] := List.eq_nil_of_length_eq_zero hr0
    rw [round2]
    have c : ¬ ((j : Int) < r) := by omega
    simp only [c, decide_false, cond_false, load.add, wrap_nat i (by omega)]
  | succ d ih =>
    intro j n2 pre rest hj hn hp hr0
    obtain ⟨n2, rfl⟩ : ∃ k, n2 = k + 1 := ⟨n2 - 1, by omega⟩
    match rest, hr0 with
    | y :: t, hr0 =>
      have c : (j : Int) < r := by omega
      have c0 : (0 : Int) ≤ (j : Int) := Int.natCast_nonneg _
      have c1 : (j : Int) < (q : Int) := by omega
      have c2 : j < (pre ++ y :: t).length := by simp; omega
      have hu : IntKind.u64.wrap (j : Int) = (j : Int) := IntWalk.u64_in _ (by omega)
      have hg : gz (pre ++ y :: t) j = y := by rw [← hp]; exact gz_mid _ _ _
      have hs : ∀ v, (pre ++ y :: t).set j v = pre ++ v :: t := fun v => by rw [← hp]; exact set_mid _ _ _ _
      have hbit : iand.sv IntKind.i64 (ishr.sv IntKind.i64 (gz ws k) (j : Int)) 1 = load.bit.sv (gz ws k) (j : Int) := rfl
      have hr := ih (j + 1) n2 (pre ++ [IntKind.i64.wrap (y + load.bit.sv (gz ws k) (j : Int))]) t (by omega) (by omega) (by simp; omega) (by simpa using hr0)
      simp only [List.append_assoc, List.cons_append, List.nil_append, gz_eq h2, hk, Int.toNat_natCast] at hr
      rw [round2]
      simp only [Int.toNat_natCast, gz_eq h2, hk, hg, hs, hu, hbit, c, c0, c1, c2, h4, h5, h2, l1, k0, k1, decide_true, Bool.and_self, Bool.or_self, Bool.and_true, Bool.true_and, cond_true, load.add, wrap_nat j (by omega)]
      exact hr
theorem outer (u r : Int) (ws cs : List Int) (mw mc : Nat) (xs : List Int) (l q f : Nat) (hws : mw ≤ ws.length) (hxs : l ≤ xs.length) (hr : r = (q : Int)) (hq : q ≤ 8) (hb : l ≤ 1048576) (hv : ∀ x ∈ xs.take l, 0 ≤ x ∧ x ≤ (mw : Int) - 1) (hm : mw ≤ 1048576) (hf : q < f) : ∀ (d i n : Nat) (ys : List Int), i + d = l → d < n → ys.length = q →
    L1 f n (mkS 40 [(2, .ptr 0 0 0), (5, .own 1 0 q 0 1), (12, .ro (.ints .i64 xs) l 1), (13, .int .i64 l), (14, .int .i64 i)] [⟨.cells [.int .i64 u, .int .i64 r, .ro (.ints .i64 ws) mw 1, .ro (.ints .i64 cs) mc 1], 0⟩, ⟨.typ (.ints .i64 ys), 0⟩]) = some (.own 1 0 q 0 1, [⟨.cells [.int .i64 u, .int .i64 r, .ro (.ints .i64 ws) mw 1, .ro (.ints .i64 cs) mc 1], 0⟩, ⟨.typ (.ints .i64 (load.all (ws.take mw) ((xs.take l).drop i) ys)), 0⟩]) := by
  intro d
  induction d with
  | zero =>
    intro i n ys hi hn hy
    obtain ⟨n, rfl⟩ : ∃ k, n = k + 1 := ⟨n - 1, by omega⟩
    obtain rfl : i = l := by omega
    rw [round1]
    have e : (xs.take i).drop i = [] := by simp
    simp only [e, load.all, List.foldl_nil, Int.lt_irrefl, decide_false, cond_false]
  | succ d ih =>
    intro i n ys hi hn hy
    obtain ⟨n, rfl⟩ : ∃ k, n = k + 1 := ⟨n - 1, by omega⟩
    have h1 : i < l := by omega
    have h2 : i < xs.length := by omega
    have h4 : (0 : Int) ≤ (i : Int) := Int.natCast_nonneg _
    have h5 : (i : Int) < (l : Int) := by omega
    rw [round1, drop_take_cons hxs h1]
    have hx := hv xs[i] (List.mem_take_iff_getElem.2 ⟨i, by omega, rfl⟩)
    have hin := inner u r ws cs mw mc xs l q f n i hws hxs hr hq hb hv hm h1 q 0 f [] ys (by omega) hf rfl hy
    have hgt : gz (ws.take mw) xs[i].toNat = gz ws xs[i].toNat := gz_take (by omega) hws
    have hih := ih (i + 1) n (load.add (gz ws xs[i].toNat) ys 0) (by omega) (by omega) (by rw [load.add_length]; exact hy)
    simp only [List.nil_append, gz_eq h2] at hin
    simp only [load.all, List.foldl_cons, hgt] at hih ⊢
    simp only [h4, h5, h2, gz_eq h2, Int.toNat_natCast, decide_true, Bool.and_self, Bool.or_self, Bool.and_true, Bool.true_and, cond_true]
    exact hin.trans hih
theorem run : ∀ args v new, R args = some (true, v, new) → ∃ fuel, regc [1] (runFn Try.prog (orc []) hd Dr.std none fuel (bodyOf Try.f85) 40 [4] args []) = some (v, new) := by
  intro args v new h
  unfold R at h
  split at h
  · rename_i u r ws mw cs mc xs l
    simp only [Option.some.injEq, Prod.mk.injEq, Bool.and_eq_true, decide_eq_true_eq] at h
    obtain ⟨⟨⟨h1, h2, h3, h4, h5, h6⟩, hv⟩, rfl, rfl⟩ := h
    have e1 : (ws.take mw).length = mw := by simp; omega
    have e3 : (xs.take l).length = l := by simp; omega
    obtain ⟨v1, v2, v3, v4, v5, v6, v7⟩ := load.valid hv
    rw [e1] at v3 v6
    rw [e3] at v5
    obtain ⟨q, rfl⟩ : ∃ q : Nat, r = q := ⟨r.toNat, by omega⟩
    refine ⟨l + q + 1, ?_⟩
    rw [start]
    have ho := outer u (q : Int) ws cs mw mc xs l q (l + q + 1) h1 h5 rfl (by omega) (by omega) v6 (by omega) (by omega) l 0 (l + q + 1) (List.replicate q 0) (by omega) (by omega) (by simp)
    have c1 : (0 : Int) ≤ (q : Int) := Int.natCast_nonneg _
    have c2 : (q : Int) * 8 ≤ 140737488355328 := by omega
    have c3 : (q : Int) ≤ 4611686018427387904 := by omega
    have hlen : (load.sv (q : Int) (ws.take mw) (xs.take l)).length = q := by rw [load.sv_length]; rfl
    rw [hlen]
    rw [List.drop_zero] at ho
    simp only [c1, c2, c3, Int.toNat_natCast, beq_self_eq_true, decide_true, Bool.and_self, Bool.and_true, cond_true, Nat.reduceBEq]
    have ho' : L1 (l + q + 1) (l + q + 1) (mkS 40 [(2, .ptr 0 0 0), (5, .own 1 0 q 0 1), (12, .ro (.ints .i64 xs) l 1), (13, .int .i64 l), (14, .int .i64 0)] [⟨.cells [.int .i64 u, .int .i64 (q : Int), .ro (.ints .i64 ws) mw 1, .ro (.ints .i64 cs) mc 1], 0⟩, ⟨.typ (.ints .i64 (List.replicate q 0)), 0⟩]) = _ := ho
    exact (congrArg (regc [1]) ho').trans rfl
  · cases h
theorem ok : EntOk Try.prog ⟨85, R⟩ :=
  ent_okAG (ks := [1]) mixed (A := (orc [])) (orc_ok (by simp)) Try.func85 (by kernel_rfl) (by kernel_rfl) (n := 40) (ts := [4]) (hd := hd) (dr := Dr.std) (cut := none) (by kernel_rfl) (by kernel_rfl) (by kernel_rfl) run
end iLoads

end Go.Proofs.Ytgeglpommdckgaa.Ab
