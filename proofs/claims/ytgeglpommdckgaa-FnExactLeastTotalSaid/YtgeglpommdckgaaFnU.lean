/-
  Functions: what users of crowds pay.
-/
import Derived.Test.YtgeglpommdckgaaFnT
namespace Go.Proofs.Ytgeglpommdckgaa.Ab
open Go
set_option linter.unusedVariables false
set_option linter.unusedSimpArgs false
set_option maxRecDepth 100000

namespace pay
def on.sp (w j : Int) : Bool := load.bit.sv w j == 1
def go (u : Int) (cs : List Int) (w : Int) : List Int → Nat → Int → Int
  | [], _, acc => acc
  | y :: t, j, acc => go u cs w t (j + 1) (bif on.sp w j then IntKind.i64.wrap (acc + pot.cost.sv u cs j y) else acc)
/-- What is paid on a way. -/
def sv (u r : Int) (ws cs xs : List Int) (x : Int) : Int := go u cs (gz ws x.toNat) (load.sv r ws xs) 0 0
theorem add_get (w : Int) : ∀ (ys : List Int) (k j : Nat), j < ys.length → gz (load.add w ys k) j = IntKind.i64.wrap (gz ys j + load.bit.sv w ((k + j : Nat) : Int)) := by
  intro ys
  induction ys with
  | nil => intro k j h; simp at h
  | cons y t ih =>
    intro k j h
    cases j with
    | zero => simp [load.add, gz]
    | succ j =>
      have := ih (k + 1) j (by simpa using h)
      have e : k + 1 + j = k + (j + 1) := by omega
      rw [e] at this
      simpa [load.add, gz] using this
theorem all_ge (ws : List Int) (j : Nat) : ∀ (xs ys : List Int) (b : Int), b + (xs.length : Int) ≤ 1000000 → (∀ y ∈ ys, 0 ≤ y ∧ y ≤ b) → j < ys.length →
    gz ys j ≤ gz (load.all ws xs ys) j ∧ ∀ x ∈ xs, on.sp (gz ws x.toNat) j = true → 1 ≤ gz (load.all ws xs ys) j := by
  intro xs
  induction xs with
  | nil => intro ys b _ _ _; exact ⟨Int.le_refl _, fun x hx => by cases hx⟩
  | cons x t ih =>
    intro ys b hb h hj
    simp only [List.length_cons] at hb
    have hg : gz ys j = ys[j] := gz_eq hj
    have hyj := h ys[j] (List.getElem_mem hj)
    have hbit := pot.bit_le (gz ws x.toNat) (j : Int)
    have ha := add_get (gz ws x.toNat) ys 0 j hj
    rw [Nat.zero_add, hg, IntWalk.i64_in _ (by omega)] at ha
    have hle := pot.add_le (gz ws x.toNat) b (by omega) ys 0 h
    obtain ⟨g1, g2⟩ := ih (load.add (gz ws x.toNat) ys 0) (b + 1) (by omega) hle (by rw [load.add_length]; exact hj)
    have e : load.all ws (x :: t) ys = load.all ws t (load.add (gz ws x.toNat) ys 0) := rfl
    rw [e, hg]
    refine ⟨by omega, fun z hz hon => ?_⟩
    rcases List.mem_cons.1 hz with rfl | hz
    · have : load.bit.sv (gz ws z.toNat) (j : Int) = 1 := by simpa [on.sp] using hon
      omega
    · exact g2 z hz hon
theorem on_ge {u r : Int} {ws cs xs : List Int} (h : load.sp u r ws cs xs = true) {x : Int} (hx : x ∈ xs) {j : Nat} (hj : j < (load.sv r ws xs).length) (hon : on.sp (gz ws x.toNat) j = true) : 1 ≤ gz (load.sv r ws xs) j := by
  obtain ⟨v1, v2, v3, v4, v5, v6, v7⟩ := load.valid h
  rw [load.sv_length] at hj
  exact (all_ge ws j xs (List.replicate r.toNat 0) 0 (by omega) (fun y hy => by have := List.eq_of_mem_replicate hy; omega) (by simpa using hj)).2 x hx hon
end pay

namespace slClone
def R : List AVal → Option (Bool × AVal × List Blk)
  | [.ro (.ints .i64 xs) m 1] => some (decide (0 < m ∧ m ≤ xs.length ∧ m ≤ 1048576), .own 0 0 m 0 1, [⟨.typ (.ints .i64 (xs.take m)), 0⟩])
  | _ => none
theorem goS (xs : List Int) (m : Nat) :
  runFn Try.prog (orc []) hd0 Dr.std none 0 (bodyOf Try.f55) 8 [2] [.ro (.ints .i64 xs) (m + 1) 1] []
  = (bif (1 : Nat) == (1 : Nat) && (1 : Nat) == (1 : Nat) && (true && (true && true) && (true && (decide ((0 : Nat) + (List.take (m + (1 : Nat)) xs).length ≤ (4611686018427387904 : Nat)) && decide (((0 : Nat) + (List.take (m + (1 : Nat)) xs).length) * (8 : Nat) ≤ (140737488355328 : Nat))))) then some (AVal.own (0 : Nat) (0 : Nat) ((0 : Nat) + (List.take (m + (1 : Nat)) xs).length) (0 : Nat) (1 : Nat), [{ c := BC.typ (Cont.ints IntKind.i64 (List.take (0 : Nat) (List.replicate (0 : Nat) (0 : Int)) ++ List.take (m + (1 : Nat)) xs)), ver := (0 : Nat) }]) else none) := by kernel_rfl
theorem run : ∀ args v new, R args = some (true, v, new) → ∃ fuel, runFn Try.prog (orc []) hd0 Dr.std none fuel (bodyOf Try.f55) 8 [2] args [] = some (v, new) := by
  intro args v new h
  unfold R at h
  split at h
  · rename_i xs m
    simp only [Option.some.injEq, Prod.mk.injEq, decide_eq_true_eq] at h
    obtain ⟨⟨h0, h1, h2⟩, rfl, rfl⟩ := h
    cases m with
    | zero => omega
    | succ m =>
      refine ⟨0, ?_⟩
      rw [goS]
      have e1 : (xs.take (m + 1)).length = m + 1 := by simp; omega
      have c1 : m + 1 ≤ 4611686018427387904 := by omega
      have c2 : (m + 1) * 8 ≤ 140737488355328 := by omega
      simp only [e1, c1, c2, Nat.zero_add, List.replicate_zero, List.take_nil, List.nil_append, decide_true, Bool.and_self, Bool.or_self, Bool.and_true, Bool.true_and, cond_true, Nat.reduceBEq]
  · cases h
theorem ok : EntOk Try.prog ⟨55, R⟩ :=
  ent_okA mixed (A := (orc [])) (orc_ok (by simp)) Try.func55 (by kernel_rfl) (by kernel_rfl) (n := 8) (ts := [2]) (hd := hd0) (dr := Dr.std) (cut := none) (by kernel_rfl) (by kernel_rfl) (by kernel_rfl) run
end slClone

namespace l06Pays
def dr : Nat → Dr := Dr.std
def R : List AVal → Option (Bool × AVal × List Blk)
  | [.rom [.int .i64 u, .int .i64 r, .ro (.ints .i64 ws) mw 1, .ro (.ints .i64 cs) mc 1] 0, .ro (.ints .i64 xs) l 1, .int .i64 q] => some (decide (mw ≤ ws.length ∧ mw ≤ 4611686018427387904 ∧ mc ≤ cs.length ∧ mc ≤ 4611686018427387904 ∧ l ≤ xs.length ∧ l ≤ 4611686018427387904 ∧ 0 ≤ q ∧ q < (l : Int)) && load.sp u r (ws.take mw) (cs.take mc) (xs.take l), .int .i64 (pay.sv u r (ws.take mw) (cs.take mc) (xs.take l) (gz xs q.toNat)), [])
  | _ => none
def hd : Nat → Head := fun _ => ⟨[0, 1, 2, 7, 8, 9], some 1⟩
noncomputable def L (f n : Nat) (s : State) := loopAt Try.prog (orc [⟨79, l06Loads.R⟩, ⟨40, l06Cost.R⟩]) hd dr 0 f (bodyOf Try.f70) 0 [true, true, true, false, true] (retK Try.prog [6] 0 (some 0)) n s
theorem start (u r : Int) (ws cs : List Int) (mw mc : Nat) (xs : List Int) (l : Nat) (q : Int) (f : Nat) :
  runFn Try.prog (orc [⟨79, l06Loads.R⟩, ⟨40, l06Cost.R⟩]) hd dr (some 0) f (bodyOf Try.f70) 46 [6] [.rom [.int .i64 u, .int .i64 r, .ro (.ints .i64 ws) mw 1, .ro (.ints .i64 cs) mc 1] 0, .ro (.ints .i64 xs) l 1, .int .i64 q] []
  = (bif decide (mw ≤ ws.length ∧ mw ≤ (4611686018427387904 : Nat) ∧ mc ≤ cs.length ∧ mc ≤ (4611686018427387904 : Nat) ∧ l ≤ xs.length ∧ l ≤ (4611686018427387904 : Nat)) && load.sp u r (List.take mw ws) (List.take mc cs) (List.take l xs) && (true && (true && (true && (true && true))) && (true && true) || true && (true && true)) then L f f (mkS (46 : Nat) [((0 : Nat), AVal.rom [AVal.int IntKind.i64 u, AVal.int IntKind.i64 r, AVal.ro (Cont.ints IntKind.i64 ws) mw (1 : Nat), AVal.ro (Cont.ints IntKind.i64 cs) mc (1 : Nat)] (0 : Nat)), ((1 : Nat), AVal.ro (Cont.ints IntKind.i64 xs) l (1 : Nat)), ((2 : Nat), AVal.int IntKind.i64 q), ((7 : Nat), AVal.own (0 : Nat) (0 : Nat) (load.sv r (List.take mw ws) (List.take l xs)).length (0 : Nat) (1 : Nat)), ((8 : Nat), AVal.int IntKind.i64 (0 : Int)), ((9 : Nat), AVal.int IntKind.i64 (0 : Int))] [{ c := BC.typ (Cont.ints IntKind.i64 (load.sv r (List.take mw ws) (List.take l xs))), ver := (0 : Nat) }]) else none) := by kernel_rfl
theorem round (u r : Int) (ws cs : List Int) (mw mc : Nat) (xs : List Int) (l : Nat) (ls : List Int) (q a : Int) (i f n : Nat) :
  L f (n + 1) (mkS 46 [(0, .rom [.int .i64 u, .int .i64 r, .ro (.ints .i64 ws) mw 1, .ro (.ints .i64 cs) mc 1] 0), (1, .ro (.ints .i64 xs) l 1), (2, .int .i64 q), (7, .own 0 0 ls.length 0 1), (8, .int .i64 a), (9, .int .i64 i)] [⟨.typ (.ints .i64 ls), 0⟩])
  = (bif decide ((↑i : Int) < r) then bif true && (decide ((0 : Int) ≤ q) && decide (q < (↑l : Int))) then bif decide (q.toNat < xs.length) then bif true && (decide ((0 : Int) ≤ gz xs q.toNat) && decide (gz xs q.toNat < (↑mw : Int))) then bif decide ((gz xs q.toNat).toNat < ws.length) then bif decide ((0 : Int) ≤ IntKind.u64.wrap (↑i : Int)) then bif iand.sv IntKind.i64 (ishr.sv IntKind.i64 (gz ws (gz xs q.toNat).toNat) (IntKind.u64.wrap (↑i : Int))) (1 : Int) == (1 : Int) then bif true && (decide ((0 : Int) ≤ (↑i : Int)) && decide ((↑i : Int) < (↑ls.length : Int))) then bif true && decide ((↑i : Int).toNat < ls.length) then bif decide (mc ≤ cs.length ∧ (0 : Int) ≤ (↑i : Int) * u ∧ (↑i : Int) * u ≤ (64 : Int) ∧ (1 : Int) ≤ gz ls (↑i : Int).toNat ∧ gz ls (↑i : Int).toNat ≤ (64 : Int) ∧ (↑i : Int) * u + gz ls (↑i : Int).toNat - (1 : Int) < (↑mc : Int)) && (true && (true && (true && (true && true))) && (true && (true && true)) || true && true) then L f n (mkS (46 : Nat) [((0 : Nat), AVal.rom [AVal.int IntKind.i64 u, AVal.int IntKind.i64 r, AVal.ro (Cont.ints IntKind.i64 ws) mw (1 : Nat), AVal.ro (Cont.ints IntKind.i64 cs) mc (1 : Nat)] (0 : Nat)), ((1 : Nat), AVal.ro (Cont.ints IntKind.i64 xs) l (1 : Nat)), ((2 : Nat), AVal.int IntKind.i64 q), ((7 : Nat), AVal.own (0 : Nat) (0 : Nat) ls.length (0 : Nat) (1 : Nat)), ((8 : Nat), AVal.int IntKind.i64 (IntKind.i64.wrap (a + pot.cost.sv u cs (↑i : Int) (gz ls (↑i : Int).toNat)))), ((9 : Nat), AVal.int IntKind.i64 (IntKind.i64.wrap ((↑i : Int) + (1 : Int))))] [{ c := BC.typ (Cont.ints IntKind.i64 ls), ver := (0 : Nat) }]) else none else none else none else L f n (mkS (46 : Nat) [((0 : Nat), AVal.rom [AVal.int IntKind.i64 u, AVal.int IntKind.i64 r, AVal.ro (Cont.ints IntKind.i64 ws) mw (1 : Nat), AVal.ro (Cont.ints IntKind.i64 cs) mc (1 : Nat)] (0 : Nat)), ((1 : Nat), AVal.ro (Cont.ints IntKind.i64 xs) l (1 : Nat)), ((2 : Nat), AVal.int IntKind.i64 q), ((7 : Nat), AVal.own (0 : Nat) (0 : Nat) ls.length (0 : Nat) (1 : Nat)), ((8 : Nat), AVal.int IntKind.i64 a), ((9 : Nat), AVal.int IntKind.i64 (IntKind.i64.wrap ((↑i : Int) + (1 : Int))))] [{ c := BC.typ (Cont.ints IntKind.i64 ls), ver := (0 : Nat) }]) else none else none else none else none else none else some (AVal.int IntKind.i64 a, [])) := by kernel_rfl
theorem loop (u r : Int) (ws cs : List Int) (mw mc : Nat) (xs : List Int) (l : Nat) (ls : List Int) (q : Nat) (x : Nat) (f : Nat) (hu : 1 ≤ u ∧ u ≤ 8) (hr : 1 ≤ r ∧ r ≤ 8) (hm : (mc : Int) = u * r) (hc : mc ≤ cs.length) (hl : (ls.length : Int) = r) (hv : ∀ y ∈ ls, 0 ≤ y ∧ y ≤ u) (hq : q < l) (hxl : l ≤ xs.length) (hx : gz xs q = (x : Int)) (hxm : x < mw) (hws : mw ≤ ws.length) (hon : ∀ (j : Nat) (hj : j < ls.length), pay.on.sp (gz ws x) j = true → 1 ≤ ls[j]) : ∀ (d i n : Nat) (a : Int), i + d = ls.length → d < n →
    L f n (mkS 46 [(0, .rom [.int .i64 u, .int .i64 r, .ro (.ints .i64 ws) mw 1, .ro (.ints .i64 cs) mc 1] 0), (1, .ro (.ints .i64 xs) l 1), (2, .int .i64 (q : Int)), (7, .own 0 0 ls.length 0 1), (8, .int .i64 a), (9, .int .i64 i)] [⟨.typ (.ints .i64 ls), 0⟩]) = some (.int .i64 (pay.go u (cs.take mc) (gz ws x) (ls.drop i) i a), []) := by
  intro d
  induction d with
  | zero =>
    intro i n a hi hn 
    obtain ⟨n, rfl⟩ : ∃ k, n = k + 1 := ⟨n - 1, by omega⟩
    obtain rfl : i = ls.length := by omega
    rw [round]
    have e : ls.drop ls.length = [] := by simp
    have c : ¬ ((ls.length : Int) < r) := by omega
    simp only [e, c, pay.go, Int.lt_irrefl, decide_false, cond_false, Bool.and_self, cond_true]
  | succ d ih =>
    intro i n a hi hn 
    obtain ⟨n, rfl⟩ : ∃ k, n = k + 1 := ⟨n - 1, by omega⟩
    have h1 : i < ls.length := by omega
    have h4 : (0 : Int) ≤ (i : Int) := Int.natCast_nonneg _
    have h5 : (i : Int) < (ls.length : Int) := by omega
    rw [round]
    have h6 : (i : Int) < r := by omega
    have hy := hv ls[i] (List.getElem_mem h1)
    have hih := fun b => ih (i + 1) n b (by omega) (by omega)
    rw [List.drop_eq_getElem_cons h1]
    simp only [pay.go]
    have q0 : (0 : Int) ≤ (q : Int) := Int.natCast_nonneg _
    have q1 : (q : Int) < (l : Int) := by omega
    have q2 : q < xs.length := by omega
    have x0 : (0 : Int) ≤ (x : Int) := Int.natCast_nonneg _
    have x1 : (x : Int) < (mw : Int) := by omega
    have x2 : x < ws.length := by omega
    have hu2 : IntKind.u64.wrap (i : Int) = (i : Int) := IntWalk.u64_in _ (by omega)
    have hbit : (iand.sv IntKind.i64 (ishr.sv IntKind.i64 (gz ws x) (i : Int)) 1 == 1) = pay.on.sp (gz ws x) (i : Int) := rfl
    simp only [Int.toNat_natCast, hx, hu2, hbit, gz_eq h1, h4, h5, h6, h1, q0, q1, q2, x0, x1, x2, decide_true, Bool.and_self, Bool.or_self, Bool.and_true, Bool.true_and, cond_true, wrap_nat i (by omega)]
    cases ho : pay.on.sp (gz ws x) (i : Int)
    · simp only [cond_false]
      exact hih a
    · have hk := hon i h1 ho
      obtain ⟨y1, y2, y3⟩ := pot.ix (j := (i : Int)) (k := ls[i]) hu hr hm ⟨h4, h6⟩ ⟨hk, hy.2⟩
      have k2 : ls[i] ≤ 64 := by omega
      have cst : pot.cost.sv u (cs.take mc) i ls[i] = pot.cost.sv u cs i ls[i] := by
        unfold pot.cost.sv
        rw [gz_take (by omega) hc]
      simp only [cond_true, hc, y1, y2, y3, hk, k2, cst, and_self, decide_true, Bool.and_self, Bool.or_self, Bool.and_true, Bool.true_and, Bool.or_true]
      exact hih _
theorem run : ∀ args v new, R args = some (true, v, new) → ∃ fuel, runFn Try.prog (orc [⟨79, l06Loads.R⟩, ⟨40, l06Cost.R⟩]) hd dr (some 0) fuel (bodyOf Try.f70) 46 [6] args [] = some (v, new) := by
  intro args v new h
  unfold R at h
  split at h
  · rename_i u r ws mw cs mc xs l q
    simp only [Option.some.injEq, Prod.mk.injEq, Bool.and_eq_true, decide_eq_true_eq] at h
    obtain ⟨⟨⟨h1, h2, h3, h4, h5, h6, h7, h8⟩, hv⟩, rfl, rfl⟩ := h
    have e1 : (ws.take mw).length = mw := by simp; omega
    have e2 : (cs.take mc).length = mc := by simp; omega
    have e3 : (xs.take l).length = l := by simp; omega
    obtain ⟨F, hF⟩ : ∃ F : Nat, F = 100 := ⟨100, rfl⟩
    refine ⟨F, ?_⟩
    rw [start]
    obtain ⟨v1, v2, v3, v4, v5, v6, v7⟩ := load.valid hv
    rw [e2] at v4
    rw [e1] at v6
    obtain ⟨p, rfl⟩ : ∃ p : Nat, q = p := ⟨q.toNat, by omega⟩
    have hp : p < xs.length := by omega
    have hmem : xs[p] ∈ xs.take l := List.mem_take_iff_getElem.2 ⟨p, by omega, rfl⟩
    have hxp := v6 xs[p] hmem
    obtain ⟨x, hx⟩ : ∃ x : Nat, xs[p] = x := ⟨xs[p].toNat, by omega⟩
    have hle := pot.loads_le hv
    have hlen : (load.sv r (ws.take mw) (xs.take l)).length = r.toNat := load.sv_length _ _ _
    have hgt : gz (ws.take mw) x = gz ws x := gz_take (by omega) h1
    have hl := loop u r ws cs mw mc xs l (load.sv r (ws.take mw) (xs.take l)) p x F v1 v2 v4 h3 (by omega) hle (by omega) h5 (by rw [gz_eq hp]; exact hx) (by omega) h1 (fun j hj ho => by
      have := pay.on_ge hv hmem hj (by rw [hx, Int.toNat_natCast, hgt]; exact ho)
      rwa [gz_eq hj] at this) (load.sv r (ws.take mw) (xs.take l)).length 0 F 0 (by omega) (by omega)
    rw [List.drop_zero] at hl
    have hpv : pay.sv u r (ws.take mw) (cs.take mc) (xs.take l) (gz xs ((p : Int)).toNat) = pay.go u (cs.take mc) (gz ws x) (load.sv r (ws.take mw) (xs.take l)) 0 0 := by
      unfold pay.sv
      rw [Int.toNat_natCast, gz_eq hp, hx, Int.toNat_natCast, hgt]
    rw [hpv]
    simp only [h1, h2, h3, h4, h5, h6, hv, and_self, decide_true, Bool.and_self, Bool.or_self, Bool.and_true, Bool.true_and, Bool.or_true, cond_true]
    exact hl
  · cases h
theorem ok : EntOk Try.prog ⟨70, R⟩ :=
  ent_okA mixed (A := (orc [⟨79, l06Loads.R⟩, ⟨40, l06Cost.R⟩])) (orc_ok (by simp only [List.mem_cons, List.not_mem_nil, or_false, forall_eq_or_imp, forall_eq]; exact ⟨l06Loads.ok, l06Cost.ok⟩)) Try.func70 (by kernel_rfl) (by kernel_rfl) (n := 46) (ts := [6]) (hd := hd) (dr := dr) (cut := (some 0)) (by kernel_rfl) (by kernel_rfl) (by kernel_rfl) run
end l06Pays

namespace iPays
def R : List AVal → Heap → Option (Bool × AVal × Heap)
  | [.agg [.int .i64 u, .int .i64 r, .ro (.ints .i64 ws) mw 1, .ro (.ints .i64 cs) mc 1], .own 0 0 l 0 1, .int .i64 q, .int .i64 w], [⟨.typ (.ints .i64 xs), 0⟩] => some (decide (mw ≤ ws.length ∧ mw ≤ 4611686018427387904 ∧ mc ≤ cs.length ∧ mc ≤ 4611686018427387904 ∧ l = xs.length ∧ l ≤ 4611686018427387904 ∧ 0 ≤ q ∧ q < (l : Int)) && load.sp u r (ws.take mw) (cs.take mc) (xs.set q.toNat w), .int .i64 (pay.sv u r (ws.take mw) (cs.take mc) (xs.set q.toNat w) w), [⟨.typ (.ints .i64 xs), 0⟩])
  | _, _ => none
def hd : Nat → Head := fun _ => ⟨[3, 4, 10, 11, 29, 30], some 2⟩
noncomputable def L (f n : Nat) (s : State) := loopAt Try.prog (orc [⟨85, iLoads.R⟩, ⟨44, iCost.R⟩]) hd Dr.std 1 f (bodyOf Try.f80) 0 [true, true, true, true, true, true, false, true] (retK Try.prog [8] 1 (some 0)) n s
theorem start (u r : Int) (ws cs : List Int) (mw mc : Nat) (xs : List Int) (l : Nat) (q w : Int) (f : Nat) :
  runFn Try.prog (orc [⟨85, iLoads.R⟩, ⟨44, iCost.R⟩]) hd Dr.std (some 0) f (bodyOf Try.f80) 53 [8] [.agg [.int .i64 u, .int .i64 r, .ro (.ints .i64 ws) mw 1, .ro (.ints .i64 cs) mc 1], .own 0 0 l 0 1, .int .i64 q, .int .i64 w] [⟨.typ (.ints .i64 xs), 0⟩]
  = (bif true && true then bif true && (decide ((0 : Int) ≤ q) && decide (q < (↑l : Int))) then bif true && decide (q.toNat < xs.length) then bif true && (decide ((0 : Int) ≤ q) && decide (q < (↑l : Int))) then bif true && (true && (decide (q.toNat < xs.length) && true)) then bif true && true && (true && true && (true && true && (true && true && true))) then bif decide (mw ≤ ws.length ∧ mw ≤ (4611686018427387904 : Nat) ∧ mc ≤ cs.length ∧ mc ≤ (4611686018427387904 : Nat) ∧ l ≤ (xs.set q.toNat w).length ∧ l ≤ (4611686018427387904 : Nat)) && load.sp u r (List.take mw ws) (List.take mc cs) (List.take l (xs.set q.toNat w)) && (true && (true && (true && (true && true))) && (false && true) || true && (true && true)) then bif true && (decide ((0 : Int) ≤ q) && decide (q < (↑l : Int))) then bif true && (true && (decide (q.toNat < (xs.set q.toNat w).length) && true)) then bif true && true then L f f (mkS (53 : Nat) [((3 : Nat), AVal.int IntKind.i64 w), ((4 : Nat), AVal.ptr (1 : Nat) (0 : Nat) (0 : Nat)), ((10 : Nat), AVal.own ((1 : Nat) + (1 : Nat) + (0 : Nat)) (0 : Nat) (load.sv r (List.take mw ws) (List.take l (xs.set q.toNat w))).length (0 : Nat) (1 : Nat)), ((11 : Nat), AVal.int IntKind.i64 (0 : Int)), ((29 : Nat), AVal.int IntKind.i64 r), ((30 : Nat), AVal.int IntKind.i64 (0 : Int))] [{ c := BC.typ (Cont.ints IntKind.i64 ((xs.set q.toNat w).set q.toNat (gz xs q.toNat))), ver := (0 : Nat) }, { c := BC.cells [AVal.int IntKind.i64 u, AVal.int IntKind.i64 r, AVal.ro (Cont.ints IntKind.i64 ws) mw (1 : Nat), AVal.ro (Cont.ints IntKind.i64 cs) mc (1 : Nat)], ver := (0 : Nat) }, { c := BC.typ (Cont.ints IntKind.i64 (load.sv r (List.take mw ws) (List.take l (xs.set q.toNat w)))), ver := (0 : Nat) }]) else none else none else none else none else none else none else none else none else none else none) := by kernel_rfl
theorem round (u r : Int) (ws cs : List Int) (mw mc : Nat) (zs ls : List Int) (w a : Int) (i f n : Nat) :
  L f (n + 1) (mkS 53 [(3, .int .i64 w), (4, .ptr 1 0 0), (10, .own 2 0 ls.length 0 1), (11, .int .i64 a), (29, .int .i64 r), (30, .int .i64 i)] [⟨.typ (.ints .i64 zs), 0⟩, ⟨.cells [.int .i64 u, .int .i64 r, .ro (.ints .i64 ws) mw 1, .ro (.ints .i64 cs) mc 1], 0⟩, ⟨.typ (.ints .i64 ls), 0⟩])
  = (bif decide ((↑i : Int) < r) then bif true && true then bif true && (decide ((0 : Int) ≤ w) && decide (w < (↑mw : Int))) then bif decide (w.toNat < ws.length) then bif decide ((0 : Int) ≤ (↑i : Int)) then bif iand.sv IntKind.i64 (ishr.sv IntKind.i64 (gz ws w.toNat) (↑i : Int)) (1 : Int) == (1 : Int) then bif true && true && (true && true && (true && true && (true && true && true))) then bif true && (decide ((0 : Int) ≤ (↑i : Int)) && decide ((↑i : Int) < (↑ls.length : Int))) then bif true && decide ((↑i : Int).toNat < ls.length) then bif decide (mc ≤ cs.length ∧ (0 : Int) ≤ (↑i : Int) * u ∧ (↑i : Int) * u ≤ (64 : Int) ∧ (1 : Int) ≤ gz ls (↑i : Int).toNat ∧ gz ls (↑i : Int).toNat ≤ (64 : Int) ∧ (↑i : Int) * u + gz ls (↑i : Int).toNat - (1 : Int) < (↑mc : Int)) && (true && (true && (true && (true && true))) && (true && (true && true)) || true && true) then L f n (mkS (53 : Nat) [((3 : Nat), AVal.int IntKind.i64 w), ((4 : Nat), AVal.ptr (1 : Nat) (0 : Nat) (0 : Nat)), ((10 : Nat), AVal.own (2 : Nat) (0 : Nat) ls.length (0 : Nat) (1 : Nat)), ((11 : Nat), AVal.int IntKind.i64 (IntKind.i64.wrap (a + pot.cost.sv u cs (↑i : Int) (gz ls (↑i : Int).toNat)))), ((29 : Nat), AVal.int IntKind.i64 r), ((30 : Nat), AVal.int IntKind.i64 (IntKind.i64.wrap ((↑i : Int) + (1 : Int))))] [{ c := BC.typ (Cont.ints IntKind.i64 zs), ver := (0 : Nat) }, { c := BC.cells [AVal.int IntKind.i64 u, AVal.int IntKind.i64 r, AVal.ro (Cont.ints IntKind.i64 ws) mw (1 : Nat), AVal.ro (Cont.ints IntKind.i64 cs) mc (1 : Nat)], ver := (0 : Nat) }, { c := BC.typ (Cont.ints IntKind.i64 ls), ver := (0 : Nat) }]) else none else none else none else none else L f n (mkS (53 : Nat) [((3 : Nat), AVal.int IntKind.i64 w), ((4 : Nat), AVal.ptr (1 : Nat) (0 : Nat) (0 : Nat)), ((10 : Nat), AVal.own (2 : Nat) (0 : Nat) ls.length (0 : Nat) (1 : Nat)), ((11 : Nat), AVal.int IntKind.i64 a), ((29 : Nat), AVal.int IntKind.i64 r), ((30 : Nat), AVal.int IntKind.i64 (IntKind.i64.wrap ((↑i : Int) + (1 : Int))))] [{ c := BC.typ (Cont.ints IntKind.i64 zs), ver := (0 : Nat) }, { c := BC.cells [AVal.int IntKind.i64 u, AVal.int IntKind.i64 r, AVal.ro (Cont.ints IntKind.i64 ws) mw (1 : Nat), AVal.ro (Cont.ints IntKind.i64 cs) mc (1 : Nat)], ver := (0 : Nat) }, { c := BC.typ (Cont.ints IntKind.i64 ls), ver := (0 : Nat) }]) else none else none else none else none else some (AVal.int IntKind.i64 a, [{ c := BC.typ (Cont.ints IntKind.i64 zs), ver := (0 : Nat) }])) := by kernel_rfl
theorem loop (u r : Int) (ws cs : List Int) (mw mc : Nat) (zs ls : List Int) (x : Nat) (f : Nat) (hu : 1 ≤ u ∧ u ≤ 8) (hr : 1 ≤ r ∧ r ≤ 8) (hm : (mc : Int) = u * r) (hc : mc ≤ cs.length) (hl : (ls.length : Int) = r) (hv : ∀ y ∈ ls, 0 ≤ y ∧ y ≤ u) (hxm : x < mw) (hws : mw ≤ ws.length) (hon : ∀ (j : Nat) (hj : j < ls.length), pay.on.sp (gz ws x) j = true → 1 ≤ ls[j]) : ∀ (d i n : Nat) (a : Int), i + d = ls.length → d < n →
    L f n (mkS 53 [(3, .int .i64 (x : Int)), (4, .ptr 1 0 0), (10, .own 2 0 ls.length 0 1), (11, .int .i64 a), (29, .int .i64 r), (30, .int .i64 i)] [⟨.typ (.ints .i64 zs), 0⟩, ⟨.cells [.int .i64 u, .int .i64 r, .ro (.ints .i64 ws) mw 1, .ro (.ints .i64 cs) mc 1], 0⟩, ⟨.typ (.ints .i64 ls), 0⟩]) = some (.int .i64 (pay.go u (cs.take mc) (gz ws x) (ls.drop i) i a), [⟨.typ (.ints .i64 zs), 0⟩]) := by
  intro d
  induction d with
  | zero =>
    intro i n a hi hn 
    obtain ⟨n, rfl⟩ : ∃ k, n = k + 1 := ⟨n - 1, by omega⟩
    obtain rfl : i = ls.length := by omega
    rw [round]
    have e : ls.drop ls.length = [] := by simp
    have c : ¬ ((ls.length : Int) < r) := by omega
    simp only [e, c, pay.go, Int.lt_irrefl, decide_false, cond_false, Bool.and_self, cond_true]
  | succ d ih =>
    intro i n a hi hn 
    obtain ⟨n, rfl⟩ : ∃ k, n = k + 1 := ⟨n - 1, by omega⟩
    have h1 : i < ls.length := by omega
    have h4 : (0 : Int) ≤ (i : Int) := Int.natCast_nonneg _
    have h5 : (i : Int) < (ls.length : Int) := by omega
    rw [round]
    have h6 : (i : Int) < r := by omega
    have hy := hv ls[i] (List.getElem_mem h1)
    have hih := fun b => ih (i + 1) n b (by omega) (by omega)
    rw [List.drop_eq_getElem_cons h1]
    simp only [pay.go]
    have x0 : (0 : Int) ≤ (x : Int) := Int.natCast_nonneg _
    have x1 : (x : Int) < (mw : Int) := by omega
    have x2 : x < ws.length := by omega
    have hbit : (iand.sv IntKind.i64 (ishr.sv IntKind.i64 (gz ws x) (i : Int)) 1 == 1) = pay.on.sp (gz ws x) (i : Int) := rfl
    simp only [Int.toNat_natCast, hbit, gz_eq h1, h4, h5, h6, h1, x0, x1, x2, decide_true, Bool.and_self, Bool.or_self, Bool.and_true, Bool.true_and, cond_true, wrap_nat i (by omega)]
    cases ho : pay.on.sp (gz ws x) (i : Int)
    · simp only [cond_false]
      exact hih a
    · have hk := hon i h1 ho
      obtain ⟨y1, y2, y3⟩ := pot.ix (j := (i : Int)) (k := ls[i]) hu hr hm ⟨h4, h6⟩ ⟨hk, hy.2⟩
      have k2 : ls[i] ≤ 64 := by omega
      have cst : pot.cost.sv u (cs.take mc) i ls[i] = pot.cost.sv u cs i ls[i] := by
        unfold pot.cost.sv
        rw [gz_take (by omega) hc]
      simp only [cond_true, hc, y1, y2, y3, hk, k2, cst, and_self, decide_true, Bool.and_self, Bool.or_self, Bool.and_true, Bool.true_and, Bool.or_true]
      exact hih _
theorem run : ∀ args H v new, R args H = some (true, v, new) → ∃ fuel, runFn Try.prog (orc [⟨85, iLoads.R⟩, ⟨44, iCost.R⟩]) hd Dr.std (some 0) fuel (bodyOf Try.f80) 53 [8] args H = some (v, new) := by
  intro args H v new h
  unfold R at h
  split at h
  · rename_i u r ws mw cs mc l q w xs
    simp only [Option.some.injEq, Prod.mk.injEq, Bool.and_eq_true, decide_eq_true_eq] at h
    obtain ⟨⟨⟨h1, h2, h3, h4, rfl, h6, h7, h8⟩, hv⟩, rfl, rfl⟩ := h
    have e1 : (ws.take mw).length = mw := by simp; omega
    have e2 : (cs.take mc).length = mc := by simp; omega
    obtain ⟨F, hF⟩ : ∃ F : Nat, F = 100 := ⟨100, rfl⟩
    refine ⟨F, ?_⟩
    rw [start]
    obtain ⟨v1, v2, v3, v4, v5, v6, v7⟩ := load.valid hv
    rw [e2] at v4
    rw [e1] at v6
    obtain ⟨p, rfl⟩ : ∃ p : Nat, q = p := ⟨q.toNat, by omega⟩
    rw [Int.toNat_natCast] at hv v5 v6
    have hp : p < xs.length := by omega
    have hps : p < (xs.set p w).length := by simpa using hp
    have hmem : w ∈ xs.set p w := by
      have := List.getElem_mem hps
      rwa [List.getElem_set_self] at this
    have hxp := v6 w hmem
    obtain ⟨x, rfl⟩ : ∃ x : Nat, w = x := ⟨w.toNat, by omega⟩
    have hle := pot.loads_le hv
    have hlen : (load.sv r (ws.take mw) (xs.set p (x : Int))).length = r.toNat := load.sv_length _ _ _
    have hgt : gz (ws.take mw) x = gz ws x := gz_take (by omega) h1
    have hl := loop u r ws cs mw mc xs (load.sv r (ws.take mw) (xs.set p (x : Int))) x F v1 v2 v4 h3 (by omega) hle (by omega) h1 (fun j hj ho => by
      have := pay.on_ge hv hmem hj (by rw [Int.toNat_natCast, hgt]; exact ho)
      rwa [gz_eq hj] at this) (load.sv r (ws.take mw) (xs.set p (x : Int))).length 0 F 0 (by omega) (by omega)
    rw [List.drop_zero] at hl
    have hpv : pay.sv u r (ws.take mw) (cs.take mc) (xs.set p (x : Int)) (x : Int) = pay.go u (cs.take mc) (gz ws x) (load.sv r (ws.take mw) (xs.set p (x : Int))) 0 0 := by
      unfold pay.sv
      rw [Int.toNat_natCast, hgt]
    have hback : (xs.set p (x : Int)).set p xs[p] = xs := by rw [List.set_set, List.set_getElem_self]
    have hl1 : (xs.set p (x : Int)).length = xs.length := by simp
    have htk : List.take xs.length (xs.set p (x : Int)) = xs.set p (x : Int) := List.take_of_length_le (by simp)
    rw [Int.toNat_natCast, hpv]
    simp only [htk, hl1, gz_eq hp, hback, hp, h1, h2, h3, h4, h6, h7, h8, hv, Nat.le_refl, and_self, decide_true, Bool.and_self, Bool.or_self, Bool.and_true, Bool.true_and, Bool.or_true, cond_true]
    exact hl
  · cases h
theorem ok : EntWOk Try.prog ⟨80, R⟩ :=
  entw_ok mixed (A := (orc [⟨85, iLoads.R⟩, ⟨44, iCost.R⟩])) (orc_ok (by simp only [List.mem_cons, List.not_mem_nil, or_false, forall_eq_or_imp, forall_eq]; exact ⟨iLoads.ok, iCost.ok⟩)) Try.func80 (by kernel_rfl) (by kernel_rfl) (n := 53) (ts := [8]) (hd := hd) (dr := Dr.std) (cut := (some 0)) (by kernel_rfl) (by kernel_rfl) (by kernel_rfl) run
end iPays

end Go.Proofs.Ytgeglpommdckgaa.Ab
