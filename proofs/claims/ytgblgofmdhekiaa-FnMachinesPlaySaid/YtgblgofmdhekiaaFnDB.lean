/-
  Functions: two machines: rounds, the round that comes again, and its gains.
-/
import Derived.Test.YtgblgofmdhekiaaFnDA
import Derived.Test.YtgblgofmdhekiaaFnNA
import Derived.Test.YtgblgofmdhekiaaFnGJ
import Derived.Test.YtgblgofmdhekiaaAbBuX
import Derived.Test.YtgblgofmdhekiaaAbSub
namespace Go.Proofs.Ytgblgofmdhekiaa.Ab
open Go
set_option linter.unusedVariables false
set_option linter.unusedSimpArgs false
set_option maxRecDepth 100000

namespace mch
theorem range_succ_map {α : Type} (g : Nat → α) (n : Nat) : (List.range (n + 1)).map g = (List.range n).map g ++ [g n] := by rw [List.range_succ, List.map_append]; rfl
/-- The cells of so many rounds. -/
def cl.sv (r c : Nat) (p q s t : List Int) (n : Nat) : List Int := (List.range n).map fun j => ((ce.sv r c p q s t j : Nat) : Int)
theorem cl_len (r c : Nat) (p q s t : List Int) (n : Nat) : (cl.sv r c p q s t n).length = n := by simp [cl.sv]
theorem cl_next (r c : Nat) (p q s t : List Int) (n : Nat) : cl.sv r c p q s t n ++ [((ce.sv r c p q s t n : Nat) : Int)] = cl.sv r c p q s t (n + 1) := by unfold cl.sv; rw [range_succ_map]
theorem cl_get (r c : Nat) (p q s t : List Int) {n j : Nat} (h : j < n) : gz (cl.sv r c p q s t n) j = ((ce.sv r c p q s t j : Nat) : Int) := by
  rw [gz_eq (by rw [cl_len]; exact h)]
  simp [cl.sv]
/-- The states that have been, with their numbers. -/
def en.sv (r c : Nat) (p q s t : List Int) (n : Nat) : List (List Int) := (List.range n).map fun j => [((px.sv r c p q s t j : Nat) : Int), ((py.sv r c p q s t j : Nat) : Int), ((j : Nat) : Int)]
theorem en_next (r c : Nat) (p q s t : List Int) (n : Nat) : en.sv r c p q s t n ++ [[((px.sv r c p q s t n : Nat) : Int), ((py.sv r c p q s t n : Nat) : Int), ((n : Nat) : Int)]] = en.sv r c p q s t (n + 1) := by unfold en.sv; rw [range_succ_map]
theorem en_get (r c : Nat) (p q s t : List Int) {n j : Nat} (h : j < n) : (en.sv r c p q s t n)[j]? = some [((px.sv r c p q s t j : Nat) : Int), ((py.sv r c p q s t j : Nat) : Int), ((j : Nat) : Int)] := by simp [en.sv, h]
/-- All states before are different ones. -/
def Di (r c : Nat) (p q s t : List Int) (n : Nat) : Prop := ∀ i j, i < j → j < n → ¬ (px.sv r c p q s t i = px.sv r c p q s t j ∧ py.sv r c p q s t i = py.sv r c p q s t j)
section
variable {r c : Nat} {p q s t : List Int}
theorem di_le (h : TM r c p q s t) {n : Nat} (D : Di r c p q s t n) : n ≤ p.length * s.length := by
  have := bs.pigeon (p.length * s.length) ((List.range n).map fun j => ((px.sv r c p q s t j * s.length + py.sv r c p q s t j : Nat) : Int)) ?_ ?_
  · simpa using this
  · refine List.pairwise_iff_getElem.2 fun i j hi hj hij e => ?_
    simp only [List.length_map, List.length_range] at hi hj
    simp only [List.getElem_map, List.getElem_range, Int.natCast_inj] at e
    have h1 := (h.pos i).2
    have h2 := (h.pos j).2
    refine D i j hij hj ?_
    have m1 : (px.sv r c p q s t i * s.length + py.sv r c p q s t i) % s.length = py.sv r c p q s t i := by rw [Nat.mul_add_mod_self_right, Nat.mod_eq_of_lt h1]
    have m2 : (px.sv r c p q s t j * s.length + py.sv r c p q s t j) % s.length = py.sv r c p q s t j := by rw [Nat.mul_add_mod_self_right, Nat.mod_eq_of_lt h2]
    have d1 : (px.sv r c p q s t i * s.length + py.sv r c p q s t i) / s.length = px.sv r c p q s t i := by rw [Nat.mul_comm, Nat.mul_add_div (by omega), Nat.div_eq_of_lt h1, Nat.add_zero]
    have d2 : (px.sv r c p q s t j * s.length + py.sv r c p q s t j) / s.length = px.sv r c p q s t j := by rw [Nat.mul_comm, Nat.mul_add_div (by omega), Nat.div_eq_of_lt h2, Nat.add_zero]
    rw [e] at m1 d1
    exact ⟨d1.symm.trans d2, m1.symm.trans m2⟩
  · intro y hy
    simp only [List.mem_map, List.mem_range] at hy
    obtain ⟨j, hj, rfl⟩ := hy
    obtain ⟨h1, h2⟩ := h.pos j
    have := gm.ix_lt h1 h2
    omega
/-- A state is among those that have been, or is a new one. -/
theorem has_en {n : Nat} (D : Di r c p q s t n) {x y : Nat} :
    (mhas.sp (en.sv r c p q s t n) ((x : Nat) : Int) ((y : Nat) : Int) = false ∧ ∀ j, j < n → ¬ (px.sv r c p q s t j = x ∧ py.sv r c p q s t j = y)) ∨
    ∃ j, j < n ∧ px.sv r c p q s t j = x ∧ py.sv r c p q s t j = y ∧ mhas.sp (en.sv r c p q s t n) ((x : Nat) : Int) ((y : Nat) : Int) = true ∧ mget.sv (en.sv r c p q s t n) ((x : Nat) : Int) ((y : Nat) : Int) = ((j : Nat) : Int) := by
  by_cases hc : ∃ j, j < n ∧ px.sv r c p q s t j = x ∧ py.sv r c p q s t j = y
  · obtain ⟨j, hj, h1, h2⟩ := hc
    have hp : (en.sv r c p q s t n).Pairwise (fun s t => s.take 2 ≠ t.take 2) := by
      refine List.pairwise_iff_getElem.2 fun i k hi hk hik e => ?_
      simp only [en.sv, List.length_map, List.length_range] at hi hk
      simp only [en.sv, List.getElem_map, List.getElem_range, List.take_succ_cons, List.take_zero, List.cons.injEq, and_true, Int.natCast_inj] at e
      exact D i k hik hk e
    have hl : ∀ u ∈ en.sv r c p q s t n, u.length = 3 := by
      intro u hu
      simp only [en.sv, List.mem_map] at hu
      obtain ⟨k, _, rfl⟩ := hu
      rfl
    obtain ⟨g1, g2⟩ := mget_at hp hl (en_get r c p q s t hj) (a := ((x : Nat) : Int)) (b := ((y : Nat) : Int)) ⟨by rw [← h1]; rfl, by rw [← h2]; rfl⟩
    exact .inr ⟨j, hj, h1, h2, g1, g2⟩
  · have hn : ∀ j, j < n → ¬ (px.sv r c p q s t j = x ∧ py.sv r c p q s t j = y) := fun j hj hh => hc ⟨j, hj, hh⟩
    refine .inl ⟨(mget_none fun u hu hk => ?_).1, hn⟩
    simp only [en.sv, List.mem_map, List.mem_range] at hu
    obtain ⟨j, hj, rfl⟩ := hu
    simp only [gz, List.getD_cons_zero, List.getD_cons_succ, Int.natCast_inj] at hk
    exact hn j hj hk
end
/-- When a state comes again. -/
def fe (r c : Nat) (p q s t : List Int) : Nat → Nat → Nat
  | 0, n => n
  | d + 1, n => bif mhas.sp (en.sv r c p q s t n) ((px.sv r c p q s t n : Nat) : Int) ((py.sv r c p q s t n : Nat) : Int) then n else fe r c p q s t d (n + 1)
def fe.sv (r c : Nat) (p q s t : List Int) : Nat := fe r c p q s t (p.length * s.length + 1) 0
def fb.sv (r c : Nat) (p q s t : List Int) : Nat := (mget.sv (en.sv r c p q s t (fe.sv r c p q s t)) ((px.sv r c p q s t (fe.sv r c p q s t) : Nat) : Int) ((py.sv r c p q s t (fe.sv r c p q s t) : Nat) : Int)).toNat
theorem fe_ok {r c : Nat} {p q s t : List Int} (h : TM r c p q s t) : ∀ d n, n + d = p.length * s.length + 1 → Di r c p q s t n →
    Di r c p q s t (fe r c p q s t d n) ∧ mhas.sp (en.sv r c p q s t (fe r c p q s t d n)) ((px.sv r c p q s t (fe r c p q s t d n) : Nat) : Int) ((py.sv r c p q s t (fe r c p q s t d n) : Nat) : Int) = true
  | 0, n, hd, D => by have := di_le h D; omega
  | d + 1, n, hd, D => by
    rw [fe]
    rcases has_en D (x := px.sv r c p q s t n) (y := py.sv r c p q s t n) with ⟨h1, h2⟩ | ⟨j, _, _, _, h1, _⟩
    · rw [h1, cond_false]
      refine fe_ok h d (n + 1) (by omega) fun i j hij hj => ?_
      rcases Nat.lt_or_ge j n with c1 | c1
      · exact D i j hij c1
      · obtain rfl : j = n := by omega
        exact h2 i hij
    · rw [h1, cond_true]
      exact ⟨D, h1⟩
/-- The round that comes again. -/
theorem fe_spec {r c : Nat} {p q s t : List Int} (h : TM r c p q s t) : fb.sv r c p q s t < fe.sv r c p q s t ∧ fe.sv r c p q s t ≤ p.length * s.length ∧
    px.sv r c p q s t (fb.sv r c p q s t) = px.sv r c p q s t (fe.sv r c p q s t) ∧ py.sv r c p q s t (fb.sv r c p q s t) = py.sv r c p q s t (fe.sv r c p q s t) ∧
    mget.sv (en.sv r c p q s t (fe.sv r c p q s t)) ((px.sv r c p q s t (fe.sv r c p q s t) : Nat) : Int) ((py.sv r c p q s t (fe.sv r c p q s t) : Nat) : Int) = ((fb.sv r c p q s t : Nat) : Int) := by
  obtain ⟨D, h1⟩ := fe_ok h (p.length * s.length + 1) 0 (by omega) (fun i j _ hj => by omega)
  change Di r c p q s t (fe.sv r c p q s t) at D
  have hle := di_le h D
  unfold fb.sv
  rcases has_en D (x := px.sv r c p q s t (fe.sv r c p q s t)) (y := py.sv r c p q s t (fe.sv r c p q s t)) with ⟨h2, _⟩ | ⟨j, hj, e1, e2, _, e3⟩
  · have : mhas.sp (en.sv r c p q s t (fe.sv r c p q s t)) ((px.sv r c p q s t (fe.sv r c p q s t) : Nat) : Int) ((py.sv r c p q s t (fe.sv r c p q s t) : Nat) : Int) = true := h1
    rw [h2] at this
    cases this
  · rw [e3, Int.toNat_natCast]
    exact ⟨hj, hle, e1, e2, rfl⟩
/-- Gains over some rounds. -/
def sm.sv (r c : Nat) (p q s t xs : List Int) (b : Nat) : Nat → Int
  | 0 => 0
  | l + 1 => sm.sv r c p q s t xs b l + gz xs (ce.sv r c p q s t (b + l))
theorem sm_in {r c : Nat} {p q s t xs : List Int} (h : TM r c p q s t) (hl : xs.length = r * c) (hx : ∀ x ∈ xs, -1000 ≤ x ∧ x ≤ 1000) (b : Nat) : ∀ l : Nat, -1000 * (l : Int) ≤ sm.sv r c p q s t xs b l ∧ sm.sv r c p q s t xs b l ≤ 1000 * (l : Int)
  | 0 => by simp [sm.sv]
  | l + 1 => by
    have h1 := sm_in h hl hx b l
    have h2 := hx _ (gz_mem (l := xs) (j := ce.sv r c p q s t (b + l)) (by rw [hl]; exact h.cell _))
    rw [sm.sv]
    omega
structure TG (r c : Nat) (xs ys p q s t : List Int) : Prop where
  m : TM r c p q s t
  r6 : r ≤ 6
  c6 : c ≤ 6
  xl : xs.length = r * c
  yl : ys.length = r * c
  xi : ∀ x ∈ xs, -1000 ≤ x ∧ x ≤ 1000
  yi : ∀ x ∈ ys, -1000 ≤ x ∧ x ≤ 1000
theorem tg {r c : Int} {xs ys p q s t : List Int} (h1 : gm.sp r c xs ys = true) (h2 : mv.sp r c p q = true) (h3 : mv.sp c r s t = true) : ∃ R C : Nat, r = R ∧ c = C ∧ TG R C xs ys p q s t := by
  obtain ⟨R, C, rfl, rfl, hR, hC, e1, e2, e3, e4⟩ := gm.valid h1
  exact ⟨R, C, rfl, rfl, ⟨mv_iff.1 h2, mv_iff.1 h3⟩, hR.2, hC.2, e1, e2, e3, e4⟩
end mch

namespace iPlayMachines
def R : List AVal → Option (Bool × AVal × List Blk)
  | [.agg [.int .i64 r, .int .i64 c, .ro (.ints .i64 xs) mx 1, .ro (.ints .i64 ys) my 1], .agg [.ro (.ints .i64 p) mp 1, .ro (.ints .i64 q) mq 1], .agg [.ro (.ints .i64 s) ms 1, .ro (.ints .i64 t) mt 1], .int .i64 n] => some (decide (mx = xs.length ∧ my = ys.length ∧ mp = p.length ∧ mq = q.length ∧ ms = s.length ∧ mt = t.length ∧ 0 ≤ n ∧ n ≤ 1000) && (gm.sp r c xs ys && (mch.mv.sp r c p q && mch.mv.sp c r s t)), .tup [.ro (.ints .i64 (mch.cl.sv r.toNat c.toNat p q s t n.toNat)) n.toNat 1, .bool true], [])
  | _ => none
def hd : Nat → Head := fun _ => ⟨[998, 10, 12, 28, 29], none⟩
noncomputable def L (f n : Nat) (s : State) := loopAt Try.prog (orcW [⟨39, iPlay.R⟩] [⟨38, iPaired.R⟩, ⟨40, within.R⟩]) hd Dr.std 0 f (bodyOf Try.f12) 0 [true, true, true, true, false, true] (retK Try.prog [8, 9] 0 (some 0)) n s
theorem start (r c : Int) (xs ys p q s t : List Int) (n : Int) (f : Nat) :
  runFn Try.prog (orcW [⟨39, iPlay.R⟩] [⟨38, iPaired.R⟩, ⟨40, within.R⟩]) hd Dr.std (some 0) f (bodyOf Try.f12) 37 [8, 9] [.agg [.int .i64 r, .int .i64 c, .ro (.ints .i64 xs) xs.length 1, .ro (.ints .i64 ys) ys.length 1], .agg [.ro (.ints .i64 p) p.length 1, .ro (.ints .i64 q) q.length 1], .agg [.ro (.ints .i64 s) s.length 1, .ro (.ints .i64 t) t.length 1], .int .i64 n] []
  = (bif true && true && (true && true && (true && true && (true && true && true))) then bif true && true && (true && true && true) then bif true && true && (true && true && true) then bif decide (xs.length = xs.length ∧ ys.length = ys.length ∧ xs.length ≤ (4611686018427387904 : Nat) ∧ ys.length ≤ (4611686018427387904 : Nat) ∧ p.length = p.length ∧ q.length = q.length ∧ p.length ≤ (4611686018427387904 : Nat) ∧ q.length ≤ (4611686018427387904 : Nat) ∧ s.length = s.length ∧ t.length = t.length ∧ s.length ≤ (4611686018427387904 : Nat) ∧ t.length ≤ (4611686018427387904 : Nat)) && (true && (true && (true && (true && true))) && (true && (true && true) && (true && (true && true) && true)) || true && (true && (false && (false && (false && (false && (false && (false && true))))))) && (true && true) && true) then bif !(gm.sp r c xs ys && (mch.mv.sp r c p q && mch.mv.sp c r s t)) then some (AVal.tup [AVal.nils, AVal.bool false], []) else bif true && (true && true || true && true) then bif !(decide ((0 : Int) ≤ n) && decide (n ≤ (1000 : Int))) then some (AVal.tup [AVal.nils, AVal.bool false], []) else L f f (mkS (37 : Nat) [((10 : Nat), AVal.ptr (0 : Nat) (0 : Nat) (0 : Nat)), ((12 : Nat), AVal.own (1 : Nat) (0 : Nat) (0 : Nat) (0 : Nat) (1 : Nat)), ((28 : Nat), AVal.int IntKind.i64 n), ((29 : Nat), AVal.int IntKind.i64 (0 : Int))] [{ c := BC.cells [AVal.int IntKind.i64 r, AVal.int IntKind.i64 c, AVal.ro (Cont.ints IntKind.i64 xs) xs.length (1 : Nat), AVal.ro (Cont.ints IntKind.i64 ys) ys.length (1 : Nat), AVal.ro (Cont.ints IntKind.i64 p) p.length (1 : Nat), AVal.ro (Cont.ints IntKind.i64 q) q.length (1 : Nat), AVal.ro (Cont.ints IntKind.i64 s) s.length (1 : Nat), AVal.ro (Cont.ints IntKind.i64 t) t.length (1 : Nat), AVal.int IntKind.i64 (0 : Int), AVal.int IntKind.i64 (0 : Int)], ver := (0 : Nat) }, { c := BC.typ (Cont.ints IntKind.i64 (List.replicate (0 : Nat) (0 : Int))), ver := (0 : Nat) }]) else none else none else none else none else none) := by kernel_rfl
theorem round (r c : Int) (xs ys p q s t : List Int) (x y : Int) (os : List Int) (N i : Int) (z f n : Nat) :
  L f (n + 1) (mkS 37 [(10, .ptr 0 0 0), (12, .own 1 0 z 0 1), (28, .int .i64 N), (29, .int .i64 i)] [⟨.cells [.int .i64 r, .int .i64 c, .ro (.ints .i64 xs) xs.length 1, .ro (.ints .i64 ys) ys.length 1, .ro (.ints .i64 p) p.length 1, .ro (.ints .i64 q) q.length 1, .ro (.ints .i64 s) s.length 1, .ro (.ints .i64 t) t.length 1, .int .i64 x, .int .i64 y], 0⟩, ⟨.typ (.ints .i64 os), 0⟩])
  = (bif decide (i < N) then bif decide (xs.length = xs.length ∧ ys.length = ys.length ∧ p.length = p.length ∧ q.length = q.length ∧ s.length = s.length ∧ t.length = t.length ∧ (0 : Int) ≤ r ∧ (0 : Int) ≤ c ∧ (0 : Int) ≤ x ∧ x < (↑p.length : Int) ∧ (0 : Int) ≤ y ∧ y < (↑s.length : Int)) && (mch.mv.sp r c p q && mch.mv.sp c r s t) && (true && (true && true)) then bif (1 : Nat) == (1 : Nat) && (1 : Nat) == (1 : Nat) && (true && (true && true) && (true && true && (decide (z + (List.take (1 : Nat) (List.drop (0 : Nat) ((List.replicate (1 : Nat) (0 : Int)).set (0 : Nat) (↑(mch.cel.sv c.toNat p s x.toNat y.toNat) : Int)))).length ≤ (4611686018427387904 : Nat)) && decide ((z + (List.take (1 : Nat) (List.drop (0 : Nat) ((List.replicate (1 : Nat) (0 : Int)).set (0 : Nat) (↑(mch.cel.sv c.toNat p s x.toNat y.toNat) : Int)))).length) * (8 : Nat) ≤ (140737488355328 : Nat))))) then L f n (mkS (37 : Nat) [((10 : Nat), AVal.ptr (0 : Nat) (0 : Nat) (0 : Nat)), ((12 : Nat), AVal.own (1 : Nat) (0 : Nat) (z + (List.take (1 : Nat) (List.drop (0 : Nat) ((List.replicate (1 : Nat) (0 : Int)).set (0 : Nat) (↑(mch.cel.sv c.toNat p s x.toNat y.toNat) : Int)))).length) (0 : Nat) (1 : Nat)), ((28 : Nat), AVal.int IntKind.i64 N), ((29 : Nat), AVal.int IntKind.i64 (IntKind.i64.wrap (i + (1 : Int))))] [{ c := BC.cells [AVal.int IntKind.i64 r, AVal.int IntKind.i64 c, AVal.ro (Cont.ints IntKind.i64 xs) xs.length (1 : Nat), AVal.ro (Cont.ints IntKind.i64 ys) ys.length (1 : Nat), AVal.ro (Cont.ints IntKind.i64 p) p.length (1 : Nat), AVal.ro (Cont.ints IntKind.i64 q) q.length (1 : Nat), AVal.ro (Cont.ints IntKind.i64 s) s.length (1 : Nat), AVal.ro (Cont.ints IntKind.i64 t) t.length (1 : Nat), AVal.int IntKind.i64 (↑(mch.nx.sv c.toNat q s x.toNat y.toNat) : Int), AVal.int IntKind.i64 (↑(mch.ny.sv r.toNat p t x.toNat y.toNat) : Int)], ver := (0 : Nat) }, { c := BC.typ (Cont.ints IntKind.i64 (List.take z os ++ List.take (1 : Nat) (List.drop (0 : Nat) ((List.replicate (1 : Nat) (0 : Int)).set (0 : Nat) (↑(mch.cel.sv c.toNat p s x.toNat y.toNat) : Int))))), ver := (0 : Nat) }]) else none else none else some (AVal.tup [AVal.ro (Cont.ints IntKind.i64 os) z (1 : Nat), AVal.bool true], [])) := by kernel_rfl
theorem loop (r c : Nat) (xs ys p q s t : List Int) (N f : Nat) (tg : mch.TG r c xs ys p q s t) (va : mch.mv.sp r c p q = true) (vb : mch.mv.sp c r s t = true) (hN : N ≤ 1000) : ∀ (d i n : Nat), i + d = N → d < n →
    L f n (mkS 37 [(10, .ptr 0 0 0), (12, .own 1 0 i 0 1), (28, .int .i64 ((N : Nat) : Int)), (29, .int .i64 ((i : Nat) : Int))] [⟨.cells [.int .i64 ((r : Nat) : Int), .int .i64 ((c : Nat) : Int), .ro (.ints .i64 xs) xs.length 1, .ro (.ints .i64 ys) ys.length 1, .ro (.ints .i64 p) p.length 1, .ro (.ints .i64 q) q.length 1, .ro (.ints .i64 s) s.length 1, .ro (.ints .i64 t) t.length 1, .int .i64 (((mch.px.sv r c p q s t i) : Nat) : Int), .int .i64 (((mch.py.sv r c p q s t i) : Nat) : Int)], 0⟩, ⟨.typ (.ints .i64 (mch.cl.sv r c p q s t i)), 0⟩]) = some (.tup [.ro (.ints .i64 (mch.cl.sv r c p q s t N)) N 1, .bool true], []) := by
  intro d
  induction d with
  | zero =>
    intro i n hk hn
    obtain ⟨n, rfl⟩ : ∃ k, n = k + 1 := ⟨n - 1, by omega⟩
    obtain rfl : i = N := by omega
    rw [round]
    simp -implicitDefEqProofs (disch := omega) only [take_one, set_one, decide_eq_true, decide_eq_false, IntWalk.i64_in, beqT, beqF, bneT, bneF, nat_succ, ← Int.natCast_mul, ← Int.natCast_add, Int.toNat_natCast, Int.zero_mul, Int.zero_add, Int.add_zero, Nat.zero_add, Nat.add_zero, Nat.zero_mul, List.length_singleton, List.length_append, List.length_nil, List.length_cons, List.take_length, List.drop_zero, List.replicate_zero, List.take_nil, List.nil_append, Nat.reduceBEq, Nat.reduceMul, Nat.reduceLeDiff, eq_self, and_self, true_and, and_true, decide_true, decide_false, Bool.and_self, Bool.or_self, Bool.and_true, Bool.true_and, Bool.and_false, Bool.false_and, Bool.or_true, Bool.true_or, Bool.or_false, Bool.false_or, Bool.not_true, Bool.not_false, cond_true, cond_false]
  | succ d ih =>
    intro i n hk hn
    obtain ⟨n, rfl⟩ : ∃ k, n = k + 1 := ⟨n - 1, by omega⟩
    have g := ih (i + 1) n (by omega) (by omega)
    have c1 := (tg.m.pos i).1
    have c2 := (tg.m.pos i).2
    have e1 := mch.px_succ r c p q s t i
    have e2 := mch.py_succ r c p q s t i
    have e3 := mch.ce_eq r c p q s t i
    have tk : (mch.cl.sv r c p q s t i).take i = mch.cl.sv r c p q s t i := List.take_of_length_le (by rw [mch.cl_len]; exact Nat.le_refl _)
    rw [← mch.cl_next] at g
    rw [round]
    simp -implicitDefEqProofs (disch := omega) only [va, vb, e1, e2, e3, tk, take_one, set_one, decide_eq_true, decide_eq_false, IntWalk.i64_in, beqT, beqF, bneT, bneF, nat_succ, ← Int.natCast_mul, ← Int.natCast_add, Int.toNat_natCast, Int.zero_mul, Int.zero_add, Int.add_zero, Nat.zero_add, Nat.add_zero, Nat.zero_mul, List.length_singleton, List.length_append, List.length_nil, List.length_cons, List.take_length, List.drop_zero, List.replicate_zero, List.take_nil, List.nil_append, Nat.reduceBEq, Nat.reduceMul, Nat.reduceLeDiff, eq_self, and_self, true_and, and_true, decide_true, decide_false, Bool.and_self, Bool.or_self, Bool.and_true, Bool.true_and, Bool.and_false, Bool.false_and, Bool.or_true, Bool.true_or, Bool.or_false, Bool.false_or, Bool.not_true, Bool.not_false, cond_true, cond_false]
    exact g
theorem run : ∀ args v new, R args = some (true, v, new) → ∃ fuel, runFn Try.prog (orcW [⟨39, iPlay.R⟩] [⟨38, iPaired.R⟩, ⟨40, within.R⟩]) hd Dr.std (some 0) fuel (bodyOf Try.f12) 37 [8, 9] args [] = some (v, new) := by
  intro args v new h
  unfold R at h
  split at h
  · rename_i r c xs mx ys my p mp q mq s ms t mt n
    simp only [Option.some.injEq, Prod.mk.injEq, decide_eq_true_eq, Bool.and_eq_true] at h
    obtain ⟨⟨⟨rfl, rfl, rfl, rfl, rfl, rfl, n0, n1⟩, vg, va, vb⟩, rfl, rfl⟩ := h
    obtain ⟨r, c, rfl, rfl, tg⟩ := mch.tg vg va vb
    have h36 : r * c ≤ 36 := gm.le_36 tg.r6 tg.c6
    have hp8 := tg.m.a.p8
    have hs8 := tg.m.b.p8
    have hxl := tg.xl
    have hyl := tg.yl
    have hps : p.length * s.length ≤ 8 * 8 := Nat.mul_le_mul hp8 hs8
    have hql := tg.m.a.ql
    have htl := tg.m.b.ql
    have hq8 : p.length * c ≤ 8 * 6 := Nat.mul_le_mul hp8 tg.c6
    have ht8 : s.length * r ≤ 8 * 6 := Nat.mul_le_mul hs8 tg.r6
    obtain ⟨F, hF⟩ : ∃ F : Nat, F = 2000 := ⟨2000, rfl⟩
    obtain ⟨n, rfl⟩ : ∃ k : Nat, n = k := ⟨n.toNat, by omega⟩
    refine ⟨F, ?_⟩
    have g := loop r c xs ys p q s t n F tg va vb (by omega) n 0 F (by omega) (by omega)
    rw [start]
    simp only [Int.toNat_natCast]
    simp -implicitDefEqProofs (disch := omega) only [vg, va, vb, take_one, set_one, decide_eq_true, decide_eq_false, IntWalk.i64_in, beqT, beqF, bneT, bneF, nat_succ, ← Int.natCast_mul, ← Int.natCast_add, Int.toNat_natCast, Int.zero_mul, Int.zero_add, Int.add_zero, Nat.zero_add, Nat.add_zero, Nat.zero_mul, List.length_singleton, List.length_append, List.length_nil, List.length_cons, List.take_length, List.drop_zero, List.replicate_zero, List.take_nil, List.nil_append, Nat.reduceBEq, Nat.reduceMul, Nat.reduceLeDiff, eq_self, and_self, true_and, and_true, decide_true, decide_false, Bool.and_self, Bool.or_self, Bool.and_true, Bool.true_and, Bool.and_false, Bool.false_and, Bool.or_true, Bool.true_or, Bool.or_false, Bool.false_or, Bool.not_true, Bool.not_false, cond_true, cond_false]
    exact g
  · cases h
theorem ok : EntOk Try.prog ⟨12, R⟩ :=
  ent_okA mixed (A := (orcW [⟨39, iPlay.R⟩] [⟨38, iPaired.R⟩, ⟨40, within.R⟩])) (orcW_ok (by simp only [List.mem_cons, List.not_mem_nil, or_false, forall_eq_or_imp, forall_eq]; exact iPlay.ok) (by simp only [List.mem_cons, List.not_mem_nil, or_false, forall_eq_or_imp, forall_eq]; exact ⟨iPaired.ok, within.ok⟩)) Try.func12 (by kernel_rfl) (by kernel_rfl) (n := 37) (ts := [8, 9]) (hd := hd) (dr := Dr.std) (cut := (some 0)) (by kernel_rfl) (by kernel_rfl) (by kernel_rfl) run
end iPlayMachines

namespace iRoundOf
def R : List AVal → Option (Bool × AVal × List Blk)
  | [.agg [.int .i64 r, .int .i64 c, .ro (.ints .i64 xs) mx 1, .ro (.ints .i64 ys) my 1], .agg [.ro (.ints .i64 p) mp 1, .ro (.ints .i64 q) mq 1], .agg [.ro (.ints .i64 s) ms 1, .ro (.ints .i64 t) mt 1]] => some (decide (mx = xs.length ∧ my = ys.length ∧ mp = p.length ∧ mq = q.length ∧ ms = s.length ∧ mt = t.length) && (gm.sp r c xs ys && (mch.mv.sp r c p q && mch.mv.sp c r s t)), .tup [.int .i64 ((mch.fb.sv r.toNat c.toNat p q s t : Nat) : Int), .int .i64 (((mch.fe.sv r.toNat c.toNat p q s t - mch.fb.sv r.toNat c.toNat p q s t) : Nat) : Int), .bool true], [])
  | _ => none
def C : XC := ⟨[], []⟩
theorem Cok : XCok Try.prog C := ⟨by simp [C], by simp [C]⟩
def hd : Nat → List Nat := fun _ => [998, 6, 7, 8, 9, 11, 12]
noncomputable def L (f n : Nat) (x : SX) := loopX Try.prog (orcWU [⟨39, iPlay.R⟩] [⟨38, iPaired.R⟩]) C hd Dr.std f (bodyOf Try.f11) 0 [true, true, true, true, true] (retX Try.prog [6, 7, 8]) n x
theorem start (r c : Int) (xs ys p q s t : List Int) (f : Nat) :
  runFnX Try.prog (orcWU [⟨39, iPlay.R⟩] [⟨38, iPaired.R⟩]) C hd Dr.std f (bodyOf Try.f11) 48 [6, 7, 8] [.agg [.int .i64 r, .int .i64 c, .ro (.ints .i64 xs) xs.length 1, .ro (.ints .i64 ys) ys.length 1], .agg [.ro (.ints .i64 p) p.length 1, .ro (.ints .i64 q) q.length 1], .agg [.ro (.ints .i64 s) s.length 1, .ro (.ints .i64 t) t.length 1]] [] 0
  = (bif true && true && (true && true && (true && true && (true && true && true))) then bif true && true && (true && true && true) then bif true && true && (true && true && true) then bif decide (xs.length = xs.length ∧ ys.length = ys.length ∧ xs.length ≤ (4611686018427387904 : Nat) ∧ ys.length ≤ (4611686018427387904 : Nat) ∧ p.length = p.length ∧ q.length = q.length ∧ p.length ≤ (4611686018427387904 : Nat) ∧ q.length ≤ (4611686018427387904 : Nat) ∧ s.length = s.length ∧ t.length = t.length ∧ s.length ≤ (4611686018427387904 : Nat) ∧ t.length ≤ (4611686018427387904 : Nat)) && (true && (true && (true && (true && true))) && (true && (true && true) && (true && (true && true) && true)) || true && (true && (false && (false && (false && (false && (false && (false && true))))))) && (true && true) && true) then bif !(gm.sp r c xs ys && (mch.mv.sp r c p q && mch.mv.sp c r s t)) then some (AVal.tup [AVal.int IntKind.i64 (0 : Int), AVal.int IntKind.i64 (0 : Int), AVal.bool false], [{ c := BC.cells [AVal.int IntKind.i64 r, AVal.int IntKind.i64 c, AVal.ro (Cont.ints IntKind.i64 xs) xs.length (1 : Nat), AVal.ro (Cont.ints IntKind.i64 ys) ys.length (1 : Nat)], ver := (0 : Nat) }, { c := BC.cells [AVal.ro (Cont.ints IntKind.i64 p) p.length (1 : Nat), AVal.ro (Cont.ints IntKind.i64 q) q.length (1 : Nat)], ver := (0 : Nat) }, { c := BC.cells [AVal.ro (Cont.ints IntKind.i64 s) s.length (1 : Nat), AVal.ro (Cont.ints IntKind.i64 t) t.length (1 : Nat)], ver := (0 : Nat) }, { c := BC.cells [AVal.int IntKind.i64 r, AVal.int IntKind.i64 c, AVal.ro (Cont.ints IntKind.i64 xs) xs.length (1 : Nat), AVal.ro (Cont.ints IntKind.i64 ys) ys.length (1 : Nat), AVal.ro (Cont.ints IntKind.i64 p) p.length (1 : Nat), AVal.ro (Cont.ints IntKind.i64 q) q.length (1 : Nat), AVal.ro (Cont.ints IntKind.i64 s) s.length (1 : Nat), AVal.ro (Cont.ints IntKind.i64 t) t.length (1 : Nat), AVal.int IntKind.i64 (0 : Int), AVal.int IntKind.i64 (0 : Int)], ver := (0 : Nat) }], (0 : Nat)) else L f f (mkX (48 : Nat) [((6 : Nat), AVal.int IntKind.i64 (0 : Int)), ((7 : Nat), AVal.int IntKind.i64 (0 : Int)), ((8 : Nat), AVal.bool false), ((9 : Nat), AVal.ptr (0 : Nat) (0 : Nat) (0 : Nat)), ((11 : Nat), AVal.bun (0 : Nat) (Cont.rows IntKind.u16 []) (0 : Nat)), ((12 : Nat), AVal.int IntKind.i64 (0 : Int))] [{ c := BC.cells [AVal.int IntKind.i64 r, AVal.int IntKind.i64 c, AVal.ro (Cont.ints IntKind.i64 xs) xs.length (1 : Nat), AVal.ro (Cont.ints IntKind.i64 ys) ys.length (1 : Nat), AVal.ro (Cont.ints IntKind.i64 p) p.length (1 : Nat), AVal.ro (Cont.ints IntKind.i64 q) q.length (1 : Nat), AVal.ro (Cont.ints IntKind.i64 s) s.length (1 : Nat), AVal.ro (Cont.ints IntKind.i64 t) t.length (1 : Nat), AVal.int IntKind.i64 (0 : Int), AVal.int IntKind.i64 (0 : Int)], ver := (0 : Nat) }] (1 : Nat)) else none else none else none else none) := by kernel_rfl
theorem round (r c : Int) (xs ys p q s t : List Int) (x y : Int) (es : List (List Int)) (N : Int) (f n : Nat) :
  L f (n + 1) (mkX 48 [(6, .int .i64 0), (7, .int .i64 0), (8, .bool false), (9, .ptr 0 0 0), (11, .bun 0 (.rows .u16 es) 0), (12, .int .i64 N)] [⟨.cells [.int .i64 r, .int .i64 c, .ro (.ints .i64 xs) xs.length 1, .ro (.ints .i64 ys) ys.length 1, .ro (.ints .i64 p) p.length 1, .ro (.ints .i64 q) q.length 1, .ro (.ints .i64 s) s.length 1, .ro (.ints .i64 t) t.length 1, .int .i64 x, .int .i64 y], 0⟩] 1)
  = (bif true && true then bif true && true then bif true && true && (true && true && true) then bif true && (msm.sp x && msm.sp y) then bif mhas.sp es x y then some (AVal.tup [AVal.int IntKind.i64 (mget.sv es x y), AVal.int IntKind.i64 (IntKind.i64.wrap (N - mget.sv es x y)), AVal.bool true], [{ c := BC.cells [AVal.int IntKind.i64 r, AVal.int IntKind.i64 c, AVal.ro (Cont.ints IntKind.i64 xs) xs.length (1 : Nat), AVal.ro (Cont.ints IntKind.i64 ys) ys.length (1 : Nat), AVal.ro (Cont.ints IntKind.i64 p) p.length (1 : Nat), AVal.ro (Cont.ints IntKind.i64 q) q.length (1 : Nat), AVal.ro (Cont.ints IntKind.i64 s) s.length (1 : Nat), AVal.ro (Cont.ints IntKind.i64 t) t.length (1 : Nat), AVal.int IntKind.i64 x, AVal.int IntKind.i64 y], ver := (0 : Nat) }, { c := BC.cells [AVal.int IntKind.i64 x, AVal.int IntKind.i64 y], ver := (0 : Nat) }], (1 : Nat)) else bif true && true && (true && true && true) then bif true && (msm.sp x && msm.sp y && !mhas.sp es x y) then bif decide (xs.length = xs.length ∧ ys.length = ys.length ∧ p.length = p.length ∧ q.length = q.length ∧ s.length = s.length ∧ t.length = t.length ∧ (0 : Int) ≤ r ∧ (0 : Int) ≤ c ∧ (0 : Int) ≤ x ∧ x < (↑p.length : Int) ∧ (0 : Int) ≤ y ∧ y < (↑s.length : Int)) && (mch.mv.sp r c p q && mch.mv.sp c r s t) && (true && (true && true)) then L f n (mkX (48 : Nat) [((6 : Nat), AVal.int IntKind.i64 (0 : Int)), ((7 : Nat), AVal.int IntKind.i64 (0 : Int)), ((8 : Nat), AVal.bool false), ((9 : Nat), AVal.ptr (0 : Nat) (0 : Nat) (0 : Nat)), ((11 : Nat), AVal.bun (0 : Nat) (Cont.rows IntKind.u16 (es ++ [[x, y, N]])) (0 : Nat)), ((12 : Nat), AVal.int IntKind.i64 (IntKind.i64.wrap (N + (1 : Int))))] [{ c := BC.cells [AVal.int IntKind.i64 r, AVal.int IntKind.i64 c, AVal.ro (Cont.ints IntKind.i64 xs) xs.length (1 : Nat), AVal.ro (Cont.ints IntKind.i64 ys) ys.length (1 : Nat), AVal.ro (Cont.ints IntKind.i64 p) p.length (1 : Nat), AVal.ro (Cont.ints IntKind.i64 q) q.length (1 : Nat), AVal.ro (Cont.ints IntKind.i64 s) s.length (1 : Nat), AVal.ro (Cont.ints IntKind.i64 t) t.length (1 : Nat), AVal.int IntKind.i64 (↑(mch.nx.sv c.toNat q s x.toNat y.toNat) : Int), AVal.int IntKind.i64 (↑(mch.ny.sv r.toNat p t x.toNat y.toNat) : Int)], ver := (0 : Nat) + (0 : Nat) }] (1 : Nat)) else none else none else none else none else none else none else none) := by kernel_rfl
theorem loop (r c : Nat) (xs ys p q s t : List Int) (f : Nat) (tg : mch.TG r c xs ys p q s t) (va : mch.mv.sp r c p q = true) (vb : mch.mv.sp c r s t = true) : ∀ (d n k : Nat), n + d = p.length * s.length + 1 → d < k → mch.Di r c p q s t n →
    ∃ H m, L f k (mkX 48 [(6, .int .i64 0), (7, .int .i64 0), (8, .bool false), (9, .ptr 0 0 0), (11, .bun 0 (.rows .u16 (mch.en.sv r c p q s t n)) 0), (12, .int .i64 ((n : Nat) : Int))] [⟨.cells [.int .i64 ((r : Nat) : Int), .int .i64 ((c : Nat) : Int), .ro (.ints .i64 xs) xs.length 1, .ro (.ints .i64 ys) ys.length 1, .ro (.ints .i64 p) p.length 1, .ro (.ints .i64 q) q.length 1, .ro (.ints .i64 s) s.length 1, .ro (.ints .i64 t) t.length 1, .int .i64 (((mch.px.sv r c p q s t n) : Nat) : Int), .int .i64 (((mch.py.sv r c p q s t n) : Nat) : Int)], 0⟩] 1) = some (.tup [.int .i64 (mget.sv (mch.en.sv r c p q s t (mch.fe r c p q s t d n)) ((mch.px.sv r c p q s t (mch.fe r c p q s t d n) : Nat) : Int) ((mch.py.sv r c p q s t (mch.fe r c p q s t d n) : Nat) : Int)), .int .i64 (IntKind.i64.wrap ((((mch.fe r c p q s t d n) : Nat) : Int) - (mget.sv (mch.en.sv r c p q s t (mch.fe r c p q s t d n)) ((mch.px.sv r c p q s t (mch.fe r c p q s t d n) : Nat) : Int) ((mch.py.sv r c p q s t (mch.fe r c p q s t d n) : Nat) : Int)))), .bool true], H, m) := by
  have hps : p.length * s.length ≤ 8 * 8 := Nat.mul_le_mul tg.m.a.p8 tg.m.b.p8
  intro d
  induction d with
  | zero =>
    intro n k hd hk D
    have := mch.di_le tg.m D
    omega
  | succ d ih =>
    intro n k hd hk D
    obtain ⟨k, rfl⟩ : ∃ q, k = q + 1 := ⟨k - 1, by omega⟩
    have c1 := (tg.m.pos n).1
    have c2 := (tg.m.pos n).2
    have hp8 := tg.m.a.p8
    have hs8 := tg.m.b.p8
    have s1 : msm.sp ((mch.px.sv r c p q s t n : Nat) : Int) = true := by unfold msm.sp; exact decide_eq_true (by omega)
    have s2 : msm.sp ((mch.py.sv r c p q s t n : Nat) : Int) = true := by unfold msm.sp; exact decide_eq_true (by omega)
    have hle := mch.di_le tg.m D
    rw [round, mch.fe]
    rcases mch.has_en D (x := mch.px.sv r c p q s t n) (y := mch.py.sv r c p q s t n) with ⟨h1, h2⟩ | ⟨j, hj, h3, h4, h1, h2⟩
    · have D2 : mch.Di r c p q s t (n + 1) := fun i j hij hj => by
        rcases Nat.lt_or_ge j n with a | a
        · exact D i j hij a
        · obtain rfl : j = n := by omega
          exact h2 i hij
      obtain ⟨H, m, g⟩ := ih (n + 1) k (by omega) (by omega) D2
      have e1 := mch.px_succ r c p q s t n
      have e2 := mch.py_succ r c p q s t n
      rw [← mch.en_next] at g
      refine ⟨H, m, ?_⟩
      rw [h1, cond_false]
      simp -implicitDefEqProofs (disch := omega) only [va, vb, s1, s2, h1, e1, e2, take_one, set_one, decide_eq_true, decide_eq_false, IntWalk.i64_in, beqT, beqF, bneT, bneF, nat_succ, ← Int.natCast_mul, ← Int.natCast_add, Int.toNat_natCast, Int.zero_mul, Int.zero_add, Int.add_zero, Nat.zero_add, Nat.add_zero, Nat.zero_mul, List.length_singleton, List.length_append, List.length_nil, List.length_cons, List.take_length, List.drop_zero, List.replicate_zero, List.take_nil, List.nil_append, Nat.reduceBEq, Nat.reduceMul, Nat.reduceLeDiff, eq_self, and_self, true_and, and_true, decide_true, decide_false, Bool.and_self, Bool.or_self, Bool.and_true, Bool.true_and, Bool.and_false, Bool.false_and, Bool.or_true, Bool.true_or, Bool.or_false, Bool.false_or, Bool.not_true, Bool.not_false, cond_true, cond_false]
      exact g
    · refine ⟨[⟨.cells [.int .i64 ((r : Nat) : Int), .int .i64 ((c : Nat) : Int), .ro (.ints .i64 xs) xs.length 1, .ro (.ints .i64 ys) ys.length 1, .ro (.ints .i64 p) p.length 1, .ro (.ints .i64 q) q.length 1, .ro (.ints .i64 s) s.length 1, .ro (.ints .i64 t) t.length 1, .int .i64 (((mch.px.sv r c p q s t n) : Nat) : Int), .int .i64 (((mch.py.sv r c p q s t n) : Nat) : Int)], 0⟩, ⟨.cells [.int .i64 (((mch.px.sv r c p q s t n) : Nat) : Int), .int .i64 (((mch.py.sv r c p q s t n) : Nat) : Int)], 0⟩], 1, ?_⟩
      rw [h1, cond_true]
      simp -implicitDefEqProofs (disch := omega) only [s1, s2, h1, take_one, set_one, decide_eq_true, decide_eq_false, IntWalk.i64_in, beqT, beqF, bneT, bneF, nat_succ, ← Int.natCast_mul, ← Int.natCast_add, Int.toNat_natCast, Int.zero_mul, Int.zero_add, Int.add_zero, Nat.zero_add, Nat.add_zero, Nat.zero_mul, List.length_singleton, List.length_append, List.length_nil, List.length_cons, List.take_length, List.drop_zero, List.replicate_zero, List.take_nil, List.nil_append, Nat.reduceBEq, Nat.reduceMul, Nat.reduceLeDiff, eq_self, and_self, true_and, and_true, decide_true, decide_false, Bool.and_self, Bool.or_self, Bool.and_true, Bool.true_and, Bool.and_false, Bool.false_and, Bool.or_true, Bool.true_or, Bool.or_false, Bool.false_or, Bool.not_true, Bool.not_false, cond_true, cond_false]
theorem run : ∀ args v new, R args = some (true, v, new) → new = [] ∧ v.flat = true ∧ lendU [] args = args ∧ ∃ fuel H' m', runFnX Try.prog (orcWU [⟨39, iPlay.R⟩] [⟨38, iPaired.R⟩]) C hd Dr.std fuel (bodyOf Try.f11) 48 [6, 7, 8] args [] 0 = some (v, H', m') := by
  intro args v new h
  unfold R at h
  split at h
  · rename_i r c xs mx ys my p mp q mq s ms t mt
    simp only [Option.some.injEq, Prod.mk.injEq, decide_eq_true_eq, Bool.and_eq_true] at h
    obtain ⟨⟨⟨rfl, rfl, rfl, rfl, rfl, rfl⟩, vg, va, vb⟩, rfl, rfl⟩ := h
    obtain ⟨r, c, rfl, rfl, tg⟩ := mch.tg vg va vb
    have h36 : r * c ≤ 36 := gm.le_36 tg.r6 tg.c6
    have hp8 := tg.m.a.p8
    have hs8 := tg.m.b.p8
    have hxl := tg.xl
    have hyl := tg.yl
    have hps : p.length * s.length ≤ 8 * 8 := Nat.mul_le_mul hp8 hs8
    have hql := tg.m.a.ql
    have htl := tg.m.b.ql
    have hq8 : p.length * c ≤ 8 * 6 := Nat.mul_le_mul hp8 tg.c6
    have ht8 : s.length * r ≤ 8 * 6 := Nat.mul_le_mul hs8 tg.r6
    obtain ⟨F, hF⟩ : ∃ F : Nat, F = 2000 := ⟨2000, rfl⟩
    obtain ⟨H, m, g⟩ := loop r c xs ys p q s t F tg va vb (p.length * s.length + 1) 0 F (by omega) (by omega) (fun i j _ hj => by omega)
    obtain ⟨f1, f2, f3, f4, f5⟩ := mch.fe_spec tg.m
    change L F F _ = some (.tup [.int .i64 (mget.sv (mch.en.sv r c p q s t (mch.fe.sv r c p q s t)) ((mch.px.sv r c p q s t (mch.fe.sv r c p q s t) : Nat) : Int) ((mch.py.sv r c p q s t (mch.fe.sv r c p q s t) : Nat) : Int)), .int .i64 (IntKind.i64.wrap (((mch.fe.sv r c p q s t : Nat) : Int) - mget.sv (mch.en.sv r c p q s t (mch.fe.sv r c p q s t)) ((mch.px.sv r c p q s t (mch.fe.sv r c p q s t) : Nat) : Int) ((mch.py.sv r c p q s t (mch.fe.sv r c p q s t) : Nat) : Int))), .bool true], H, m) at g
    have w : IntKind.i64.wrap (((mch.fe.sv r c p q s t : Nat) : Int) - ((mch.fb.sv r c p q s t : Nat) : Int)) = ((mch.fe.sv r c p q s t - mch.fb.sv r c p q s t : Nat) : Int) := by rw [IntWalk.i64_in _ (by omega)]; omega
    rw [f5, w] at g
    refine ⟨rfl, rfl, lendU_free _ _ rfl, F, H, m, ?_⟩
    rw [start]
    simp only [Int.toNat_natCast]
    simp -implicitDefEqProofs (disch := omega) only [vg, va, vb, take_one, set_one, decide_eq_true, decide_eq_false, IntWalk.i64_in, beqT, beqF, bneT, bneF, nat_succ, ← Int.natCast_mul, ← Int.natCast_add, Int.toNat_natCast, Int.zero_mul, Int.zero_add, Int.add_zero, Nat.zero_add, Nat.add_zero, Nat.zero_mul, List.length_singleton, List.length_append, List.length_nil, List.length_cons, List.take_length, List.drop_zero, List.replicate_zero, List.take_nil, List.nil_append, Nat.reduceBEq, Nat.reduceMul, Nat.reduceLeDiff, eq_self, and_self, true_and, and_true, decide_true, decide_false, Bool.and_self, Bool.or_self, Bool.and_true, Bool.true_and, Bool.and_false, Bool.false_and, Bool.or_true, Bool.true_or, Bool.or_false, Bool.false_or, Bool.not_true, Bool.not_false, cond_true, cond_false]
    exact g
  · cases h
theorem ok : EntOk Try.prog ⟨11, R⟩ :=
  ent_okX mixed (A := (orcWU [⟨39, iPlay.R⟩] [⟨38, iPaired.R⟩])) (orcWU_ok (by simp only [List.mem_cons, List.not_mem_nil, or_false, forall_eq_or_imp, forall_eq]; exact iPlay.ok) (by simp only [List.mem_cons, List.not_mem_nil, or_false, forall_eq_or_imp, forall_eq]; exact iPaired.ok)) Cok Try.func11 (by kernel_rfl) (by kernel_rfl) (n := 48) (ts := [6, 7, 8]) (hd := hd) (dr := Dr.std) (by kernel_rfl) (by kernel_rfl) (by kernel_rfl) run
end iRoundOf

namespace iMeanGains
def R : List AVal → Option (Bool × AVal × List Blk)
  | [.agg [.int .i64 r, .int .i64 c, .ro (.ints .i64 xs) mx 1, .ro (.ints .i64 ys) my 1], .agg [.ro (.ints .i64 p) mp 1, .ro (.ints .i64 q) mq 1], .agg [.ro (.ints .i64 s) ms 1, .ro (.ints .i64 t) mt 1]] => some (decide (mx = xs.length ∧ my = ys.length ∧ mp = p.length ∧ mq = q.length ∧ ms = s.length ∧ mt = t.length) && (gm.sp r c xs ys && (mch.mv.sp r c p q && mch.mv.sp c r s t)), .tup [.int .i64 (mch.sm.sv r.toNat c.toNat p q s t xs (mch.fb.sv r.toNat c.toNat p q s t) (mch.fe.sv r.toNat c.toNat p q s t - mch.fb.sv r.toNat c.toNat p q s t)), .int .i64 (mch.sm.sv r.toNat c.toNat p q s t ys (mch.fb.sv r.toNat c.toNat p q s t) (mch.fe.sv r.toNat c.toNat p q s t - mch.fb.sv r.toNat c.toNat p q s t)), .int .i64 (((mch.fe.sv r.toNat c.toNat p q s t - mch.fb.sv r.toNat c.toNat p q s t) : Nat) : Int), .bool true], [])
  | _ => none
def hd : Nat → Head := fun i => bif eqN i 0 then ⟨[998, 3, 11, 13, 35, 36], none⟩ else ⟨[998, 3, 11, 13, 15, 16, 40, 41], none⟩
noncomputable def L0 (f n : Nat) (s : State) := loopAt Try.prog (orcW [⟨39, iPlay.R⟩] [⟨11, iRoundOf.R⟩, ⟨38, iPaired.R⟩]) hd Dr.std 0 f (bodyOf Try.f13) 0 [true, true, true, true, false, true] (retK Try.prog [6, 7, 8, 9] 0 none) n s
noncomputable def L2 (f n : Nat) (s : State) := loopAt Try.prog (orcW [⟨39, iPlay.R⟩] [⟨11, iRoundOf.R⟩, ⟨38, iPaired.R⟩]) hd Dr.std 0 f (bodyOf Try.f13) 0 [true, true, true, true, true, true, false, true] (retK Try.prog [6, 7, 8, 9] 0 none) n s
theorem start (r c : Int) (xs ys p q s t : List Int) (f : Nat) :
  runFn Try.prog (orcW [⟨39, iPlay.R⟩] [⟨11, iRoundOf.R⟩, ⟨38, iPaired.R⟩]) hd Dr.std none f (bodyOf Try.f13) 62 [6, 7, 8, 9] [.agg [.int .i64 r, .int .i64 c, .ro (.ints .i64 xs) xs.length 1, .ro (.ints .i64 ys) ys.length 1], .agg [.ro (.ints .i64 p) p.length 1, .ro (.ints .i64 q) q.length 1], .agg [.ro (.ints .i64 s) s.length 1, .ro (.ints .i64 t) t.length 1]] []
  = (bif true && true && (true && true && (true && true && (true && true && true))) then bif true && true && (true && true && true) then bif true && true && (true && true && true) then bif decide (xs.length = xs.length ∧ ys.length = ys.length ∧ p.length = p.length ∧ q.length = q.length ∧ s.length = s.length ∧ t.length = t.length) && (gm.sp r c xs ys && (mch.mv.sp r c p q && mch.mv.sp c r s t)) && (true && (true && (true && (true && true))) && (true && (true && true) && (true && (true && true) && true)) || true && (true && true) && true) then bif true && true && (true && true && (true && true && (true && true && true))) then bif true && true && (true && true && true) then bif true && true && (true && true && true) then bif decide (xs.length = xs.length ∧ ys.length = ys.length ∧ xs.length ≤ (4611686018427387904 : Nat) ∧ ys.length ≤ (4611686018427387904 : Nat) ∧ p.length = p.length ∧ q.length = q.length ∧ p.length ≤ (4611686018427387904 : Nat) ∧ q.length ≤ (4611686018427387904 : Nat) ∧ s.length = s.length ∧ t.length = t.length ∧ s.length ≤ (4611686018427387904 : Nat) ∧ t.length ≤ (4611686018427387904 : Nat)) && (true && (true && (true && (true && true))) && (true && (true && true) && (true && (true && true) && true)) || true && (true && (false && (false && (false && (false && (false && (false && true))))))) && (true && true) && true) then L0 f f (mkS (62 : Nat) [((3 : Nat), AVal.ptr (0 : Nat) (0 : Nat) (0 : Nat)), ((11 : Nat), AVal.int IntKind.i64 (↑(mch.fe.sv r.toNat c.toNat p q s t - mch.fb.sv r.toNat c.toNat p q s t) : Int)), ((13 : Nat), AVal.ptr (1 : Nat) (0 : Nat) (0 : Nat)), ((35 : Nat), AVal.int IntKind.i64 (↑(mch.fb.sv r.toNat c.toNat p q s t) : Int)), ((36 : Nat), AVal.int IntKind.i64 (0 : Int))] [{ c := BC.cells [AVal.int IntKind.i64 r, AVal.int IntKind.i64 c, AVal.ro (Cont.ints IntKind.i64 xs) xs.length (1 : Nat), AVal.ro (Cont.ints IntKind.i64 ys) ys.length (1 : Nat)], ver := (0 : Nat) }, { c := BC.cells [AVal.int IntKind.i64 r, AVal.int IntKind.i64 c, AVal.ro (Cont.ints IntKind.i64 xs) xs.length (1 : Nat), AVal.ro (Cont.ints IntKind.i64 ys) ys.length (1 : Nat), AVal.ro (Cont.ints IntKind.i64 p) p.length (1 : Nat), AVal.ro (Cont.ints IntKind.i64 q) q.length (1 : Nat), AVal.ro (Cont.ints IntKind.i64 s) s.length (1 : Nat), AVal.ro (Cont.ints IntKind.i64 t) t.length (1 : Nat), AVal.int IntKind.i64 (0 : Int), AVal.int IntKind.i64 (0 : Int)], ver := (0 : Nat) }]) else none else none else none else none else none else none else none else none) := by kernel_rfl
theorem round0 (r c : Int) (xs ys p q s t : List Int) (x y l N i : Int) (f n : Nat) :
  L0 f (n + 1) (mkS 62 [(3, .ptr 0 0 0), (11, .int .i64 l), (13, .ptr 1 0 0), (35, .int .i64 N), (36, .int .i64 i)] [⟨.cells [.int .i64 r, .int .i64 c, .ro (.ints .i64 xs) xs.length 1, .ro (.ints .i64 ys) ys.length 1], 0⟩, ⟨.cells [.int .i64 r, .int .i64 c, .ro (.ints .i64 xs) xs.length 1, .ro (.ints .i64 ys) ys.length 1, .ro (.ints .i64 p) p.length 1, .ro (.ints .i64 q) q.length 1, .ro (.ints .i64 s) s.length 1, .ro (.ints .i64 t) t.length 1, .int .i64 x, .int .i64 y], 0⟩])
  = (bif decide (i < N) then bif decide (xs.length = xs.length ∧ ys.length = ys.length ∧ p.length = p.length ∧ q.length = q.length ∧ s.length = s.length ∧ t.length = t.length ∧ (0 : Int) ≤ r ∧ (0 : Int) ≤ c ∧ (0 : Int) ≤ x ∧ x < (↑p.length : Int) ∧ (0 : Int) ≤ y ∧ y < (↑s.length : Int)) && (mch.mv.sp r c p q && mch.mv.sp c r s t) && (true && (true && true)) then L0 f n (mkS (62 : Nat) [((3 : Nat), AVal.ptr (0 : Nat) (0 : Nat) (0 : Nat)), ((11 : Nat), AVal.int IntKind.i64 l), ((13 : Nat), AVal.ptr (1 : Nat) (0 : Nat) (0 : Nat)), ((35 : Nat), AVal.int IntKind.i64 N), ((36 : Nat), AVal.int IntKind.i64 (IntKind.i64.wrap (i + (1 : Int))))] [{ c := BC.cells [AVal.int IntKind.i64 r, AVal.int IntKind.i64 c, AVal.ro (Cont.ints IntKind.i64 xs) xs.length (1 : Nat), AVal.ro (Cont.ints IntKind.i64 ys) ys.length (1 : Nat)], ver := (0 : Nat) }, { c := BC.cells [AVal.int IntKind.i64 r, AVal.int IntKind.i64 c, AVal.ro (Cont.ints IntKind.i64 xs) xs.length (1 : Nat), AVal.ro (Cont.ints IntKind.i64 ys) ys.length (1 : Nat), AVal.ro (Cont.ints IntKind.i64 p) p.length (1 : Nat), AVal.ro (Cont.ints IntKind.i64 q) q.length (1 : Nat), AVal.ro (Cont.ints IntKind.i64 s) s.length (1 : Nat), AVal.ro (Cont.ints IntKind.i64 t) t.length (1 : Nat), AVal.int IntKind.i64 (↑(mch.nx.sv c.toNat q s x.toNat y.toNat) : Int), AVal.int IntKind.i64 (↑(mch.ny.sv r.toNat p t x.toNat y.toNat) : Int)], ver := (0 : Nat) }]) else none else L2 f f (mkS (62 : Nat) [((3 : Nat), AVal.ptr (0 : Nat) (0 : Nat) (0 : Nat)), ((11 : Nat), AVal.int IntKind.i64 l), ((13 : Nat), AVal.ptr (1 : Nat) (0 : Nat) (0 : Nat)), ((15 : Nat), AVal.int IntKind.i64 (0 : Int)), ((16 : Nat), AVal.int IntKind.i64 (0 : Int)), ((40 : Nat), AVal.int IntKind.i64 l), ((41 : Nat), AVal.int IntKind.i64 (0 : Int))] [{ c := BC.cells [AVal.int IntKind.i64 r, AVal.int IntKind.i64 c, AVal.ro (Cont.ints IntKind.i64 xs) xs.length (1 : Nat), AVal.ro (Cont.ints IntKind.i64 ys) ys.length (1 : Nat)], ver := (0 : Nat) }, { c := BC.cells [AVal.int IntKind.i64 r, AVal.int IntKind.i64 c, AVal.ro (Cont.ints IntKind.i64 xs) xs.length (1 : Nat), AVal.ro (Cont.ints IntKind.i64 ys) ys.length (1 : Nat), AVal.ro (Cont.ints IntKind.i64 p) p.length (1 : Nat), AVal.ro (Cont.ints IntKind.i64 q) q.length (1 : Nat), AVal.ro (Cont.ints IntKind.i64 s) s.length (1 : Nat), AVal.ro (Cont.ints IntKind.i64 t) t.length (1 : Nat), AVal.int IntKind.i64 x, AVal.int IntKind.i64 y], ver := (0 : Nat) }])) := by kernel_rfl
theorem round2 (r c : Int) (xs ys p q s t : List Int) (x y l a b N i : Int) (f n : Nat) :
  L2 f (n + 1) (mkS 62 [(3, .ptr 0 0 0), (11, .int .i64 l), (13, .ptr 1 0 0), (15, .int .i64 a), (16, .int .i64 b), (40, .int .i64 N), (41, .int .i64 i)] [⟨.cells [.int .i64 r, .int .i64 c, .ro (.ints .i64 xs) xs.length 1, .ro (.ints .i64 ys) ys.length 1], 0⟩, ⟨.cells [.int .i64 r, .int .i64 c, .ro (.ints .i64 xs) xs.length 1, .ro (.ints .i64 ys) ys.length 1, .ro (.ints .i64 p) p.length 1, .ro (.ints .i64 q) q.length 1, .ro (.ints .i64 s) s.length 1, .ro (.ints .i64 t) t.length 1, .int .i64 x, .int .i64 y], 0⟩])
  = (bif decide (i < N) then bif decide (xs.length = xs.length ∧ ys.length = ys.length ∧ p.length = p.length ∧ q.length = q.length ∧ s.length = s.length ∧ t.length = t.length ∧ (0 : Int) ≤ r ∧ (0 : Int) ≤ c ∧ (0 : Int) ≤ x ∧ x < (↑p.length : Int) ∧ (0 : Int) ≤ y ∧ y < (↑s.length : Int)) && (mch.mv.sp r c p q && mch.mv.sp c r s t) && (true && (true && true)) then bif true && true then bif true && (decide ((0 : Int) ≤ (↑(mch.cel.sv c.toNat p s x.toNat y.toNat) : Int)) && decide ((↑(mch.cel.sv c.toNat p s x.toNat y.toNat) : Int) < (↑xs.length : Int))) then bif decide ((↑(mch.cel.sv c.toNat p s x.toNat y.toNat) : Int).toNat < xs.length) then bif true && true then bif true && (decide ((0 : Int) ≤ (↑(mch.cel.sv c.toNat p s x.toNat y.toNat) : Int)) && decide ((↑(mch.cel.sv c.toNat p s x.toNat y.toNat) : Int) < (↑ys.length : Int))) then bif decide ((↑(mch.cel.sv c.toNat p s x.toNat y.toNat) : Int).toNat < ys.length) then L2 f n (mkS (62 : Nat) [((3 : Nat), AVal.ptr (0 : Nat) (0 : Nat) (0 : Nat)), ((11 : Nat), AVal.int IntKind.i64 l), ((13 : Nat), AVal.ptr (1 : Nat) (0 : Nat) (0 : Nat)), ((15 : Nat), AVal.int IntKind.i64 (IntKind.i64.wrap (a + gz xs (↑(mch.cel.sv c.toNat p s x.toNat y.toNat) : Int).toNat))), ((16 : Nat), AVal.int IntKind.i64 (IntKind.i64.wrap (b + gz ys (↑(mch.cel.sv c.toNat p s x.toNat y.toNat) : Int).toNat))), ((40 : Nat), AVal.int IntKind.i64 N), ((41 : Nat), AVal.int IntKind.i64 (IntKind.i64.wrap (i + (1 : Int))))] [{ c := BC.cells [AVal.int IntKind.i64 r, AVal.int IntKind.i64 c, AVal.ro (Cont.ints IntKind.i64 xs) xs.length (1 : Nat), AVal.ro (Cont.ints IntKind.i64 ys) ys.length (1 : Nat)], ver := (0 : Nat) }, { c := BC.cells [AVal.int IntKind.i64 r, AVal.int IntKind.i64 c, AVal.ro (Cont.ints IntKind.i64 xs) xs.length (1 : Nat), AVal.ro (Cont.ints IntKind.i64 ys) ys.length (1 : Nat), AVal.ro (Cont.ints IntKind.i64 p) p.length (1 : Nat), AVal.ro (Cont.ints IntKind.i64 q) q.length (1 : Nat), AVal.ro (Cont.ints IntKind.i64 s) s.length (1 : Nat), AVal.ro (Cont.ints IntKind.i64 t) t.length (1 : Nat), AVal.int IntKind.i64 (↑(mch.nx.sv c.toNat q s x.toNat y.toNat) : Int), AVal.int IntKind.i64 (↑(mch.ny.sv r.toNat p t x.toNat y.toNat) : Int)], ver := (0 : Nat) }]) else none else none else none else none else none else none else none else some (AVal.tup [AVal.int IntKind.i64 a, AVal.int IntKind.i64 b, AVal.int IntKind.i64 l, AVal.bool true], [{ c := BC.cells [AVal.int IntKind.i64 r, AVal.int IntKind.i64 c, AVal.ro (Cont.ints IntKind.i64 xs) xs.length (1 : Nat), AVal.ro (Cont.ints IntKind.i64 ys) ys.length (1 : Nat)], ver := (0 : Nat) }, { c := BC.cells [AVal.int IntKind.i64 r, AVal.int IntKind.i64 c, AVal.ro (Cont.ints IntKind.i64 xs) xs.length (1 : Nat), AVal.ro (Cont.ints IntKind.i64 ys) ys.length (1 : Nat), AVal.ro (Cont.ints IntKind.i64 p) p.length (1 : Nat), AVal.ro (Cont.ints IntKind.i64 q) q.length (1 : Nat), AVal.ro (Cont.ints IntKind.i64 s) s.length (1 : Nat), AVal.ro (Cont.ints IntKind.i64 t) t.length (1 : Nat), AVal.int IntKind.i64 x, AVal.int IntKind.i64 y], ver := (0 : Nat) }])) := by kernel_rfl
theorem loop2 (r c : Nat) (xs ys p q s t : List Int) (b N f : Nat) (tg : mch.TG r c xs ys p q s t) (va : mch.mv.sp r c p q = true) (vb : mch.mv.sp c r s t = true) (hN : N ≤ 1000) : ∀ (d i n : Nat), i + d = N → d < n →
    L2 f n (mkS 62 [(3, .ptr 0 0 0), (11, .int .i64 ((N : Nat) : Int)), (13, .ptr 1 0 0), (15, .int .i64 (mch.sm.sv r c p q s t xs b i)), (16, .int .i64 (mch.sm.sv r c p q s t ys b i)), (40, .int .i64 ((N : Nat) : Int)), (41, .int .i64 ((i : Nat) : Int))] [⟨.cells [.int .i64 ((r : Nat) : Int), .int .i64 ((c : Nat) : Int), .ro (.ints .i64 xs) xs.length 1, .ro (.ints .i64 ys) ys.length 1], 0⟩, ⟨.cells [.int .i64 ((r : Nat) : Int), .int .i64 ((c : Nat) : Int), .ro (.ints .i64 xs) xs.length 1, .ro (.ints .i64 ys) ys.length 1, .ro (.ints .i64 p) p.length 1, .ro (.ints .i64 q) q.length 1, .ro (.ints .i64 s) s.length 1, .ro (.ints .i64 t) t.length 1, .int .i64 (((mch.px.sv r c p q s t (b + i)) : Nat) : Int), .int .i64 (((mch.py.sv r c p q s t (b + i)) : Nat) : Int)], 0⟩]) = some (.tup [.int .i64 (mch.sm.sv r c p q s t xs b N), .int .i64 (mch.sm.sv r c p q s t ys b N), .int .i64 ((N : Nat) : Int), .bool true], [⟨.cells [.int .i64 ((r : Nat) : Int), .int .i64 ((c : Nat) : Int), .ro (.ints .i64 xs) xs.length 1, .ro (.ints .i64 ys) ys.length 1], 0⟩, ⟨.cells [.int .i64 ((r : Nat) : Int), .int .i64 ((c : Nat) : Int), .ro (.ints .i64 xs) xs.length 1, .ro (.ints .i64 ys) ys.length 1, .ro (.ints .i64 p) p.length 1, .ro (.ints .i64 q) q.length 1, .ro (.ints .i64 s) s.length 1, .ro (.ints .i64 t) t.length 1, .int .i64 (((mch.px.sv r c p q s t (b + N)) : Nat) : Int), .int .i64 (((mch.py.sv r c p q s t (b + N)) : Nat) : Int)], 0⟩]) := by
  have hxl := tg.xl
  have hyl := tg.yl
  intro d
  induction d with
  | zero =>
    intro i n hk hn
    obtain ⟨n, rfl⟩ : ∃ k, n = k + 1 := ⟨n - 1, by omega⟩
    obtain rfl : i = N := by omega
    rw [round2]
    simp -implicitDefEqProofs (disch := omega) only [take_one, set_one, decide_eq_true, decide_eq_false, IntWalk.i64_in, beqT, beqF, bneT, bneF, nat_succ, ← Int.natCast_mul, ← Int.natCast_add, Int.toNat_natCast, Int.zero_mul, Int.zero_add, Int.add_zero, Nat.zero_add, Nat.add_zero, Nat.zero_mul, List.length_singleton, List.length_append, List.length_nil, List.length_cons, List.take_length, List.drop_zero, List.replicate_zero, List.take_nil, List.nil_append, Nat.reduceBEq, Nat.reduceMul, Nat.reduceLeDiff, eq_self, and_self, true_and, and_true, decide_true, decide_false, Bool.and_self, Bool.or_self, Bool.and_true, Bool.true_and, Bool.and_false, Bool.false_and, Bool.or_true, Bool.true_or, Bool.or_false, Bool.false_or, Bool.not_true, Bool.not_false, cond_true, cond_false]
  | succ d ih =>
    intro i n hk hn
    obtain ⟨n, rfl⟩ : ∃ k, n = k + 1 := ⟨n - 1, by omega⟩
    have g := ih (i + 1) n (by omega) (by omega)
    have c1 := (tg.m.pos (b + i)).1
    have c2 := (tg.m.pos (b + i)).2
    have e1 := mch.px_succ r c p q s t (b + i)
    have e2 := mch.py_succ r c p q s t (b + i)
    have e3 := mch.ce_eq r c p q s t (b + i)
    have lc := tg.m.cell (b + i)
    have b1 := mch.sm_in tg.m tg.xl tg.xi b i
    have b2 := mch.sm_in tg.m tg.yl tg.yi b i
    have b3 := tg.xi _ (gz_mem (l := xs) (j := mch.ce.sv r c p q s t (b + i)) (by omega))
    have b4 := tg.yi _ (gz_mem (l := ys) (j := mch.ce.sv r c p q s t (b + i)) (by omega))
    rw [mch.sm.sv, mch.sm.sv, ← Nat.add_assoc] at g
    rw [round2]
    simp -implicitDefEqProofs (disch := omega) only [va, vb, e1, e2, e3, take_one, set_one, decide_eq_true, decide_eq_false, IntWalk.i64_in, beqT, beqF, bneT, bneF, nat_succ, ← Int.natCast_mul, ← Int.natCast_add, Int.toNat_natCast, Int.zero_mul, Int.zero_add, Int.add_zero, Nat.zero_add, Nat.add_zero, Nat.zero_mul, List.length_singleton, List.length_append, List.length_nil, List.length_cons, List.take_length, List.drop_zero, List.replicate_zero, List.take_nil, List.nil_append, Nat.reduceBEq, Nat.reduceMul, Nat.reduceLeDiff, eq_self, and_self, true_and, and_true, decide_true, decide_false, Bool.and_self, Bool.or_self, Bool.and_true, Bool.true_and, Bool.and_false, Bool.false_and, Bool.or_true, Bool.true_or, Bool.or_false, Bool.false_or, Bool.not_true, Bool.not_false, cond_true, cond_false]
    exact g
theorem loop0 (r c : Nat) (xs ys p q s t : List Int) (N l f : Nat) (tg : mch.TG r c xs ys p q s t) (va : mch.mv.sp r c p q = true) (vb : mch.mv.sp c r s t = true) (hN : N ≤ 1000) : ∀ (d i n : Nat), i + d = N → d < n →
    L0 f n (mkS 62 [(3, .ptr 0 0 0), (11, .int .i64 ((l : Nat) : Int)), (13, .ptr 1 0 0), (35, .int .i64 ((N : Nat) : Int)), (36, .int .i64 ((i : Nat) : Int))] [⟨.cells [.int .i64 ((r : Nat) : Int), .int .i64 ((c : Nat) : Int), .ro (.ints .i64 xs) xs.length 1, .ro (.ints .i64 ys) ys.length 1], 0⟩, ⟨.cells [.int .i64 ((r : Nat) : Int), .int .i64 ((c : Nat) : Int), .ro (.ints .i64 xs) xs.length 1, .ro (.ints .i64 ys) ys.length 1, .ro (.ints .i64 p) p.length 1, .ro (.ints .i64 q) q.length 1, .ro (.ints .i64 s) s.length 1, .ro (.ints .i64 t) t.length 1, .int .i64 (((mch.px.sv r c p q s t i) : Nat) : Int), .int .i64 (((mch.py.sv r c p q s t i) : Nat) : Int)], 0⟩]) = L2 f f (mkS 62 [(3, .ptr 0 0 0), (11, .int .i64 ((l : Nat) : Int)), (13, .ptr 1 0 0), (15, .int .i64 0), (16, .int .i64 0), (40, .int .i64 ((l : Nat) : Int)), (41, .int .i64 0)] [⟨.cells [.int .i64 ((r : Nat) : Int), .int .i64 ((c : Nat) : Int), .ro (.ints .i64 xs) xs.length 1, .ro (.ints .i64 ys) ys.length 1], 0⟩, ⟨.cells [.int .i64 ((r : Nat) : Int), .int .i64 ((c : Nat) : Int), .ro (.ints .i64 xs) xs.length 1, .ro (.ints .i64 ys) ys.length 1, .ro (.ints .i64 p) p.length 1, .ro (.ints .i64 q) q.length 1, .ro (.ints .i64 s) s.length 1, .ro (.ints .i64 t) t.length 1, .int .i64 (((mch.px.sv r c p q s t N) : Nat) : Int), .int .i64 (((mch.py.sv r c p q s t N) : Nat) : Int)], 0⟩]) := by
  intro d
  induction d with
  | zero =>
    intro i n hk hn
    obtain ⟨n, rfl⟩ : ∃ k, n = k + 1 := ⟨n - 1, by omega⟩
    obtain rfl : i = N := by omega
    rw [round0]
    simp -implicitDefEqProofs (disch := omega) only [take_one, set_one, decide_eq_true, decide_eq_false, IntWalk.i64_in, beqT, beqF, bneT, bneF, nat_succ, ← Int.natCast_mul, ← Int.natCast_add, Int.toNat_natCast, Int.zero_mul, Int.zero_add, Int.add_zero, Nat.zero_add, Nat.add_zero, Nat.zero_mul, List.length_singleton, List.length_append, List.length_nil, List.length_cons, List.take_length, List.drop_zero, List.replicate_zero, List.take_nil, List.nil_append, Nat.reduceBEq, Nat.reduceMul, Nat.reduceLeDiff, eq_self, and_self, true_and, and_true, decide_true, decide_false, Bool.and_self, Bool.or_self, Bool.and_true, Bool.true_and, Bool.and_false, Bool.false_and, Bool.or_true, Bool.true_or, Bool.or_false, Bool.false_or, Bool.not_true, Bool.not_false, cond_true, cond_false]
  | succ d ih =>
    intro i n hk hn
    obtain ⟨n, rfl⟩ : ∃ k, n = k + 1 := ⟨n - 1, by omega⟩
    have g := ih (i + 1) n (by omega) (by omega)
    have c1 := (tg.m.pos i).1
    have c2 := (tg.m.pos i).2
    have e1 := mch.px_succ r c p q s t i
    have e2 := mch.py_succ r c p q s t i
    rw [round0]
    simp -implicitDefEqProofs (disch := omega) only [va, vb, e1, e2, take_one, set_one, decide_eq_true, decide_eq_false, IntWalk.i64_in, beqT, beqF, bneT, bneF, nat_succ, ← Int.natCast_mul, ← Int.natCast_add, Int.toNat_natCast, Int.zero_mul, Int.zero_add, Int.add_zero, Nat.zero_add, Nat.add_zero, Nat.zero_mul, List.length_singleton, List.length_append, List.length_nil, List.length_cons, List.take_length, List.drop_zero, List.replicate_zero, List.take_nil, List.nil_append, Nat.reduceBEq, Nat.reduceMul, Nat.reduceLeDiff, eq_self, and_self, true_and, and_true, decide_true, decide_false, Bool.and_self, Bool.or_self, Bool.and_true, Bool.true_and, Bool.and_false, Bool.false_and, Bool.or_true, Bool.true_or, Bool.or_false, Bool.false_or, Bool.not_true, Bool.not_false, cond_true, cond_false]
    exact g
theorem run : ∀ args v new, R args = some (true, v, new) → ∃ fuel, regc [] (runFn Try.prog (orcW [⟨39, iPlay.R⟩] [⟨11, iRoundOf.R⟩, ⟨38, iPaired.R⟩]) hd Dr.std none fuel (bodyOf Try.f13) 62 [6, 7, 8, 9] args []) = some (v, new) := by
  intro args v new h
  unfold R at h
  split at h
  · rename_i r c xs mx ys my p mp q mq s ms t mt
    simp only [Option.some.injEq, Prod.mk.injEq, decide_eq_true_eq, Bool.and_eq_true] at h
    obtain ⟨⟨⟨rfl, rfl, rfl, rfl, rfl, rfl⟩, vg, va, vb⟩, rfl, rfl⟩ := h
    obtain ⟨r, c, rfl, rfl, tg⟩ := mch.tg vg va vb
    have h36 : r * c ≤ 36 := gm.le_36 tg.r6 tg.c6
    have hp8 := tg.m.a.p8
    have hs8 := tg.m.b.p8
    have hxl := tg.xl
    have hyl := tg.yl
    have hps : p.length * s.length ≤ 8 * 8 := Nat.mul_le_mul hp8 hs8
    have hql := tg.m.a.ql
    have htl := tg.m.b.ql
    have hq8 : p.length * c ≤ 8 * 6 := Nat.mul_le_mul hp8 tg.c6
    have ht8 : s.length * r ≤ 8 * 6 := Nat.mul_le_mul hs8 tg.r6
    obtain ⟨F, hF⟩ : ∃ F : Nat, F = 2000 := ⟨2000, rfl⟩
    obtain ⟨f1, f2, f3, f4, f5⟩ := mch.fe_spec tg.m
    refine ⟨F, ?_⟩
    have g0 := loop0 r c xs ys p q s t (mch.fb.sv r c p q s t) (mch.fe.sv r c p q s t - mch.fb.sv r c p q s t) F tg va vb (by omega) (mch.fb.sv r c p q s t) 0 F (by omega) (by omega)
    have g2 := loop2 r c xs ys p q s t (mch.fb.sv r c p q s t) (mch.fe.sv r c p q s t - mch.fb.sv r c p q s t) F tg va vb (by omega) (mch.fe.sv r c p q s t - mch.fb.sv r c p q s t) 0 F (by omega) (by omega)
    rw [mch.sm.sv, mch.sm.sv, Nat.add_zero] at g2
    rw [start]
    simp only [Int.toNat_natCast]
    simp -implicitDefEqProofs (disch := omega) only [vg, va, vb, take_one, set_one, decide_eq_true, decide_eq_false, IntWalk.i64_in, beqT, beqF, bneT, bneF, nat_succ, ← Int.natCast_mul, ← Int.natCast_add, Int.toNat_natCast, Int.zero_mul, Int.zero_add, Int.add_zero, Nat.zero_add, Nat.add_zero, Nat.zero_mul, List.length_singleton, List.length_append, List.length_nil, List.length_cons, List.take_length, List.drop_zero, List.replicate_zero, List.take_nil, List.nil_append, Nat.reduceBEq, Nat.reduceMul, Nat.reduceLeDiff, eq_self, and_self, true_and, and_true, decide_true, decide_false, Bool.and_self, Bool.or_self, Bool.and_true, Bool.true_and, Bool.and_false, Bool.false_and, Bool.or_true, Bool.true_or, Bool.or_false, Bool.false_or, Bool.not_true, Bool.not_false, cond_true, cond_false]
    exact (congrArg (regc []) (g0.trans g2)).trans rfl
  · cases h
theorem ok : EntOk Try.prog ⟨13, R⟩ :=
  ent_okAG (ks := []) mixed (A := (orcW [⟨39, iPlay.R⟩] [⟨11, iRoundOf.R⟩, ⟨38, iPaired.R⟩])) (orcW_ok (by simp only [List.mem_cons, List.not_mem_nil, or_false, forall_eq_or_imp, forall_eq]; exact iPlay.ok) (by simp only [List.mem_cons, List.not_mem_nil, or_false, forall_eq_or_imp, forall_eq]; exact ⟨iRoundOf.ok, iPaired.ok⟩)) Try.func13 (by kernel_rfl) (by kernel_rfl) (n := 62) (ts := [6, 7, 8, 9]) (hd := hd) (dr := Dr.std) (cut := none) (by kernel_rfl) (by kernel_rfl) (by kernel_rfl) run
end iMeanGains

end Go.Proofs.Ytgblgofmdhekiaa.Ab
