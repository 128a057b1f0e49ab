/-
  The abstract machine, where a map is held: maps from pairs of integers to integers. Making one, looking into it, and a new entry.
-/
import Derived.Test.YthecninmmojkgaaAbBun
import Derived.WideKeyPair
import Derived.MapKept
namespace Go.Proofs.Ythecninmmojkgaa.Ab
open Go
set_option linter.unusedVariables false
set_option linter.unusedSimpArgs false

/-! ### The model's maps -/

def mhas.sp (ts : List (List Int)) (a b : Int) : Bool := ts.any fun t => gz t 0 == a && gz t 1 == b
def mget.sv : List (List Int) → Int → Int → Int
  | [], _, _ => 0
  | t :: r, a, b => bif gz t 0 == a && gz t 1 == b then gz t 2 else mget.sv r a b
def msm.sp (a : Int) : Bool := decide (-1000000 ≤ a ∧ a ≤ 1000000)

def mapT (P : Program) (t : TypeId) : Bool := match P.underlying t with
  | some (.map k e) => match P.underlying k with
    | some (.array n el) => match P.underlying el, P.info? e with
      | some (.int .i64), some i => (match i.zero with | some (.int .i64 0) => true | _ => false) && (eqN n 2 && (P.plainKey el && (eqN (P.cellsOf el) 1 && (eqN (P.cellsOf k) 2 && decide (0 < P.types.size)))))
      | _, _ => false
    | _ => false
  | _ => false

structure MapLaw (P : Program) (t k e : TypeId) : Prop where
  ty : P.underlying t = some (.map k e)
  law : WideMaps.KeyLaw P k
  zero : ∀ w : World, (zeroValue e).run P w = .ok (.int .i64 0) w
  key : ∀ a b : Int, (-1000000 ≤ a ∧ a ≤ 1000000) → (-1000000 ≤ b ∧ b ≤ 1000000) → ∃ l, keyOf P k (.agg #[.int .i64 a, .int .i64 b]) = some l

theorem lit_wf {a : Int} (h : -1000000 ≤ a ∧ a ≤ 1000000) : (Lit.int .i64 a).wf = true := by
  have h1 : IntKind.i64.min = -9223372036854775808 := by decide
  simp [Lit.wf, h1]
  omega

theorem mapT_law {P : Program} {t : TypeId} (h : mapT P t = true) : ∃ k e, MapLaw P t k e := by
  unfold mapT at h
  split at h
  case h_2 => cases h
  rename_i k e ht
  split at h
  case h_2 => cases h
  rename_i n el hk
  split at h
  case h_2 => cases h
  rename_i i he hi
  simp only [Bool.and_eq_true, eqN_eq, beq_iff_eq, decide_eq_true_eq] at h
  obtain ⟨h0, rfl, h2, h3, h4, h5⟩ := h
  split at h0
  case h_2 => cases h0
  rename_i hz
  have A : WideMaps.ArrKey P k el 2 := ⟨hk, h2, h3, h4⟩
  refine ⟨k, e, ht, A.law, fun w => ?_, fun a b ha hb => ⟨_, WideMaps.keyOf_pair A he ⟨P.types.size - 1, by omega⟩ (lit_wf ha) (lit_wf hb)⟩⟩
  unfold zeroValue
  simp [typeInfo, run_underlying, hi, hz]

theorem mget_none {a b : Int} : ∀ {ts : List (List Int)}, (∀ t ∈ ts, ¬ (gz t 0 = a ∧ gz t 1 = b)) → mhas.sp ts a b = false ∧ mget.sv ts a b = 0
  | [], _ => ⟨rfl, rfl⟩
  | t :: r, h => by
    have h1 := h t List.mem_cons_self
    have h2 : (gz t 0 == a && gz t 1 == b) = false := by
      cases hc : (gz t 0 == a && gz t 1 == b) with
      | false => rfl
      | true => simp only [Bool.and_eq_true, beq_iff_eq] at hc; exact absurd hc h1
    obtain ⟨g1, g2⟩ := mget_none (ts := r) fun s hs => h s (List.mem_cons_of_mem _ hs)
    unfold mhas.sp at g1 ⊢
    rw [List.any_cons, mget.sv, h2, g1, g2]
    exact ⟨rfl, rfl⟩
theorem mget_at {a b : Int} : ∀ {ts : List (List Int)} {j : Nat} {t : List Int}, ts.Pairwise (fun s t => s.take 2 ≠ t.take 2) → (∀ t ∈ ts, t.length = 3) → ts[j]? = some t → gz t 0 = a ∧ gz t 1 = b → mhas.sp ts a b = true ∧ mget.sv ts a b = gz t 2
  | [], _, _, _, _, h, _ => by simp at h
  | s :: r, 0, t, _, _, h, hk => by
    simp only [List.getElem?_cons_zero, Option.some.injEq] at h
    subst h
    have h2 : (gz s 0 == a && gz s 1 == b) = true := by simp [hk.1, hk.2]
    unfold mhas.sp
    rw [List.any_cons, mget.sv, h2]
    exact ⟨rfl, rfl⟩
  | s :: r, j + 1, t, hp, hl, h, hk => by
    simp only [List.getElem?_cons_succ] at h
    rw [List.pairwise_cons] at hp
    have hm := List.mem_of_getElem? h
    have h2 : (gz s 0 == a && gz s 1 == b) = false := by
      cases hc : (gz s 0 == a && gz s 1 == b) with
      | false => rfl
      | true =>
        exfalso
        simp only [Bool.and_eq_true, beq_iff_eq] at hc
        have l1 := hl s List.mem_cons_self
        have l2 := hl t (List.mem_cons_of_mem _ hm)
        match s, t, l1, l2 with
        | [s0, s1, s2], [t0, t1, t2], _, _ =>
          simp only [gz, List.getD_cons_zero, List.getD_cons_succ] at hc hk
          refine hp.1 [t0, t1, t2] hm ?_
          simp [hc.1, hc.2, hk.1, hk.2]
    obtain ⟨g1, g2⟩ := mget_at (ts := r) hp.2 (fun x hx => hl x (List.mem_cons_of_mem _ hx)) h hk
    unfold mhas.sp at g1 ⊢
    rw [List.any_cons, mget.sv, h2, g1, g2]
    exact ⟨rfl, rfl⟩

section
variable {P : Program} {t k e : TypeId} {w : World} {b : Nat} {arr : Array MapEntry} {clk : Nat} {ts : List (List Int)} {x y : Int}
theorem MapR.three (hR : MapR ts arr) : ∀ s ∈ ts, s.length = 3 := fun s hs => by
  obtain ⟨j, hj⟩ := List.getElem?_of_mem hs
  obtain ⟨_, _, _, _, rfl, _⟩ := hR.2.2 j s hj
  rfl
theorem MapR.keys (L : MapLaw P t k e) (hR : MapR ts arr) : ∀ en ∈ arr.toList, ∃ l, keyOf P k en.key = some l := fun en hen => by
  obtain ⟨j, hj⟩ := List.getElem?_of_mem hen
  have hlt : j < ts.length := by rw [← hR.1]; exact (List.getElem?_eq_some_iff.1 hj).1
  obtain ⟨a, b, v, born, _, h1, h2⟩ := hR.2.2 j _ (List.getElem?_eq_getElem hlt)
  rw [hj] at h2
  simp only [Option.some.injEq] at h2
  subst h2
  exact L.key a b ⟨h1.1, h1.2.1⟩ h1.2.2
/-- What a look into a map finds. -/
theorem MapR.find (L : MapLaw P t k e) (hR : MapR ts arr) (hx : -1000000 ≤ x ∧ x ≤ 1000000) (hy : -1000000 ≤ y ∧ y ≤ 1000000) :
    ((Instr.findKey k (.agg #[.int .i64 x, .int .i64 y]) arr.toList).run P w = .ok none w ∧ mhas.sp ts x y = false ∧ mget.sv ts x y = 0) ∨
    ∃ j, (Instr.findKey k (.agg #[.int .i64 x, .int .i64 y]) arr.toList).run P w = .ok (some (j, .int .i64 (mget.sv ts x y))) w ∧ mhas.sp ts x y = true := by
  obtain ⟨l, hl⟩ := L.key x y hx hy
  rcases L.law.find w hl arr.toList (hR.keys L) with ⟨h1, h2⟩ | ⟨j, en, h1, h2, h3⟩
  · refine .inl ⟨h1, mget_none fun s hs hk => ?_⟩
    obtain ⟨j, hj⟩ := List.getElem?_of_mem hs
    obtain ⟨a, b, v, born, rfl, _, g2⟩ := hR.2.2 j s hj
    simp only [gz, List.getD_cons_zero, List.getD_cons_succ] at hk
    refine h2 _ (List.mem_of_getElem? g2) ?_
    rw [hk.1, hk.2]
  · refine .inr ⟨j, ?_⟩
    have hlt : j < ts.length := by rw [← hR.1]; exact (List.getElem?_eq_some_iff.1 h2).1
    obtain ⟨a, b, v, born, e1, _, g2⟩ := hR.2.2 j _ (List.getElem?_eq_getElem hlt)
    rw [h2] at g2
    simp only [Option.some.injEq] at g2
    subst g2
    simp only [Value.agg.injEq, Array.mk.injEq, List.cons.injEq, Value.int.injEq, true_and, and_true] at h3
    obtain ⟨rfl, rfl⟩ := h3
    have hk : gz ts[j] 0 = a ∧ gz ts[j] 1 = b := by rw [e1]; exact ⟨rfl, rfl⟩
    obtain ⟨g3, g4⟩ := mget_at hR.2.1 hR.three (List.getElem?_eq_getElem hlt) hk
    refine ⟨?_, g3⟩
    rw [h1, g4, e1]
    rfl
theorem lookup_ok (L : MapLaw P t k e) (hb : w.heap[b]? = some (Obj.map arr clk)) (hR : MapR ts arr) (hx : -1000000 ≤ x ∧ x ≤ 1000000) (hy : -1000000 ≤ y ∧ y ≤ 1000000) :
    (Instr.lookup t (.map (some b)) (.agg #[.int .i64 x, .int .i64 y]) true).run P w = .ok (.tuple #[.int .i64 (mget.sv ts x y), .bool (mhas.sp ts x y)]) w := by
  obtain ⟨l, hl⟩ := L.key x y hx hy
  rcases MapR.find (w := w) L hR hx hy with ⟨h1, h2, h3⟩ | ⟨j, h1, h2⟩
  · simp [Instr.lookup, run_underlying L.ty, MapKept.run_getObj_map hb, L.law.check w _ hl, h1, h2, h3, L.zero, Result.andThen]
  · simp [Instr.lookup, run_underlying L.ty, MapKept.run_getObj_map hb, L.law.check w _ hl, h1, h2, Result.andThen]
theorem update_ok (L : MapLaw P t k e) (hb : w.heap[b]? = some (Obj.map arr clk)) (hR : MapR ts arr) (hx : -1000000 ≤ x ∧ x ≤ 1000000) (hy : -1000000 ≤ y ∧ y ≤ 1000000) (hn : mhas.sp ts x y = false) (v : Int) :
    (Instr.mapUpdate t (.map (some b)) (.agg #[.int .i64 x, .int .i64 y]) (.int .i64 v)).run P w = .ok () { w with heap := w.heap.setIfInBounds b (Obj.map (arr.push ⟨.agg #[.int .i64 x, .int .i64 y], .int .i64 v, clk⟩) (clk + 1)) } ∧
    MapR (ts ++ [[x, y, v]]) (arr.push ⟨.agg #[.int .i64 x, .int .i64 y], .int .i64 v, clk⟩) := by
  obtain ⟨l, hl⟩ := L.key x y hx hy
  refine ⟨?_, by simpa using hR.1, ?_, fun j s hj => ?_⟩
  · rcases MapR.find (w := w) L hR hx hy with ⟨h1, h2, h3⟩ | ⟨j, h1, h2⟩
    · simp [Instr.mapUpdate, run_underlying L.ty, MapKept.run_getObj_map hb, L.law.check w _ hl, h1, MapKept.run_setObj_map _ hb, Result.andThen]
    · rw [hn] at h2; cases h2
  · rw [List.pairwise_append]
    refine ⟨hR.2.1, List.pairwise_singleton _ _, fun s hs u hu => ?_⟩
    rw [List.mem_singleton] at hu
    subst hu
    intro e1
    obtain ⟨j, hj⟩ := List.getElem?_of_mem hs
    obtain ⟨a, c, v', born, rfl, _, _⟩ := hR.2.2 j s hj
    simp only [List.take_succ_cons, List.take_zero, List.cons.injEq, and_true] at e1
    obtain ⟨rfl, rfl⟩ := e1
    have := (mget_at hR.2.1 hR.three hj ⟨rfl, rfl⟩).1
    simp only [gz, List.getD_cons_zero, List.getD_cons_succ] at this
    rw [hn] at this
    cases this
  · rcases Nat.lt_or_ge j ts.length with c | c
    · rw [List.getElem?_append_left c] at hj
      obtain ⟨a, d, v', born, g1, g2, g3⟩ := hR.2.2 j s hj
      refine ⟨a, d, v', born, g1, g2, ?_⟩
      rw [Array.toList_push, List.getElem?_append_left (by rw [hR.1]; exact c)]
      exact g3
    · rw [List.getElem?_append_right c] at hj
      have hj0 : j - ts.length = 0 := by
        have := (List.getElem?_eq_some_iff.1 hj).1
        simp only [List.length_singleton] at this
        omega
      rw [hj0] at hj
      simp only [List.getElem?_cons_zero, Option.some.injEq] at hj
      subst hj
      refine ⟨x, y, v, clk, rfl, ⟨hx.1, hx.2, hy.1, hy.2⟩, ?_⟩
      have e1 : j = arr.toList.length := by rw [hR.1]; omega
      rw [Array.toList_push, e1, List.getElem?_append_right (Nat.le_refl _), Nat.sub_self]
      rfl
end

end Go.Proofs.Ythecninmmojkgaa.Ab
