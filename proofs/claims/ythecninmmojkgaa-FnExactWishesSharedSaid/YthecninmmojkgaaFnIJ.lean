/-
  The law's arguments: lists of wishes as they are read.
-/
import Derived.Test.YthecninmmojkgaaFnIH
import Derived.Test.YthecninmmojkgaaAbLaw
namespace Go.Proofs.Ythecninmmojkgaa.Ab
open Go Go.ChangeShapes Go.WideShapes Go.ChangeAt Go.RowKit
set_option linter.unusedVariables false
set_option linter.unusedSimpArgs false
set_option maxRecDepth 100000

section
variable {H : Type} {enc : TypeId × Value → H} {P : Program}
/-- Elements of several cells. -/
theorem slice_cellsN {t e : TypeId} {W : World} {v : Value} {x : DataW H × List MemPlace} {fuel z : Nat} (ht : P.underlying t = some (.slice e)) (hc : P.cellsOf e = z)
    (hf : DataW.trod enc P W 0 (fun _ => true) true fuel t [v] = some x) :
    v = .slice none 0 0 ∨ ∃ (a : Addr) (len cap n : Nat), v = .slice (some a) len cap ∧ len ≤ cap ∧ len ≤ 9223372036854775807 ∧ ∀ i, i < len → ∃ cs y, cs.length = z ∧ (∀ j, j < z → ∃ c, cs[j]? = some c ∧ W.cell? (a.add (i * z + j)) = some c) ∧ DataW.trod enc P W 0 (fun _ => true) true n e cs = some y := by
  rcases DataW.trod_slice ht hf with ⟨hcs, _⟩ | ⟨a, len, cap, elems, rest, n, _, hcs, _, _, hl, hm, hlen, hel, _⟩
  · left
    simpa using hcs
  · right
    simp only [List.cons.injEq, and_true] at hcs
    refine ⟨a, len, cap, n, hcs, hl, by unfold maxLen at hm; omega, fun i hi => ?_⟩
    have h1 := hel i hi
    have hlt : i < elems.length := by omega
    rw [List.getElem?_eq_getElem hlt, hc, Option.bind_eq_some_iff] at h1
    obtain ⟨cs, h2, h3⟩ := h1
    have h4 := World.cells?_some h2
    obtain ⟨_, h5, h6⟩ := h4
    refine ⟨cs, _, h5, fun j hj => ⟨cs[j], List.getElem?_eq_getElem (by omega), ?_⟩, h3⟩
    have := h6 j hj
    rw [List.getElem?_eq_getElem (by omega)] at this
    rw [← this, add_add]
theorem field_val {W : World} {f : Fld} {c : Value} (h : Arg W c f.lent) : @FldV noForb [] W f c := by
  cases f with
  | num n => cases h; rfl
  | list xs =>
    cases h
    rename_i a cap q2 q1 q3 q4
    exact ⟨a, cap, rfl, q3, q1, fun q hq i n hi => q2 q hq i n (by simpa using hi)⟩
  | rows xs =>
    cases h
    rename_i a cap q2 q1 q3 q4
    exact ⟨a, cap, rfl, q3, q1, fun q hq i n hi => q2 q hq i n (by simpa using hi)⟩
theorem arg_wishesS {t e er ei : TypeId} {f0 f1 : Field} {W : World} {v : Value} {d : DataW H} {p : List MemPlace} (ht : P.underlying t = some (.slice e)) (he : P.underlying e = some (.struct #[f0, f1]))
    (o : f0.offset = 0 ∧ f1.offset = 1) (h0 : P.underlying f0.type = some (.slice er)) (h1 : P.underlying f1.type = some (.slice er)) (hr : P.underlying er = some (.slice ei)) (hi : P.underlying ei = some (.int .i64))
    (c : P.cellsOf f0.type = 1 ∧ P.cellsOf f1.type = 1) (hcr : P.cellsOf er = 1) (hci : P.cellsOf ei = 1) (hce : P.cellsOf e = 2)
    {b : Nat} (hv : Value.okWide P W .any b t v) (h : DataW.Trod enc P W 0 (fun _ => true) true t v d p) :
    ∃ xs : List WsT, xs.length ≤ 9223372036854775807 ∧ wss.short.sp 9223372036854775807 xs = true ∧ Arg W v (.ro (.recs [2, 2] (wfs.sv xs)) xs.length 2) := by
  obtain ⟨a0, len0, cap0, rfl⟩ := okWide_slice ht hv
  obtain ⟨fuel, hf⟩ := h
  rcases slice_cellsN ht hce hf with hn | ⟨a, len, cap, n, ev, hl, hm, hel⟩
  · refine ⟨[], by simp, rfl, ?_⟩
    rw [hn]
    exact @VR.ro noForb [] [] W (.recs [2, 2] (wfs.sv [])) 0 2 none 0 (fun _ => rfl) (fun p hp => by cases hp) (Nat.le_refl _) (by simp)
  · rw [ev]
    have hex : ∀ i, ∃ g : WsT, i < len → ((g.1.length ≤ 9223372036854775807 ∧ g.2.length ≤ 9223372036854775807) ∧ (short.sp 9223372036854775807 g.1 = true ∧ short.sp 9223372036854775807 g.2 = true)) ∧ ∃ c0 c1, W.cell? (a.add (i * 2)) = some c0 ∧ W.cell? (a.add (i * 2 + 1)) = some c1 ∧
        @FldV noForb [] W (.rows g.1) c0 ∧ @FldV noForb [] W (.rows g.2) c1 := by
      intro i
      by_cases hlt : i < len
      · obtain ⟨cs, y, q1, q2, q3⟩ := hel i hlt
        obtain ⟨ys, n', _, rfl, _, hys, hfd⟩ := DataW.trod_struct he q3
        obtain ⟨c0, e0, w0⟩ := q2 0 (by omega)
        obtain ⟨c1, e1, w1⟩ := q2 1 (by omega)
        obtain rfl : cs = [c0, c1] := by
          match cs, q1 with
          | [x0, x1], _ =>
            simp only [List.getElem?_cons_zero, List.getElem?_cons_succ, Option.some.injEq] at e0 e1
            rw [e0, e1]
        have k0 := hfd 0 f0 rfl
        have k1 := hfd 1 f1 rfl
        rw [o.1, c.1] at k0
        rw [o.2, c.2] at k1
        have l2 : ys.length = 2 := hys
        rw [List.getElem?_eq_getElem (by omega)] at k0 k1
        obtain ⟨ls, ll, wl, al⟩ := rows_of h0 hr hi hcr hci k0
        obtain ⟨rs, lr, wr, ar⟩ := rows_of h1 hr hi hcr hci k1
        have sl : short.sp 9223372036854775807 ls = true := by simp only [short.sp, List.all_eq_true, decide_eq_true_eq]; exact fun r hr => (wl r hr).1
        have sr : short.sp 9223372036854775807 rs = true := by simp only [short.sp, List.all_eq_true, decide_eq_true_eq]; exact fun r hr => (wr r hr).1
        exact ⟨(ls, rs), fun _ => ⟨⟨⟨ll, lr⟩, sl, sr⟩, c0, c1, w0, w1, field_val (f := .rows ls) al, field_val (f := .rows rs) ar⟩⟩
      · exact ⟨([], []), fun h => absurd h hlt⟩
    let g : Nat → WsT := fun i => Classical.choose (hex i)
    have hg : ∀ i, i < len → _ := fun i hi => Classical.choose_spec (hex i) hi
    have hgg : ∀ i, i < len → wg ((List.range len).map g) i = g i := by
      intro i hi
      unfold wg
      rw [List.getD_eq_getElem?_getD, List.getElem?_map, List.getElem?_range hi]; rfl
    have hlen : ((List.range len).map g).length = len := by simp
    refine ⟨(List.range len).map g, by simpa using hm, ?_, ?_⟩
    · unfold wss.short.sp
      rw [List.all_eq_true]
      intro x hx
      simp only [List.mem_map, List.mem_range] at hx
      obtain ⟨i, hi, rfl⟩ := hx
      obtain ⟨⟨⟨q1, q2⟩, q3, q4⟩, _⟩ := hg i hi
      simp only [Bool.and_eq_true, decide_eq_true_eq]
      exact ⟨⟨q1, q2⟩, q3, q4⟩
    rw [hlen]
    refine @VR.ro noForb [] [] W (.recs [2, 2] (wfs.sv ((List.range len).map g))) len 2 (some a) cap (fun h => by cases h) (fun p hp => ?_) hl (by simp only [Cont.len, wfs_len, hlen]; omega)
    simp only [Option.some.injEq] at hp; subst hp
    intro i f hi
    rw [Nat.zero_add] at hi
    have hlt : i < len * 2 := by have := (List.getElem?_eq_some_iff.1 hi).1; rw [wfs_len, hlen] at this; exact this
    obtain ⟨r1, r2⟩ := wfs_at ((List.range len).map g) (i / 2) (by rw [hlen]; omega)
    obtain ⟨_, c0, c1, w0, w1, v0, v1⟩ := hg (i / 2) (by omega)
    rw [hgg _ (by omega)] at r1 r2
    have stb : ∀ {j : Nat} {x : Value}, W.cell? (a.add j) = some x → @Stb noForb [] W a.block := by
      intro j x hx
      have := cell_stb hx
      rw [add_block] at this
      exact ⟨this, List.not_mem_nil, List.not_mem_nil⟩
    have hm2 : i % 2 = 0 ∨ i % 2 = 1 := by omega
    rcases hm2 with h | h
    · rw [show i / 2 * 2 = i by omega] at r1 w0
      rw [r1] at hi; simp only [Option.some.injEq] at hi; subst hi
      exact ⟨stb w0, c0, w0, v0⟩
    · rw [show i / 2 * 2 + 1 = i by omega] at r2 w1
      rw [r2] at hi; simp only [Option.some.injEq] at hi; subst hi
      exact ⟨stb w1, c1, w1, v1⟩
end
end Go.Proofs.Ythecninmmojkgaa.Ab
