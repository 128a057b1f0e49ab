/-
  The law's arguments: lists of games as they are read.
-/
import Derived.Test.YthecninmmojkgaaFnIC
import Derived.Test.YthecninmmojkgaaAbLaw
namespace Go.Proofs.Ythecninmmojkgaa.Ab
open Go Go.ChangeShapes Go.WideShapes Go.ChangeAt Go.RowKit
set_option linter.unusedVariables false
set_option linter.unusedSimpArgs false
set_option maxRecDepth 100000

section
variable {H : Type} {enc : TypeId × Value → H} {P : Program}
/-- Elements of several cells. -/
theorem slice_cellsN {t e : TypeId} {W : World} {v : Value} {x : DataW H × List MemPlace} {fuel z : Nat} (ht : P.underlying t = some (.slice e)) (hc : P.cellsOf e = z)
    (hf : DataW.trod enc P W 0 (fun _ => true) true fuel t [v] = some x) :
    v = .slice none 0 0 ∨ ∃ (a : Addr) (len cap n : Nat), v = .slice (some a) len cap ∧ len ≤ cap ∧ len ≤ 9223372036854775807 ∧ ∀ i, i < len → ∃ cs y, cs.length = z ∧ (∀ j, j < z → ∃ c, cs[j]? = some c ∧ W.cell? (a.add (i * z + j)) = some c) ∧ DataW.trod enc P W 0 (fun _ => true) true n e cs = some y := by
  rcases DataW.trod_slice ht hf with ⟨hcs, _⟩ | ⟨a, len, cap, elems, rest, n, _, hcs, _, _, hl, hm, hlen, hel, _⟩
  · left
    simpa using hcs
  · right
    simp only [List.cons.injEq, and_true] at hcs
    refine ⟨a, len, cap, n, hcs, hl, by unfold maxLen at hm; omega, fun i hi => ?_⟩
    have h1 := hel i hi
    have hlt : i < elems.length := by omega
    rw [List.getElem?_eq_getElem hlt, hc, Option.bind_eq_some_iff] at h1
    obtain ⟨cs, h2, h3⟩ := h1
    have h4 := World.cells?_some h2
    obtain ⟨_, h5, h6⟩ := h4
    refine ⟨cs, _, h5, fun j hj => ⟨cs[j], List.getElem?_eq_getElem (by omega), ?_⟩, h3⟩
    have := h6 j hj
    rw [List.getElem?_eq_getElem (by omega)] at this
    rw [← this, add_add]
theorem field_val {W : World} {f : Fld} {c : Value} (h : Arg W c f.lent) : @FldV noForb [] W f c := by
  cases f with
  | num n => cases h; rfl
  | list xs =>
    cases h
    rename_i a cap q2 q1 q3 q4
    exact ⟨a, cap, rfl, q3, q1, fun q hq i n hi => q2 q hq i n (by simpa using hi)⟩
  | rows xs =>
    cases h
    rename_i a cap q2 q1 q3 q4
    exact ⟨a, cap, rfl, q3, q1, fun q hq i n hi => q2 q hq i n (by simpa using hi)⟩
theorem arg_games {t e ei : TypeId} {f0 f1 f2 f3 : Field} {W : World} {v : Value} {d : DataW H} {p : List MemPlace} (ht : P.underlying t = some (.slice e)) (he : P.underlying e = some (.struct #[f0, f1, f2, f3]))
    (o : f0.offset = 0 ∧ f1.offset = 1 ∧ f2.offset = 2 ∧ f3.offset = 3) (h0 : P.underlying f0.type = some (.int .i64)) (h1 : P.underlying f1.type = some (.int .i64)) (h2 : P.underlying f2.type = some (.slice ei)) (h3 : P.underlying f3.type = some (.slice ei)) (hi : P.underlying ei = some (.int .i64))
    (c : P.cellsOf f0.type = 1 ∧ P.cellsOf f1.type = 1 ∧ P.cellsOf f2.type = 1 ∧ P.cellsOf f3.type = 1) (hci : P.cellsOf ei = 1) (hce : P.cellsOf e = 4)
    {b : Nat} (hv : Value.okWide P W .any b t v) (h : DataW.Trod enc P W 0 (fun _ => true) true t v d p) :
    ∃ xs : List GmT, xs.length ≤ 9223372036854775807 ∧ gms.short.sp 9223372036854775807 xs = true ∧ Arg W v (.ro (.recs [0, 0, 1, 1] (gfs.sv xs)) xs.length 4) := by
  obtain ⟨a0, len0, cap0, rfl⟩ := okWide_slice ht hv
  obtain ⟨fuel, hf⟩ := h
  rcases slice_cellsN ht hce hf with hn | ⟨a, len, cap, n, ev, hl, hm, hel⟩
  · refine ⟨[], by simp, rfl, ?_⟩
    rw [hn]
    exact @VR.ro noForb [] [] W (.recs [0, 0, 1, 1] (gfs.sv [])) 0 4 none 0 (fun _ => rfl) (fun p hp => by cases hp) (Nat.le_refl _) (by simp)
  · rw [ev]
    have hex : ∀ i, ∃ g : GmT, i < len → (g.2.1.length ≤ 9223372036854775807 ∧ g.2.2.length ≤ 9223372036854775807) ∧ ∃ c0 c1 c2 c3, W.cell? (a.add (i * 4)) = some c0 ∧ W.cell? (a.add (i * 4 + 1)) = some c1 ∧ W.cell? (a.add (i * 4 + 2)) = some c2 ∧ W.cell? (a.add (i * 4 + 3)) = some c3 ∧
        @FldV noForb [] W (.num g.1.1) c0 ∧ @FldV noForb [] W (.num g.1.2) c1 ∧ @FldV noForb [] W (.list g.2.1) c2 ∧ @FldV noForb [] W (.list g.2.2) c3 := by
      intro i
      by_cases hlt : i < len
      · obtain ⟨cs, y, q1, q2, q3⟩ := hel i hlt
        obtain ⟨ys, n', _, rfl, _, hys, hfd⟩ := DataW.trod_struct he q3
        obtain ⟨c0, e0, w0⟩ := q2 0 (by omega)
        obtain ⟨c1, e1, w1⟩ := q2 1 (by omega)
        obtain ⟨c2, e2, w2⟩ := q2 2 (by omega)
        obtain ⟨c3, e3, w3⟩ := q2 3 (by omega)
        obtain rfl : cs = [c0, c1, c2, c3] := by
          match cs, q1 with
          | [x0, x1, x2, x3], _ =>
            simp only [List.getElem?_cons_zero, List.getElem?_cons_succ, Option.some.injEq] at e0 e1 e2 e3
            rw [e0, e1, e2, e3]
        have k0 := hfd 0 f0 rfl
        have k1 := hfd 1 f1 rfl
        have k2 := hfd 2 f2 rfl
        have k3 := hfd 3 f3 rfl
        rw [o.1, c.1] at k0
        rw [o.2.1, c.2.1] at k1
        rw [o.2.2.1, c.2.2.1] at k2
        rw [o.2.2.2, c.2.2.2] at k3
        have l4 : ys.length = 4 := hys
        rw [List.getElem?_eq_getElem (by omega)] at k0 k1 k2 k3
        obtain ⟨u, wu, au⟩ := int_of h0 k0
        obtain ⟨r, wr, ar⟩ := int_of h1 k1
        obtain ⟨ws, ww, lw, aw⟩ := ints_of h2 hi hci k2
        obtain ⟨ds, wd, ld, ad⟩ := ints_of h3 hi hci k3
        exact ⟨((u, r), (ws, ds)), fun _ => ⟨⟨lw, ld⟩, c0, c1, c2, c3, w0, w1, w2, w3, field_val (f := .num u) au, field_val (f := .num r) ar, field_val (f := .list ws) aw, field_val (f := .list ds) ad⟩⟩
      · exact ⟨((0, 0), ([], [])), fun h => absurd h hlt⟩
    let g : Nat → GmT := fun i => Classical.choose (hex i)
    have hg : ∀ i, i < len → _ := fun i hi => Classical.choose_spec (hex i) hi
    have hgg : ∀ i, i < len → gg ((List.range len).map g) i = g i := by
      intro i hi
      unfold gg
      rw [List.getD_eq_getElem?_getD, List.getElem?_map, List.getElem?_range hi]; rfl
    have hlen : ((List.range len).map g).length = len := by simp
    refine ⟨(List.range len).map g, by simpa using hm, ?_, ?_⟩
    · unfold gms.short.sp
      rw [List.all_eq_true]
      intro x hx
      simp only [List.mem_map, List.mem_range] at hx
      obtain ⟨i, hi, rfl⟩ := hx
      obtain ⟨⟨q1, q2⟩, _⟩ := hg i hi
      rw [decide_eq_true q1, decide_eq_true q2]; rfl
    rw [hlen]
    refine @VR.ro noForb [] [] W (.recs [0, 0, 1, 1] (gfs.sv ((List.range len).map g))) len 4 (some a) cap (fun h => by cases h) (fun p hp => ?_) hl (by simp only [Cont.len, gfs_len, hlen]; omega)
    simp only [Option.some.injEq] at hp; subst hp
    intro i f hi
    rw [Nat.zero_add] at hi
    have hlt : i < len * 4 := by have := (List.getElem?_eq_some_iff.1 hi).1; rw [gfs_len, hlen] at this; exact this
    obtain ⟨r1, r2, r3, r4⟩ := gfs_at ((List.range len).map g) (i / 4) (by rw [hlen]; omega)
    obtain ⟨_, c0, c1, c2, c3, w0, w1, w2, w3, v0, v1, v2, v3⟩ := hg (i / 4) (by omega)
    rw [hgg _ (by omega)] at r1 r2 r3 r4
    have stb : ∀ {j : Nat} {x : Value}, W.cell? (a.add j) = some x → @Stb noForb [] W a.block := by
      intro j x hx
      have := cell_stb hx
      rw [add_block] at this
      exact ⟨this, List.not_mem_nil, List.not_mem_nil⟩
    have hm4 : i % 4 = 0 ∨ i % 4 = 1 ∨ i % 4 = 2 ∨ i % 4 = 3 := by omega
    rcases hm4 with h | h | h | h
    · rw [show i / 4 * 4 = i by omega] at r1 w0
      rw [r1] at hi; simp only [Option.some.injEq] at hi; subst hi
      exact ⟨stb w0, c0, w0, v0⟩
    · rw [show i / 4 * 4 + 1 = i by omega] at r2 w1
      rw [r2] at hi; simp only [Option.some.injEq] at hi; subst hi
      exact ⟨stb w1, c1, w1, v1⟩
    · rw [show i / 4 * 4 + 2 = i by omega] at r3 w2
      rw [r3] at hi; simp only [Option.some.injEq] at hi; subst hi
      exact ⟨stb w2, c2, w2, v2⟩
    · rw [show i / 4 * 4 + 3 = i by omega] at r4 w3
      rw [r4] at hi; simp only [Option.some.injEq] at hi; subst hi
      exact ⟨stb w3, c3, w3, v3⟩
end
end Go.Proofs.Ythecninmmojkgaa.Ab
