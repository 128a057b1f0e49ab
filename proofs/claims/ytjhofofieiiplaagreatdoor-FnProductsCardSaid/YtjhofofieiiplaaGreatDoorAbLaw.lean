/-
  A law that says true on what its arguments read as, and leaves them, keeps its row.
-/
import Derived.Test.YtjhofofieiiplaaGreatDoorAbOrc
import Derived.ProofKit
import Derived.OpenShut
import Derived.Carry
namespace Go.Proofs.YtjhofofieiiplaaGreatDoor.Ab
open Go Go.ChangeShapes Go.WideShapes Go.ChangeAt Go.RowKit
set_option linter.unusedVariables false
set_option linter.unusedSimpArgs false

section
variable {H : Type} {enc : TypeId × Value → H} {P : Program}

theorem trodAll_stays (hl : laidOutB P = true) {W W' : World} (hb : Below W.heap.size W W') {sp : Nat → Bool} :
    ∀ {ts : List TypeId} {vs : List Value} {ds : List (DataW H)} {ps : List MemPlace}, (∀ t ∈ ts, P.readableRec t = true ∧ t < P.types.size) → DataW.TrodAll enc P W 0 (fun _ => true) true ts vs ds ps →
      (∀ p ∈ ps, p.block < W.heap.size) → (∀ p ∈ ps, sp p.block = true) → DataW.TrodAll enc P W' 0 sp true ts vs ds ps := by
  intro ts
  induction ts with
  | nil =>
    intro vs ds ps _ h _ _
    obtain ⟨rfl, rfl, rfl⟩ := trodAll_nil h
    exact trodAll_mk0
  | cons t ts ih =>
    intro vs ds ps hr h hlt hsp
    obtain ⟨v, vs', d, ds', p, q, rfl, rfl, rfl, h1, h2⟩ := trodAll_cons h
    have hr1 := hr t List.mem_cons_self
    exact trodAll_cons_mk (WideElems.Trod_stays hl hr1.1 hr1.2 h1 (fun x hx => hb.same (hlt x (List.mem_append_left _ hx))) (fun x hx => hsp x (List.mem_append_left _ hx)))
      (ih (fun t ht => hr t (List.mem_cons_of_mem _ ht)) h2 (fun x hx => hlt x (List.mem_append_right _ hx)) (fun x hx => hsp x (List.mem_append_right _ hx)))
theorem trodAll_len {W : World} {sp : Nat → Bool} {held : Bool} : ∀ {ts : List TypeId} {vs : List Value} {ds : List (DataW H)} {ps : List MemPlace}, DataW.TrodAll enc P W 0 sp held ts vs ds ps → ds.length = ts.length := by
  intro ts
  induction ts with
  | nil => intro vs ds ps h; obtain ⟨rfl, rfl, rfl⟩ := trodAll_nil h; rfl
  | cons t ts ih =>
    intro vs ds ps h
    obtain ⟨v, vs', d, ds', p, q, rfl, rfl, rfl, h1, h2⟩ := trodAll_cons h
    simp [ih h2]

theorem law_post (hl : laidOutB P = true) {fn : Func} {s : ChangeSpec} {W W' : World} {args : Array Value} {ds gs : List (DataW H)} {before : List MemPlace} {tb : TypeId}
    (hrec : ∀ t ∈ fn.params.toList, P.readableRec t = true ∧ t < P.types.size) (hres : fn.resultTypes = #[tb]) (htb : P.underlying tb = some .bool) (hvars : s.vars = [])
    (hfn : ∀ ds : List (DataW H), ds.length = fn.params.toList.length → s.fn H ds = { results := [.lit (.bool true)], args := ds })
    (hW : DataW.Whole enc P fn.params.toList s.vars false W args.toList ds gs before) (hb : Below W.heap.size W W') : s.post enc P fn false true false false W args (.bool true) W' := by
  have hlt := hW.lt
  have hW' := hW
  obtain ⟨p, q, hA, hV, rfl, hfz, hnd⟩ := hW'
  rw [hvars] at hV
  obtain ⟨rfl, rfl⟩ := trodVars_none hV
  simp only [List.append_nil] at hlt hfz hW
  have hlen := trodAll_len hA
  have hf := hfn ds hlen
  have hres1 : ∀ (b : Nat) (sp : Nat → Bool) (hd : Bool), DataW.TrodAll enc P W' b sp hd fn.resultTypes.toList ((Value.bool true).resultList fn.resultTypes.size) (s.fn H (ds ++ [])).results [] := by
    intro b sp hd
    rw [List.append_nil, hf, hres]
    exact trodAll_mk1 (shut_bool htb true)
  have hargs : ∀ sp : Nat → Bool, (∀ x ∈ p, sp x.block = true) → DataW.TrodAll enc P W' 0 sp true fn.params.toList args.toList (s.fn H (ds ++ [])).args p := by
    intro sp hsp
    rw [List.append_nil, hf]
    exact trodAll_stays hl hb hrec hA hlt hsp
  have hvs : ∀ sp : Nat → Bool, DataW.TrodVars enc P W' sp s.vars (s.fn H (ds ++ [])).vars [] := by
    intro sp
    rw [List.append_nil, hf, hvars]
    rfl
  have hold : ∀ x ∈ p, (fun b => decide (b < W.heap.size)) x.block = true := fun x hx => by simpa using hlt x hx
  exact ⟨ds, [], p, [], p, [], hW, hres1 _ _ _, hargs _ hold, hvs _, hb.frame _, fun h => by cases h⟩

abbrev noForb : Forb := ⟨[], []⟩
/-- An argument that reads as a value of the machine. -/
def Arg (W : World) (v : Value) (u : AVal) : Prop := @VR noForb [] [] W u v

theorem Below.of_Mv {W W' : World} {ρ' : List Nat} {H' : Heap} (m : Mv [] [] W ρ' H' W') : Below W.heap.size W W' :=
  ⟨m.os, m.tape, m.output, m.size, fun k hk => (m.frame k hk (by simp)).1⟩

/-- The law's contract, at its arguments. -/
theorem law_calls {f : FuncId} {R : List AVal → Option (Bool × AVal × List Blk)} (he : EntOk P ⟨f, R⟩) {W : World} {args : Array Value} {us : List AVal} {new : List Blk} (hR : R us = some (true, .bool true, new))
    (h : @VRs noForb [] [] W us args.toList) (gl : @GL noForb [] W) : Calls P f args W fun e W' => e = .returned (.bool true) ∧ Below W.heap.size W W' := by
  have hF : @Sim noForb [] [] W := @Sim.mk noForb [] [] W rfl List.nodup_nil (fun b hb => by cases hb) (fun l b blk h => by simp at h)
  refine (@he.2 us _ _ hR noForb [] W args hF h gl).mono fun e W' ⟨c, h1, ρ', h2, h3, h4⟩ => ?_
  subst h1
  cases h2
  exact ⟨rfl, Below.of_Mv h4⟩

theorem cell_stb {W : World} {a : Addr} {v : Value} (h : W.cell? a = some v) : a.block < W.heap.size := by
  rcases Nat.lt_or_ge a.block W.heap.size with h1 | h1
  · exact h1
  · simp [World.cell?, Array.getElem?_eq_none h1] at h

theorem arg_int {t : TypeId} {k : IntKind} {W : World} {v : Value} {d : DataW H} {p : List MemPlace} (ht : P.underlying t = some (.int k)) {b : Nat} (hv : Value.okWide P W .any b t v)
    (h : DataW.Trod enc P W 0 (fun _ => true) true t v d p) : ∃ n : Int, (Lit.int k n).wf = true ∧ Arg W v (.int k n) := by
  obtain ⟨a, rfl, rfl, rfl, wa⟩ := open_int ht hv h
  exact ⟨a, wa, @VR.int noForb [] [] W k a⟩

theorem ints_of {t e : TypeId} {k : IntKind} {W : World} {v : Value} {x : DataW H × List MemPlace} {fuel : Nat} (ht : P.underlying t = some (.slice e)) (he : P.underlying e = some (.int k)) (hc : P.cellsOf e = 1)
    (hf : DataW.trod enc P W 0 (fun _ => true) true fuel t [v] = some x) :
    ∃ xs : List Int, (∀ n ∈ xs, (Lit.int k n).wf = true) ∧ xs.length ≤ 9223372036854775807 ∧ Arg W v (.ro (.ints k xs) xs.length 1) := by
  rcases open_ints ht he hc hf with ⟨hcs, hx⟩ | ⟨a, len0, cap0, zs, hcs, _, hl, hm, hz, hx, hcell, hwz⟩
  · simp only [List.cons.injEq, and_true] at hcs
    subst hcs
    exact ⟨[], by simp, by simp, @VR.ro noForb [] [] W (.ints k []) 0 1 none 0 (fun _ => rfl) (fun p hp => by cases hp) (Nat.le_refl _) (by simp)⟩
  · simp only [List.cons.injEq, and_true] at hcs
    subst hcs
    simp only [if_true] at hz
    have hlen : (zs.take len0).length = len0 := by rw [List.length_take]; omega
    refine ⟨zs.take len0, fun n hn => hwz n (List.mem_of_mem_take hn), by rw [hlen]; unfold maxLen at hm; omega, ?_⟩
    rw [hlen]
    refine @VR.ro noForb [] [] W (.ints k (zs.take len0)) len0 1 (some a) cap0 (fun h => by cases h) (fun p hp => ?_) hl (by simp [Cont.len, hlen])
    simp only [Option.some.injEq] at hp; subst hp
    intro i n hi
    rw [Nat.zero_add, List.getElem?_take] at hi
    split at hi
    · have hlt := (List.getElem?_eq_some_iff.1 hi).1
      have hcl := hcell i hlt
      rw [List.getD_eq_getElem?_getD, hi, Option.getD_some] at hcl
      have hb := cell_stb hcl
      rw [add_block] at hb
      exact ⟨⟨hb, List.not_mem_nil, List.not_mem_nil⟩, hcl⟩
    · cases hi
theorem int_of {t : TypeId} {k : IntKind} {W : World} {v : Value} {x : DataW H × List MemPlace} {fuel : Nat} (ht : P.underlying t = some (.int k)) (hf : DataW.trod enc P W 0 (fun _ => true) true fuel t [v] = some x) :
    ∃ n : Int, (Lit.int k n).wf = true ∧ Arg W v (.int k n) := by
  obtain ⟨m, hcs, rfl, hw⟩ := DataW.trod_int ht hf
  simp only [List.cons.injEq, and_true] at hcs
  subst hcs
  exact ⟨m, hw, @VR.int noForb [] [] W k m⟩
theorem arg_ints {t e : TypeId} {k : IntKind} {W : World} {v : Value} {d : DataW H} {p : List MemPlace} (ht : P.underlying t = some (.slice e)) (he : P.underlying e = some (.int k)) (hc : P.cellsOf e = 1)
    {b : Nat} (hv : Value.okWide P W .any b t v) (h : DataW.Trod enc P W 0 (fun _ => true) true t v d p) :
    ∃ xs : List Int, (∀ n ∈ xs, (Lit.int k n).wf = true) ∧ xs.length ≤ 9223372036854775807 ∧ Arg W v (.ro (.ints k xs) xs.length 1) := by
  obtain ⟨a0, len0, cap0, rfl⟩ := okWide_slice ht hv
  obtain ⟨fuel, hf⟩ := h
  exact ints_of ht he hc hf
theorem trod_flt {t : TypeId} {k : FloatKind} {W : World} {cs : List Value} {x : DataW H × List MemPlace} {fuel base : Nat} {sp : Nat → Bool} {held : Bool} (ht : P.underlying t = some (.float k))
    (h : DataW.trod enc P W base sp held fuel t cs = some x) : ∃ b, cs = [.float k b] := by
  cases fuel with
  | zero => simp [DataW.trod] at h
  | succ n =>
    unfold DataW.trod at h
    rw [ht] at h
    split at h <;> simp_all
theorem flt_of {t : TypeId} {k : FloatKind} {W : World} {v : Value} {x : DataW H × List MemPlace} {fuel : Nat} (ht : P.underlying t = some (.float k)) (hf : DataW.trod enc P W 0 (fun _ => true) true fuel t [v] = some x) :
    ∃ b : Nat, Arg W v (.flt k b) := by
  obtain ⟨b, hb⟩ := trod_flt ht hf
  simp only [List.cons.injEq, and_true] at hb
  subst hb
  exact ⟨b, @VR.flt noForb [] [] W k b b (.inl rfl)⟩
theorem arg_flt {t : TypeId} {k : FloatKind} {W : World} {v : Value} {d : DataW H} {p : List MemPlace} (ht : P.underlying t = some (.float k)) {b : Nat} (hv : Value.okWide P W .any b t v)
    (h : DataW.Trod enc P W 0 (fun _ => true) true t v d p) : ∃ b : Nat, Arg W v (.flt k b) := by
  obtain ⟨fuel, hf⟩ := h
  cases fuel with
  | zero => simp [DataW.trod] at hf
  | succ n =>
    have hc : v.cells.toList = [v] := by
      cases v <;> first | rfl | (exfalso; simp [Value.okWide, ht] at hv; unfold Cell.okWide at hv; simp [ht] at hv; unfold Cell.ok at hv; simp [ht] at hv) | (exfalso; unfold DataW.trod at hf; rw [ht] at hf; simp [Value.cells] at hf; split at hf <;> simp_all)
    rw [hc] at hf
    exact flt_of ht hf
/-- A slice whose elements are a cell each. -/
theorem slice_cells {t e : TypeId} {W : World} {v : Value} {x : DataW H × List MemPlace} {fuel : Nat} (ht : P.underlying t = some (.slice e)) (hc : P.cellsOf e = 1)
    (hf : DataW.trod enc P W 0 (fun _ => true) true fuel t [v] = some x) :
    v = .slice none 0 0 ∨ ∃ (a : Addr) (len cap n : Nat), v = .slice (some a) len cap ∧ len ≤ cap ∧ len ≤ 9223372036854775807 ∧ ∀ i, i < len → ∃ c y, W.cell? (a.add i) = some c ∧ DataW.trod enc P W 0 (fun _ => true) true n e [c] = some y := by
  rcases DataW.trod_slice ht hf with ⟨hcs, _⟩ | ⟨a, len, cap, elems, rest, n, _, hcs, _, _, hl, hm, hlen, hel, _⟩
  · left
    simpa using hcs
  · right
    simp only [List.cons.injEq, and_true] at hcs
    refine ⟨a, len, cap, n, hcs, hl, by unfold maxLen at hm; omega, fun i hi => ?_⟩
    have h1 := hel i hi
    have hlt : i < elems.length := by omega
    rw [List.getElem?_eq_getElem hlt, hc, Nat.mul_one, Option.bind_eq_some_iff] at h1
    obtain ⟨cs, h2, h3⟩ := h1
    have h4 := World.cells?_some h2
    obtain ⟨_, h5, h6⟩ := h4
    obtain ⟨c, rfl⟩ : ∃ c, cs = [c] := List.length_eq_one_iff.1 h5
    refine ⟨c, _, ?_, h3⟩
    have := h6 0 (by omega)
    simpa [Addr.add] using this
theorem flts_of {t e : TypeId} {k : FloatKind} {W : World} {v : Value} {x : DataW H × List MemPlace} {fuel : Nat} (ht : P.underlying t = some (.slice e)) (he : P.underlying e = some (.float k)) (hc : P.cellsOf e = 1)
    (hf : DataW.trod enc P W 0 (fun _ => true) true fuel t [v] = some x) :
    ∃ xs : List Nat, xs.length ≤ 9223372036854775807 ∧ Arg W v (.ro (.flts k xs) xs.length 1) := by
  rcases slice_cells ht hc hf with rfl | ⟨a, len, cap, n, rfl, hl, hm, hel⟩
  · exact ⟨[], by simp, @VR.ro noForb [] [] W (.flts k []) 0 1 none 0 (fun _ => rfl) (fun p hp => by cases hp) (Nat.le_refl _) (by simp)⟩
  · let g : Nat → Nat := fun i => match W.cell? (a.add i) with | some (.float _ b) => b | _ => 0
    have hg : ∀ i, i < len → W.cell? (a.add i) = some (.float k (g i)) := by
      intro i hi
      obtain ⟨c, y, h1, h2⟩ := hel i hi
      obtain ⟨b, hb⟩ := trod_flt he h2
      simp only [List.cons.injEq, and_true] at hb
      subst hb
      simp only [g, h1]
    refine ⟨(List.range len).map g, by simpa using hm, ?_⟩
    have hlen : ((List.range len).map g).length = len := by simp
    rw [hlen]
    refine @VR.ro noForb [] [] W (.flts k ((List.range len).map g)) len 1 (some a) cap (fun h => by cases h) (fun p hp => ?_) hl (by simp [Cont.len])
    simp only [Option.some.injEq] at hp; subst hp
    intro i b hi
    rw [Nat.zero_add, List.getElem?_map, Option.map_eq_some_iff] at hi
    obtain ⟨j, hj, rfl⟩ := hi
    have hlt : i < len := by simpa using (List.getElem?_eq_some_iff.1 hj).1
    have hji : j = i := by rw [List.getElem?_range hlt] at hj; simpa using hj.symm
    subst hji
    have hb := cell_stb (hg j hlt)
    rw [add_block] at hb
    exact ⟨⟨hb, List.not_mem_nil, List.not_mem_nil⟩, _, hg j hlt, .inl rfl⟩
theorem arg_flts {t e : TypeId} {k : FloatKind} {W : World} {v : Value} {d : DataW H} {p : List MemPlace} (ht : P.underlying t = some (.slice e)) (he : P.underlying e = some (.float k)) (hc : P.cellsOf e = 1)
    {b : Nat} (hv : Value.okWide P W .any b t v) (h : DataW.Trod enc P W 0 (fun _ => true) true t v d p) :
    ∃ xs : List Nat, xs.length ≤ 9223372036854775807 ∧ Arg W v (.ro (.flts k xs) xs.length 1) := by
  obtain ⟨a0, len0, cap0, rfl⟩ := okWide_slice ht hv
  obtain ⟨fuel, hf⟩ := h
  exact flts_of ht he hc hf
/-- A slice of slices of integers. -/
theorem rows_of {t r e : TypeId} {k : IntKind} {W : World} {v : Value} {x : DataW H × List MemPlace} {fuel : Nat} (ht : P.underlying t = some (.slice r)) (hr : P.underlying r = some (.slice e)) (he : P.underlying e = some (.int k)) (hcr : P.cellsOf r = 1) (hc : P.cellsOf e = 1)
    (hf : DataW.trod enc P W 0 (fun _ => true) true fuel t [v] = some x) :
    ∃ xss : List (List Int), xss.length ≤ 9223372036854775807 ∧ (∀ xs ∈ xss, xs.length ≤ 9223372036854775807 ∧ ∀ n ∈ xs, (Lit.int k n).wf = true) ∧ Arg W v (.ro (.rows k xss) xss.length 1) := by
  rcases slice_cells ht hcr hf with rfl | ⟨a, len, cap, n, rfl, hl, hm, hel⟩
  · exact ⟨[], by simp, by simp, @VR.ro noForb [] [] W (.rows k []) 0 1 none 0 (fun _ => rfl) (fun p hp => by cases hp) (Nat.le_refl _) (by simp)⟩
  · have hex : ∀ i, ∃ xs : List Int, i < len → (xs.length ≤ 9223372036854775807 ∧ (∀ n ∈ xs, (Lit.int k n).wf = true)) ∧ ∃ c, W.cell? (a.add i) = some c ∧ Arg W c (.ro (.ints k xs) xs.length 1) := by
      intro i
      by_cases hi : i < len
      · obtain ⟨c, y, h1, h2⟩ := hel i hi
        obtain ⟨xs, w1, w2, w3⟩ := ints_of hr he hc h2
        exact ⟨xs, fun _ => ⟨⟨w2, w1⟩, c, h1, w3⟩⟩
      · exact ⟨[], fun h => absurd h hi⟩
    let g : Nat → List Int := fun i => Classical.choose (hex i)
    have hg : ∀ i, i < len → (((g i).length ≤ 9223372036854775807 ∧ (∀ n ∈ g i, (Lit.int k n).wf = true)) ∧ ∃ c, W.cell? (a.add i) = some c ∧ Arg W c (.ro (.ints k (g i)) (g i).length 1)) := fun i hi => Classical.choose_spec (hex i) hi
    refine ⟨(List.range len).map g, by simpa using hm, ?_, ?_⟩
    · intro xs hxs
      simp only [List.mem_map, List.mem_range] at hxs
      obtain ⟨i, hi, rfl⟩ := hxs
      exact (hg i hi).1
    have hlen : ((List.range len).map g).length = len := by simp
    rw [hlen]
    refine @VR.ro noForb [] [] W (.rows k ((List.range len).map g)) len 1 (some a) cap (fun h => by cases h) (fun p hp => ?_) hl (by simp [Cont.len])
    simp only [Option.some.injEq] at hp; subst hp
    intro i r hi
    rw [Nat.zero_add, List.getElem?_map, Option.map_eq_some_iff] at hi
    obtain ⟨j, hj, rfl⟩ := hi
    have hlt : i < len := by simpa using (List.getElem?_eq_some_iff.1 hj).1
    have hji : j = i := by rw [List.getElem?_range hlt] at hj; simpa using hj.symm
    subst hji
    obtain ⟨_, c, h1, h2⟩ := hg j hlt
    have hb := cell_stb h1
    rw [add_block] at hb
    refine ⟨⟨hb, List.not_mem_nil, List.not_mem_nil⟩, ?_⟩
    unfold Arg at h2
    generalize hL : (g j).length = L at h2
    cases h2
    rename_i a1 cap1 q2 q1 q3 q4
    refine ⟨a1, cap1, by first | exact h1 | (rw [hL]; exact h1), by omega, fun h => by first | exact q1 h | (rw [hL]; exact q1 h), fun q hq i n hi => ?_⟩
    exact q2 q hq i n (by simpa using hi)
theorem arg_rows {t r e : TypeId} {k : IntKind} {W : World} {v : Value} {d : DataW H} {p : List MemPlace} (ht : P.underlying t = some (.slice r)) (hr : P.underlying r = some (.slice e)) (he : P.underlying e = some (.int k)) (hcr : P.cellsOf r = 1) (hc : P.cellsOf e = 1)
    {b : Nat} (hv : Value.okWide P W .any b t v) (h : DataW.Trod enc P W 0 (fun _ => true) true t v d p) :
    ∃ xss : List (List Int), xss.length ≤ 9223372036854775807 ∧ (∀ xs ∈ xss, xs.length ≤ 9223372036854775807 ∧ ∀ n ∈ xs, (Lit.int k n).wf = true) ∧ Arg W v (.ro (.rows k xss) xss.length 1) := by
  obtain ⟨a0, len0, cap0, rfl⟩ := okWide_slice ht hv
  obtain ⟨fuel, hf⟩ := h
  exact rows_of ht hr he hcr hc hf
/-- Words, one by one. -/
theorem ws_app (r : List Char) : ∀ (w : List Char), (∀ c ∈ w, c ≠ Char.ofNat 32) → wordsSigns (w ++ Char.ofNat 32 :: r) = w :: wordsSigns r := by
  intro w
  induction w with
  | nil => intro _; rfl
  | cons c t ih =>
    intro h
    have hc : c ≠ Char.ofNat 32 := h c List.mem_cons_self
    have hi := ih fun x hx => h x (List.mem_cons_of_mem _ hx)
    rw [List.cons_append]
    rw [wordsSigns.eq_3 c (t ++ Char.ofNat 32 :: r) (fun h => hc h), hi]
theorem words_make (P : Program) (c : List Char) (rest : List (List Char)) (h : behindMainWord (wordsSigns P.initOrder.toList) = c :: rest) (h1 : (c == "gc".toList) = false) (h2 : (c == "spec".toList) = false) (h3 : (c == "cut".toList) = true) : P.make = some .cut := by
  unfold Program.make
  rw [h]
  simp only []
  rw [if_neg (by rw [h1, h2]; decide), if_pos (by rw [h3]; rfl)]
theorem words_finals (P : Program) (c : List Char) (rest : List (List Char)) (h : behindMainWord (wordsSigns P.initOrder.toList) = c :: rest) (h3 : (c == "carried".toList) = false)
    (h4 : (stripLifts liftWords (c :: rest)) = ([], c :: rest)) (h5 : (c == "cut".toList) = true) : P.liftsFinal = false := by
  have h6 : ((some c : Option (List Char)) == some "carried".toList) = false := by
    have : ((some c : Option (List Char)) == some "carried".toList) = (c == "carried".toList) := rfl
    rw [this, h3]
  unfold Program.liftsFinal Program.headLifts
  rw [h]
  simp only [h4, List.head?_cons, h6, Bool.false_and, Bool.false_or]
  split <;> rfl
theorem words_enter (P : Program) (c : List Char) (rest : List (List Char)) (h : behindMainWord (wordsSigns P.initOrder.toList) = c :: rest) (h1 : (c == "gc".toList) = false) (h2 : (c == "spec".toList) = false) (h3 : (c == "carried".toList) = false)
    (h4 : (stripLifts liftWords (c :: rest)) = ([], c :: rest)) (h5 : (c == "cut".toList) = true) (h6 : P.laysLater = false) (h7 : P.bearsReflect = false) (h8 : P.doorFits [] = true) : P.mayEnter = true := by
  unfold Program.mayEnter
  rw [h]
  simp only [h1, h2, h3, h4, h6, h7, h8]
  have : c = "cut".toList := by simpa using h5
  simp [this]
theorem arg_agg {W : World} {us : List AVal} {cs : List Value} (h : @VRs noForb [] [] W us cs) : Arg W (.agg cs.toArray) (.agg us) := @VRs.agg noForb [] [] W us cs h

end
end Go.Proofs.YtjhofofieiiplaaGreatDoor.Ab
