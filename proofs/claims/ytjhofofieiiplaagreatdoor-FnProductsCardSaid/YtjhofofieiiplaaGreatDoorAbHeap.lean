/-
  The abstract machine: operations on memory are sound.
-/
import Derived.Test.YtjhofofieiiplaaGreatDoorAbStep
namespace Go.Proofs.YtjhofofieiiplaaGreatDoor.Ab
open Go
set_option linter.unusedVariables false
set_option linter.unusedSimpArgs false

theorem Cont.get_len {c : Cont} {i : Nat} {v : AVal} (h : c.get? i = some v) : i < c.len := by
  cases c <;> simp only [Cont.get?] at h <;> split at h <;> first | (rename_i h'; exact (List.getElem?_eq_some_iff.1 h').1) | cases h
theorem Cont.get_cell {c : Cont} {i : Nat} {v : AVal} (h : c.get? i = some v) : v.isCell = true := by
  cases c <;> simp only [Cont.get?] at h <;> split at h <;> first | (simp at h; subst h; rfl) | (simp at h; subst h; rename_i f _; cases f <;> rfl) | cases h
theorem Cont.get_some (c : Cont) {i : Nat} (h : i < c.len) : ∃ v, c.get? i = some v := by
  cases c <;> simp only [Cont.len] at h <;> (simp only [Cont.get?, List.getElem?_eq_getElem h]; exact ⟨_, rfl⟩)

/-- What is read at an address. -/
theorem CR.get [Fb : Forb] {ρ : List Nat} {H : Heap} {w : World} {c : Cont} {off : Nat} {p : Addr} (h : CR ρ w c off p) {i : Nat} {v : AVal} (hv : c.get? (off + i) = some v) : ∃ x, w.cell? (p.add i) = some x ∧ VR ρ H w v x := by
  cases c with
  | ints k xs =>
    simp only [Cont.get?] at hv; split at hv
    · rename_i n hn; simp at hv; subst hv; exact ⟨_, (h i n hn).2, .int _ _⟩
    · cases hv
  | flts k xs =>
    simp only [Cont.get?] at hv; split at hv
    · rename_i n hn; simp at hv; subst hv; obtain ⟨_, n', h1, h2⟩ := h i n hn; exact ⟨_, h1, .flt _ _ _ h2⟩
    · cases hv
  | cpxs k xs =>
    simp only [Cont.get?] at hv; split at hv
    · rename_i n hn; simp at hv; subst hv; obtain ⟨_, a, b, h1, h2, h3⟩ := h i n hn; exact ⟨_, h1, .cpx _ _ _ _ _ h2 h3⟩
    · cases hv
  | bools xs =>
    simp only [Cont.get?] at hv; split at hv
    · rename_i n hn; simp at hv; subst hv; exact ⟨_, (h i n hn).2, .bool _⟩
    · cases hv
  | strs xs =>
    simp only [Cont.get?] at hv; split at hv
    · rename_i n hn; simp at hv; subst hv; exact ⟨_, (h i n hn).2, .str _⟩
    · cases hv
  | rows k xs =>
    simp only [Cont.get?] at hv; split at hv
    · rename_i r hr
      simp at hv; subst hv
      obtain ⟨_, a, cap, h1, h2, h3⟩ := h i r hr
      refine ⟨_, h1, .ro _ _ _ _ _ h3.1 (fun q hq j n hj => ?_) h2 (by simp [Cont.len])⟩
      rw [Nat.zero_add] at hj
      exact h3.2 q hq j n hj
    · cases hv
  | recs sh fs =>
    simp only [Cont.get?] at hv; split at hv
    · rename_i f hf
      simp only [Option.some.injEq] at hv; subst hv
      obtain ⟨_, v, h1, h2⟩ := h i f hf
      exact ⟨v, h1, h2.lent⟩
    · cases hv

theorem cell_ok [Fb : Forb] {ρ : List Nat} {H : Heap} {w : World} (S : Sim ρ H w) {x : AVal} {p : Addr} (hx : VR ρ H w x (.pointer (some p))) {i : Nat} {v : AVal} (h : acell H x i = some v) : ∃ c, w.cell? (p.add i) = some c ∧ VR ρ H w v c := by
  cases hx with
  | top => simp [acell] at h
  | bun => simp [acell] at h
  | rop c off p hc => exact hc.get h
  | rom vs off p cs hl hm hh =>
    simp only [acell, nth_eq] at h
    have hlt : off + i < cs.size := by rw [← hl]; exact (List.getElem?_eq_some_iff.1 h).1
    have h1 := hh _ _ h
    have h2 : cs[off + i]? = some (cs.getD (off + i) Go.undef) := by simp [Array.getD_eq_getD_getElem?, hlt]
    exact ⟨_, (hm i _ h2).2, h1⟩
  | ptr l off ver p hp =>
    simp only [acell, nth_eq] at h
    split at h
    · rename_i blk hb
      simp only [Bool.cond_eq_ite, beq_iff_eq] at h
      split at h
      · rename_i hv
        obtain ⟨blk', h1, h2, h3⟩ := hp
        obtain rfl : blk' = blk := Option.some.inj (h1.symm.trans hb)
        obtain ⟨b, g1, g2⟩ := h3 hv
        obtain ⟨cs, e, k1, k2, k3⟩ := S.blk l b blk' hb g1
        obtain ⟨y, y1, y2⟩ := k3 _ _ h
        refine ⟨y, ?_, y2⟩
        rw [g2, add_lit]
        simp only [World.cell?, k1]
        simpa using y1
      · cases h
    · cases h

theorem run_load {P : Program} {w : World} {p : Addr} {c : Value} (h : w.cell? p = some c) : (load p).run P w = .ok c w := by
  simp [load, Sem.run, h]
theorem cells_ok [Fb : Forb] {P : Program} {ρ : List Nat} {H : Heap} {w : World} (S : Sim ρ H w) {x : AVal} {p : Addr} (hx : VR ρ H w x (.pointer (some p))) : ∀ (n i : Nat) (vs : List AVal) (acc : Array Value), acells H x i n = some vs →
    ∃ cs : List Value, (loadCellsFrom p i n acc).run P w = .ok (acc ++ cs.toArray) w ∧ VRs ρ H w vs cs := by
  intro n
  induction n with
  | zero => intro i vs acc h; simp only [acells, Option.some.injEq] at h; subst h; exact ⟨[], by simp [loadCellsFrom], .nil _ _ _⟩
  | succ n ih =>
    intro i vs acc h
    simp only [acells] at h
    split at h
    · rename_i v hv
      split at h
      · rename_i r hr
        simp only [Option.some.injEq] at h; subst h
        obtain ⟨c, c1, c2⟩ := cell_ok S hx hv
        obtain ⟨cs, k1, k2⟩ := ih (i + 1) r (acc.push c) hr
        refine ⟨c :: cs, ?_, .cons c2 k2⟩
        simp only [loadCellsFrom, Sem.run_bind, run_load c1, Result.andThen_ok, k1]
        congr 1
        simp
      · cases h
    · cases h

theorem VRs.agg [Fb : Forb] {ρ : List Nat} {H : Heap} {w : World} {vs : List AVal} {cs : List Value} (h : VRs ρ H w vs cs) : VR ρ H w (.agg vs) (.agg cs.toArray) := by
  refine .agg _ _ (by simpa using h.1) fun i v hv => ?_
  have hlt : i < cs.length := by rw [← h.1]; exact (List.getElem?_eq_some_iff.1 hv).1
  have := h.2 i v cs[i] hv (List.getElem?_eq_getElem hlt)
  simpa [Array.getD_eq_getD_getElem?, hlt] using this

theorem sureAddr_of [Fb : Forb] {ρ : List Nat} {H : Heap} {w : World} {x : AVal} {c : Value} (hx : VR ρ H w x c) {i : Nat} {v : AVal} (h : acell H x i = some v) : ∃ p, c = .pointer (some p) := by
  cases hx <;> first | exact ⟨_, rfl⟩ | (simp [acell] at h)
theorem isAgg_ok {P : Program} {t : TypeId} {d : TypeDesc} (h : P.underlying t = some d) (w : World) : (isAgg t).run P w = .ok (isAggD d) w := by
  simp only [isAgg, Sem.run_bind, run_underlying h, Result.andThen_ok]
  cases d <;> simp [isAggD]

theorem load_ok [Fb : Forb] {P : Program} {ρ : List Nat} {H : Heap} {w : World} (S : Sim ρ H w) {t : TypeId} {x v : AVal} {c : Value} (h : aload P H t x = some v) (hx : VR ρ H w x c) : PureOk P ρ H w v (Instr.loadAt t c) := by
  unfold aload at h
  split at h
  · rename_i d hd
    simp only [Bool.cond_eq_ite] at h
    split at h
    · rename_i hag
      split at h
      · rename_i n hz
        split at h
        · rename_i vs hvs
          simp only [Option.some.injEq] at h; subst h
          have hp : ∃ p, c = .pointer (some p) := by
            simp only [acells] at hvs
            split at hvs
            · rename_i u hu; exact sureAddr_of hx hu
            · cases hvs
          obtain ⟨p, rfl⟩ := hp
          obtain ⟨cs, k1, k2⟩ := cells_ok (P := P) S hx (n + 1) 0 vs #[] hvs
          refine .same (c := .agg cs.toArray) ?_ k2.agg
          simp [Instr.loadAt, Instr.sureAddr, loadVar, isAgg_ok hd, hag, run_sizeOf' hz, loadCells, k1]
        · cases h
      · cases h
      · cases h
    · rename_i hag
      obtain ⟨p, rfl⟩ := sureAddr_of hx h
      obtain ⟨y, y1, y2⟩ := cell_ok S hx h
      have : p.add 0 = p := by simp [Addr.add]
      rw [this] at y1
      refine .same (c := y) ?_ y2
      simp [Instr.loadAt, Instr.sureAddr, loadVar, isAgg_ok hd, hag, y1]
  · cases h

/-! ### Stores and new blocks -/

theorem cells?_ok [Fb : Forb] {ρ : List Nat} {H : Heap} {w : World} {v : AVal} {c : Value} {vs : List AVal} (h : v.cells? = some vs) (hv : VR ρ H w v c) : VRs ρ H w vs c.cells.toList := by
  cases hv <;> simp only [AVal.cells?, Option.some.injEq, reduceCtorEq] at h <;> subst h
  case agg vs cs hl hh =>
    refine ⟨by simpa [Value.cells] using hl, fun i u x hu hx => ?_⟩
    have := hh i u hu
    simp only [Value.cells, Array.getElem?_toList] at hx
    simpa [Array.getD_eq_getD_getElem?, hx] using this
  case rom vs off p cs hl hm hh => exact .cons (.rom vs off p cs hl hm hh) (.nil _ _ _)
  case ros vs len z a cap cs hl h0 hm hc hz hh => exact .cons (.ros vs len z a cap cs hl h0 hm hc hz hh) (.nil _ _ _)
  case bun i c' len B he hB =>
    have e : c.cells = #[c] := by rcases hB with ⟨_, a, cap, rfl, _⟩ | ⟨_, _, b, arr, clk, rfl, _⟩ | ⟨_, _, _, _, _, _, _, _, rfl, _⟩ <;> rfl
    rw [e]
    exact .cons (.bun i c' len c B he hB) (.nil _ _ _)
  all_goals (refine .cons ?_ (.nil _ _ _); constructor <;> assumption)

theorem store_ok [Fb : Forb] {P : Program} {ρ : List Nat} {H H' : Heap} {w : World} (S : Sim ρ H w) {t : TypeId} {x v : AVal} {cx cv : Value} (h : astore P H t x v = some H') (hx : VR ρ H w x cx) (hv : VR ρ H w v cv) :
    ∃ w', (Instr.storeAt t cx cv).run P w = .ok () w' ∧ Mv ρ H w ρ H' w' ∧ Sim ρ H' w' := by
  unfold astore at h
  simp only [nth_eq, upd_eq, hlen_eq] at h
  split at h
  · rename_i sz l off ver vs hz hvs
    simp only [Bool.cond_eq_ite, beq_iff_eq] at h
    split at h
    · rename_i hl
      split at h
      · rename_i blk hb
        split at h
        · rename_i hver
          split at h
          · rename_i c' hc
            simp only [Option.some.injEq] at h; subst h
            cases hx
            rename_i p hp
            obtain ⟨blk', h1, h2, h3⟩ := hp
            obtain rfl : blk' = blk := Option.some.inj (h1.symm.trans hb)
            obtain ⟨b, g1, g2⟩ := h3 hver
            have hcs := cells?_ok hvs hv
            obtain ⟨w', k1, k2, k3⟩ := Sim.sets (P := P) (l := l) (b := b) (ver := blk'.ver) vs cv.cells.toList 0 off ρ H w blk'.c c' S hb g1 (by simpa using hc) hcs.1 (fun j u z hu hz => hcs.2 j u z hu hz)
            refine ⟨w', ?_, k2, k3⟩
            have hsz : cv.cells.size = sz := by have := hcs.1; simp at this; omega
            subst g2
            simp [Instr.storeAt, Instr.sureAddr, storeVar, hsz, run_sizeOf' hz, k1]
          · cases h
        · cases h
      · cases h
    · cases h
  · cases h

theorem run_newVar {P : Program} {w : World} (t : TypeId) (v : Value) : (newVar t v).run P w = .ok ⟨w.heap.size, 0, none⟩ (w.alloc (Obj.cells v.cells t (0, 0))) := by
  simp [newVar, newRow, newObj, Sem.run]
theorem run_newRow' {P : Program} {w : World} (t : TypeId) (cs : Array Value) : (newRow t cs).run P w = .ok ⟨w.heap.size, 0, none⟩ (w.alloc (Obj.cells cs t (0, 0))) := by
  simp [newRow, newObj, Sem.run]

theorem VRs.br [Fb : Forb] {ρ : List Nat} {H : Heap} {w : World} {vs : List AVal} {cs : Array Value} (h : VRs ρ H w vs cs.toList) : BR ρ H w (.cells vs) cs := by
  refine ⟨by have := h.1; simp at this; simp [BC.len, hlen_eq, this], fun i v hv => ?_⟩
  simp only [BC.get?, nth_eq] at hv
  have hlt : i < cs.size := by have := h.1; simp at this; rw [← this]; exact (List.getElem?_eq_some_iff.1 hv).1
  exact ⟨cs[i], Array.getElem?_eq_getElem hlt, h.2 i v cs[i] hv (by simp [hlt])⟩

/-- A pointer to a new block. -/
theorem newptr [Fb : Forb] {ρ : List Nat} {H : Heap} {w : World} (S : Sim ρ H w) (blk : Blk) (cs : Array Value) (t : TypeId) (h : BR ρ H w blk.c cs) (h0 : blk.ver = 0) :
    G ρ H w (.ptr H.length 0 0) (H ++ [blk]) (.pointer (some ⟨w.heap.size, 0, none⟩)) (w.alloc (Obj.cells cs t (0, 0))) := by
  refine ⟨_, .ptr _ _ _ _ ⟨blk, by simp, by omega, fun _ => ⟨w.heap.size, ?_, rfl⟩⟩, S.push blk cs t h, Mv.push S blk _⟩
  rw [← S.len]; simp
/-- A slice over a new block. -/
theorem newslice [Fb : Forb] {ρ : List Nat} {H : Heap} {w : World} (S : Sim ρ H w) (blk : Blk) (cs : Array Value) (t : TypeId) (h : BR ρ H w blk.c cs) (h0 : blk.ver = 0) (len cap : Nat) (h1 : len ≤ blk.c.len) (h2 : cap ≤ cs.size) (h3 : len ≤ cap) :
    G ρ H w (.own H.length 0 len 0 1) (H ++ [blk]) (.slice (some ⟨w.heap.size, 0, none⟩) len cap) (w.alloc (Obj.cells cs t (0, 0))) := by
  refine ⟨_, .own _ _ _ _ _ _ _ ⟨blk, by simp, by omega, fun _ => ⟨w.heap.size, cs, t, ?_, rfl, by omega, alloc_new w _, by omega⟩⟩ h3, S.push blk cs t h, Mv.push S blk _⟩
  rw [← S.len]; simp

theorem ofCells_VRs [Fb : Forb] (ρ : List Nat) (H : Heap) (w : World) (cs : List Value) : VRs ρ H w (cs.map ofCell) cs := by
  induction cs with
  | nil => exact .nil _ _ _
  | cons c cs ih => exact .cons (ofCell_VR _ _ _ _) ih

theorem zu8_eq : ∀ {cs : List Value} {n : Nat}, zu8 cs = some n → cs = List.replicate n (Value.int .u8 0)
  | [], n, h => by simp only [zu8, Option.some.injEq] at h; subst h; rfl
  | c :: r, n, h => by
    unfold zu8 at h
    split at h
    · rename_i heq; cases heq
    · rename_i r' heq
      simp only [List.cons.injEq] at heq
      obtain ⟨rfl, rfl⟩ := heq
      split at h
      · rename_i m hm
        simp only [Option.some.injEq] at h; subst h
        rw [zu8_eq hm, List.replicate_succ]
      · cases h
    · cases h
theorem alloc_ok [Fb : Forb] {P : Program} {ρ : List Nat} {H H' : Heap} {w : World} (S : Sim ρ H w) {e : TypeId} {v : AVal} (h : aalloc P H e = some (v, H')) :
    ∃ c w', (Instr.alloc e true (.tuple #[])).run P w = .ok c w' ∧ G ρ H w v H' c w' := by
  unfold aalloc at h
  simp only [hlen_eq, snoc_eq, mapL_eq] at h
  split at h
  · rename_i i hi
    split at h
    · rename_i z hz
      simp only [Option.some.injEq, Prod.mk.injEq] at h
      obtain ⟨rfl, rfl⟩ := h
      refine ⟨_, _, ?_, newptr S ⟨azcells z.cells.toList, 0⟩ z.cells e ?_ rfl⟩
      · simp [Instr.alloc, zeroValue, typeInfo, hi, hz, run_newVar]
      · have hb : BR ρ H w (.cells (z.cells.toList.map ofCell)) z.cells := VRs.br (ofCells_VRs _ _ _ _)
        unfold azcells
        rw [mapL_eq]
        cases longer (z.cells.toList.map ofCell) 17 with
        | false => exact hb
        | true =>
          simp only [cond_true]
          split
          · rename_i n hn
            have hz := zu8_eq hn
            have hz2 : z.cells = (List.replicate n (Value.int .u8 0)).toArray := by rw [← hz]
            rw [hz2]
            refine ⟨by simp [BC.len, Cont.len], fun i v hv => ?_⟩
            simp only [BC.get?, Cont.get?] at hv
            split at hv
            · rename_i m hm
              rw [List.getElem?_replicate] at hm
              split at hm
              · rename_i hi
                simp only [Option.some.injEq] at hm hv
                subst hm; subst hv
                exact ⟨_, by simp [hi], .int _ _⟩
              · cases hm
            · cases hv
          · exact hb
    · cases h
  · cases h

theorem box_ok [Fb : Forb] {P : Program} {ρ : List Nat} {H H' : Heap} {w : World} (S : Sim ρ H w) {e : TypeId} {x v : AVal} {cx : Value} (h : abox H x = some (v, H')) (hx : VR ρ H w x cx) :
    ∃ c w', (Instr.box e cx).run P w = .ok c w' ∧ G ρ H w v H' c w' := by
  unfold abox at h
  simp only [hlen_eq, snoc_eq] at h
  split at h
  · rename_i vs hvs
    simp only [Option.some.injEq, Prod.mk.injEq] at h
    obtain ⟨rfl, rfl⟩ := h
    refine ⟨_, _, ?_, newptr S ⟨.cells vs, 0⟩ cx.cells e (VRs.br (cells?_ok hvs hx)) rfl⟩
    simp [Instr.box, run_newVar]
  · cases h

theorem zeros_ok [Fb : Forb] {ρ : List Nat} {H : Heap} {w : World} {z : Value} {n : Nat} {c : Cont} (h : azeros z n = some c) (cs : Array Value) (hs : cs.size = n) (hc : ∀ i, i < n → cs[i]? = some z) : c.len = n ∧ BR ρ H w (.typ c) cs ∧ z.cells = #[z] := by
  have lt : ∀ {α : Type} {x y : α} {i : Nat}, (List.replicate n x)[i]? = some y → i < n ∧ y = x := fun hh => by
    rw [List.getElem?_replicate] at hh
    split at hh
    · simp at hh; exact ⟨by assumption, hh.symm⟩
    · cases hh
  unfold azeros at h
  split at h
  case h_5 s =>
    simp only [Bool.cond_eq_ite, decide_eq_true_eq] at h
    split at h
    · rename_i he
      subst he
      simp only [Option.some.injEq] at h
      subst h
      refine ⟨by simp [Cont.len], ⟨by simp [BC.len, Cont.len, hs], fun i v hv => ?_⟩, rfl⟩
      simp only [BC.get?, Cont.get?] at hv
      split at hv
      case h_2 => cases hv
      rename_i y hy
      obtain ⟨h1, rfl⟩ := lt hy
      simp at hv; subst hv
      exact ⟨_, hc i h1, .str _⟩
    · cases h
  all_goals simp only [Option.some.injEq, reduceCtorEq] at h
  all_goals subst h
  all_goals
    refine ⟨by simp [Cont.len], ⟨by simp [BC.len, Cont.len, hs], fun i v hv => ?_⟩, rfl⟩
    simp only [BC.get?, Cont.get?] at hv
    split at hv
    case h_2 => cases hv
    rename_i y hy
    obtain ⟨h1, rfl⟩ := lt hy
    simp at hv; subst hv
    refine ⟨_, hc i h1, ?_⟩
  · exact .int _ _
  · exact .flt _ _ _ (.inl rfl)
  · exact .cpx _ _ _ _ _ (.inl rfl) (.inl rfl)
  · exact .bool _
  · exact .ro _ _ _ _ _ (fun _ => rfl) (fun p hp => by cases hp) (Nat.le_refl _) (by simp [Cont.len])

theorem range_get {z : Array Value} {x : Value} (hz : z = #[x]) (n i : Nat) (h : i < n) : ((Array.range n).map fun j => z[j % z.size]!)[i]? = some x := by
  subst hz
  simp [Nat.mod_one, h]

theorem wrap_small {n : Int} (h0 : 0 ≤ n) (h : n ≤ 4611686018427387904) : IntKind.i64.wrap n = n := by
  exact IntWalk.i64_in _ (by omega)

theorem make_ok [Fb : Forb] {P : Program} {ρ : List Nat} {H H' : Heap} {w : World} (S : Sim ρ H w) {t : TypeId} {x y v : AVal} {cx cy : Value} (h : amake P H t x y = some (v, H')) (hx : VR ρ H w x cx) (hy : VR ρ H w y cy) :
    ∃ c w', (Instr.makeSlice t cx cy).run P w = .ok c w' ∧ G ρ H w v H' c w' := by
  unfold amake at h
  simp only [hlen_eq, snoc_eq] at h
  split at h
  · rename_i e k n k' m hu
    split at h
    · rename_i i hi
      split at h
      · rename_i z hz
        simp only [Bool.cond_eq_ite, Bool.and_eq_true, decide_eq_true_eq, beq_iff_eq] at h
        split at h
        · rename_i hn
          obtain ⟨hs, h0, ⟨rfl, hb⟩, hm⟩ := hn
          split at h
          · rename_i c hc
            simp only [Option.some.injEq, Prod.mk.injEq] at h
            obtain ⟨rfl, rfl⟩ := h
            cases hx; cases hy
            have hw := wrap_small h0 hm
            have hzc : z.cells = #[z] := (zeros_ok (ρ := ρ) (H := H) (w := w) hc (Array.replicate n.toNat z) (by simp) (fun i hi => by simp [hi])).2.2
            let cs : Array Value := (Array.range n.toNat).map fun j => z.cells[j % z.cells.size]!
            have hcs : ∀ j, j < n.toNat → cs[j]? = some z := fun j hj => range_get hzc _ _ hj
            obtain ⟨g1, g2, _⟩ := zeros_ok (ρ := ρ) (H := H) (w := w) hc cs (by simp [cs]) hcs
            refine ⟨_, _, ?_, newslice S ⟨.typ c, 0⟩ cs e g2 rfl n.toNat n.toNat (by simp [BC.len, g1]) (by simp [cs]) (Nat.le_refl _)⟩
            have ht : (i.bytes : Int) * n ≤ 281474976710656 := by rw [Int.mul_comm]; omega
            have hr : ¬ n.toNat * i.bytes > roomBytes := by
              have : (n.toNat * i.bytes : Int) = n * i.bytes := by rw [Int.toNat_of_nonneg h0]
              simp only [roomBytes]
              omega
            simp [Instr.makeSlice, run_underlying hu, asInt, asIntOf, typeInfo, hi, hw, askRoom, hr, sizeOf, hs, run_newRow', zeroValue, hz]
            have hcond : ¬((n < 0 ∨ 281474976710656 < (i.bytes : Int) * n) ∨ n < 0) := by omega
            rw [if_neg hcond]
            split
            · have : n.toNat = 0 := by omega
              have hr0 : (Array.range 0 : Array Nat) = #[] := by simp
              simp only [cs, this, hr0, List.map_toArray, List.map_nil]
            · rfl
          · cases h
        · cases h
      · cases h
    · cases h
  · cases h

/-! ### A slice that is written out -/

theorem Cont.setLen {c c' : Cont} {i : Nat} {v : AVal} (h : c.set? i v = some c') : c'.len = c.len := (Cont.set_spec h).1

/-- One cell after another is filled. -/
theorem fill_ok [Fb : Forb] {ρ : List Nat} {H : Heap} {w : World} {s : State} {a : Act} (T : TR ρ H w s.t a.tmps) : ∀ (parts : List (Nat × Operand)) (c c' : BC) (cs : Array Value), abuild.fill s.ev c parts = some c' → BR ρ H w c cs → cs.size = c.len →
    ∃ cs', Instr.fill (fun i => some (i * 1, 1)) cs (parts.map fun p => (p.1, a.eval p.2)) = some cs' ∧ BR ρ H w c' cs' ∧ cs'.size = c'.len ∧ c'.len = c.len := by
  intro parts
  induction parts with
  | nil => intro c c' cs h hb hl; simp only [abuild.fill, Option.some.injEq] at h; subst h; exact ⟨cs, rfl, hb, hl, rfl⟩
  | cons p r ih =>
    intro c c' cs h hb hl
    obtain ⟨i, x⟩ := p
    simp only [abuild.fill] at h
    split at h
    · rename_i c1 h1
      obtain ⟨g1, g2, g3, u, gu, g4⟩ := BC.set_spec h1
      have hx := T.ev x
      have hcell := (hx.oneCell g2).2
      have hb1 : BR ρ H w c1 (cs.setIfInBounds i (a.eval x)) := by
        refine ⟨by simp [g1, ← hl], fun j v hv => ?_⟩
        rw [g4] at hv
        by_cases e : j = i
        · subst e
          rw [if_pos rfl] at hv
          simp only [Option.some.injEq] at hv; subst hv
          exact ⟨a.eval x, by simp [hl, g3], gu _ _ _ _ _ hx⟩
        · rw [if_neg e] at hv
          obtain ⟨y, y1, y2⟩ := hb.2 j v hv
          exact ⟨y, by rw [Array.getElem?_setIfInBounds_ne (fun h => e h.symm)]; exact y1, y2⟩
      obtain ⟨cs', k1, k2, k3, k4⟩ := ih c1 c' _ h hb1 (by simp [g1, hl])
      refine ⟨cs', ?_, k2, k3, k4.trans g1⟩
      simp only [List.map_cons, Instr.fill]
      have hi : ¬ (i * 1 + 1 > cs.size) := by omega
      simp only [hcell, List.size_toArray, List.length_cons, List.length_nil, ne_eq, not_true_eq_false, decide_false, Bool.false_or, Nat.zero_add, decide_eq_true_eq, hi, if_false]
      simpa [List.zipIdx] using k1
    · cases h

theorem build_ok [Fb : Forb] {P : Program} {ρ : List Nat} {H' : Heap} {w : World} {s : State} {a : Act} (T : TR ρ s.h w s.t a.tmps) (S : Sim ρ s.h w) {t : TypeId} {len : Nat} {parts : Array (Nat × Operand)} {v : AVal} (h : abuild P s.ev s.h t len parts.toList = some (v, H')) :
    ∃ c w', (Instr.buildSlice t len (parts.map fun (i, x) => (i, a.eval x))).run P w = .ok c w' ∧ G ρ s.h w v H' c w' := by
  unfold abuild at h
  simp only [hlen_eq, snoc_eq] at h
  split at h
  · rename_i e hu
    split at h
    · rename_i i hi
      split at h
      · rename_i z hz
        simp only [Bool.cond_eq_ite, Bool.and_eq_true, decide_eq_true_eq, beq_iff_eq] at h
        split at h
        · rename_i hn
          obtain ⟨hs, hm⟩ := hn
          split at h
          · rename_i c hc
            split at h
            · rename_i c' hc'
              simp only [Option.some.injEq, Prod.mk.injEq] at h
              obtain ⟨rfl, rfl⟩ := h
              have hzc : z.cells = #[z] := (zeros_ok (ρ := ρ) (H := s.h) (w := w) hc (Array.replicate len z) (by simp) (fun i hi => by simp [hi])).2.2
              let cs : Array Value := (Array.range (len * 1)).map fun j => (if len * 1 = 0 then #[] else z.cells)[j % (if len * 1 = 0 then #[] else z.cells).size]!
              have hcs : ∀ j, j < len → cs[j]? = some z := fun j hj => by
                have : len * 1 ≠ 0 := by omega
                simp only [cs, if_neg this]
                exact range_get hzc _ _ (by omega)
              obtain ⟨g1, g2, _⟩ := zeros_ok (ρ := ρ) (H := s.h) (w := w) hc cs (by simp [cs]) hcs
              obtain ⟨cs', k1, k2, k3, k4⟩ := fill_ok T parts.toList (.typ c) c' cs hc' g2 (by simp [BC.len, g1, cs])
              have k4 : c'.len = len := by rw [k4]; exact g1
              refine ⟨_, _, ?_, newslice S ⟨c', 0⟩ cs' e k2 rfl len len (Nat.le_of_eq k4.symm) (by rw [k3, k4]; exact Nat.le_refl _) (Nat.le_refl _)⟩
              have hpl : (parts.map fun (i, x) => (i, a.eval x)).toList = parts.toList.map fun p => (p.1, a.eval p.2) := by simp
              have hbig : ¬ len * 1 > 2 ^ 24 := by omega
              simp only [Instr.buildSlice, Sem.run_bind, run_underlying hu, Result.andThen_ok, run_sizeOf' (show asz P e = some 1 by simp [asz, hi, hs]), hbig, if_false, Sem.run_pure, hpl]
              by_cases h0 : len * 1 = 0
              · have hl0 : len = 0 := by omega
                subst hl0
                simp [cs] at k1
                simp [k1, run_newRow']
              · have h0' : ¬ len = 0 := by omega
                simp [h0', cs] at k1
                simp [h0', zeroValue, typeInfo, hi, hz, k1, run_newRow']
            · cases h
          · cases h
        · cases h
      · cases h
    · cases h
  · cases h

theorem seg_ok (off : Nat) : ∀ (vs : List Value) (k : Nat) (cs : Array Value), ((vs.zipIdx k).foldl (fun (cs : Array Value) (x : Value × Nat) => cs.setIfInBounds (off + x.2) x.1) cs).size = cs.size ∧
    ∀ p, p < cs.size → ((vs.zipIdx k).foldl (fun (cs : Array Value) (x : Value × Nat) => cs.setIfInBounds (off + x.2) x.1) cs)[p]? = if off + k ≤ p ∧ p < off + k + vs.length then vs[p - (off + k)]? else cs[p]? := by
  intro vs
  induction vs with
  | nil =>
    intro k cs
    refine ⟨rfl, fun p hp => ?_⟩
    rw [if_neg (by simp only [List.length_nil]; omega)]
    rfl
  | cons v vs ih =>
    intro k cs
    rw [List.zipIdx_cons, List.foldl_cons]
    obtain ⟨h1, h2⟩ := ih (k + 1) (cs.setIfInBounds (off + k) v)
    refine ⟨by rw [h1]; simp, fun p hp => ?_⟩
    rw [h2 p (by simpa using hp)]
    simp only [List.length_cons]
    by_cases e : p = off + k
    · subst e
      rw [if_neg (by omega), if_pos (by omega), Nat.sub_self]
      simp [hp]
    · by_cases c : off + (k + 1) ≤ p ∧ p < off + (k + 1) + vs.length
      · rw [if_pos c, if_pos (by omega)]
        rw [show p - (off + k) = p - (off + (k + 1)) + 1 from by omega, List.getElem?_cons_succ]
      · rw [if_neg c, if_neg (by omega), Array.getElem?_setIfInBounds_ne (fun h => e h.symm)]
theorem VR.cellsQ [Fb : Forb] {ρ : List Nat} {H : Heap} {w : World} {v : AVal} {c : Value} (h : VR ρ H w v c) {vs : List AVal} (hc : v.cells? = some vs) : vs.length = c.cells.size ∧ ∀ (i : Nat) (u : AVal), vs[i]? = some u → ∃ x, c.cells[i]? = some x ∧ VR ρ H w u x := by
  by_cases hcell : v.isCell = true
  · have h2 := (h.oneCell hcell).2
    have e : vs = [v] := by
      revert hc hcell
      cases v <;> simp [AVal.cells?, AVal.isCell] <;> intro h <;> exact h.symm
    subst e
    rw [h2]
    refine ⟨rfl, fun i u hu => ?_⟩
    cases i with
    | succ i => simp at hu
    | zero =>
      simp only [List.getElem?_cons_zero, Option.some.injEq] at hu; subst hu
      exact ⟨c, rfl, h⟩
  · cases h
    case agg us cs hl ih =>
      simp only [AVal.cells?, Option.some.injEq] at hc; subst hc
      refine ⟨hl, fun i u hu => ?_⟩
      have hlt : i < us.length := (List.getElem?_eq_some_iff.1 hu).1
      have hlt2 : i < cs.size := by omega
      refine ⟨cs[i], by simp [Value.cells, hlt2], ?_⟩
      have := ih i u hu
      rwa [Array.getD_eq_getD_getElem?, Array.getElem?_eq_getElem hlt2, Option.getD_some] at this
    case tup => cases hc
    case top => cases hc
    case undef => cases hc
    all_goals exact absurd rfl hcell
theorem fillC_ok [Fb : Forb] {ρ : List Nat} {H : Heap} {w : World} {s : State} {a : Act} (T : TR ρ H w s.t a.tmps) (sz : Nat) : ∀ (parts : List (Nat × Operand)) (i : Nat) (us pre : List AVal) (cs : Array Value), abcells s.ev sz i parts = some us → pre.length = i * sz →
    (∀ (j : Nat) (v : AVal), pre[j]? = some v → ∃ x, cs[j]? = some x ∧ VR ρ H w v x) → cs.size = (i + parts.length) * sz →
    ∃ cs', Instr.fill (fun i => some (i * sz, sz)) cs (parts.map fun p => (p.1, a.eval p.2)) = some cs' ∧ BR ρ H w (.cells (pre ++ us)) cs' ∧ cs'.size = (i + parts.length) * sz ∧ us.length = parts.length * sz := by
  intro parts
  induction parts with
  | nil =>
    intro i us pre cs h hp hb hs
    simp only [abcells, Option.some.injEq] at h; subst h
    refine ⟨cs, rfl, ⟨?_, fun j v hv => ?_⟩, hs, by simp⟩
    · simp only [BC.len, hlen_eq, List.append_nil, hp, hs]; exact Nat.le_of_eq (by simp)
    · simp only [BC.get?, nth_eq, List.append_nil] at hv; exact hb j v hv
  | cons p r ih =>
    intro i us pre cs h hp hb hs
    obtain ⟨j, x⟩ := p
    simp only [abcells, eqN_eq, hlen_eq, app_eq, Bool.cond_eq_ite, beq_iff_eq] at h
    split at h
    · rename_i hij
      subst hij
      split at h
      · rename_i vs hvs
        split at h
        · rename_i hsz
          split at h
          · rename_i us' hus
            simp only [Option.some.injEq] at h; subst h
            have hx := T.ev x
            obtain ⟨q1, q2⟩ := hx.cellsQ hvs
            rw [List.length_cons] at hs
            have hm : (i + (r.length + 1)) * sz = i * sz + sz + r.length * sz := by rw [Nat.add_mul, Nat.add_mul]; omega
            obtain ⟨g1, g2⟩ := seg_ok (i * sz) (a.eval x).cells.toList 0 cs
            obtain ⟨cs1, hcs1⟩ : ∃ c, c = ((a.eval x).cells.toList.zipIdx 0).foldl (fun (cs : Array Value) (x : Value × Nat) => cs.setIfInBounds (i * sz + x.2) x.1) cs := ⟨_, rfl⟩
            rw [← hcs1] at g1 g2
            have hl : (a.eval x).cells.toList.length = sz := by rw [Array.length_toList]; omega
            obtain ⟨cs', k1, k2, k3, k4⟩ := ih (i + 1) us' (pre ++ vs) cs1 hus (by rw [List.length_append, hp, Nat.add_mul]; omega) (fun j v hv => by
              by_cases c : j < pre.length
              · rw [List.getElem?_append_left c] at hv
                obtain ⟨y, y1, y2⟩ := hb j v hv
                refine ⟨y, ?_, y2⟩
                rw [g2 j (by rw [hs, hm]; omega), if_neg (by omega)]
                exact y1
              · rw [List.getElem?_append_right (by omega)] at hv
                have hlt := (List.getElem?_eq_some_iff.1 hv).1
                obtain ⟨y, y1, y2⟩ := q2 _ v hv
                refine ⟨y, ?_, y2⟩
                rw [g2 j (by rw [hs, hm]; omega), if_pos (by omega)]
                rw [← y1, ← Array.getElem?_toList, hp, Nat.add_zero]) (by rw [g1, hs]; congr 1; omega)
            refine ⟨cs', ?_, by rw [← List.append_assoc]; exact k2, by rw [k3, List.length_cons]; congr 1; omega, by rw [List.length_append, k4, List.length_cons, hsz, Nat.add_mul]; omega⟩
            simp only [List.map_cons, Instr.fill]
            have c1 : ¬ ((a.eval x).cells.size ≠ sz) := by omega
            have c2 : ¬ (i * sz + (a.eval x).cells.size > cs.size) := by rw [hs, hm]; omega
            have c3 : (decide ((a.eval x).cells.size ≠ sz) || decide (i * sz + (a.eval x).cells.size > cs.size)) = false := by simp only [Bool.or_eq_false_iff, decide_eq_false_iff_not]; exact ⟨c1, c2⟩
            rw [c3]
            simp only [Bool.false_eq_true, if_false]
            have e1 : (a.eval x).cells.zipIdx.foldl (fun (cs : Array Value) (x : Value × Nat) => cs.setIfInBounds (i * sz + x.2) x.1) cs = cs1 := by
              rw [hcs1, ← Array.foldl_toList, Array.toList_zipIdx]
            rw [← k1, ← e1]
          · cases h
        · cases h
      · cases h
    · cases h
theorem newsliceZ [Fb : Forb] {ρ : List Nat} {H : Heap} {w : World} (S : Sim ρ H w) (blk : Blk) (cs : Array Value) (t : TypeId) (h : BR ρ H w blk.c cs) (h0 : blk.ver = 0) (len z : Nat) (h1 : len * z ≤ blk.c.len) :
    G ρ H w (.own H.length 0 len 0 z) (H ++ [blk]) (.slice (some ⟨w.heap.size, 0, none⟩) len len) (w.alloc (Obj.cells cs t (0, 0))) := by
  refine ⟨_, .own _ _ _ _ _ _ _ ⟨blk, by simp, by omega, fun _ => ⟨w.heap.size, cs, t, ?_, rfl, by omega, alloc_new w _, by have := h.1; omega⟩⟩ (Nat.le_refl _), S.push blk cs t h, Mv.push S blk _⟩
  rw [← S.len]; simp
/-- A new slice that is only read from now on. -/
theorem newsliceF [Fb : Forb] {ρ : List Nat} {H : Heap} {w : World} (S : Sim ρ H w) (vs : List AVal) (cs : Array Value) (t : TypeId) (h : BR ρ H w (.cells vs) cs) (hsz : vs.length = cs.size) (len z : Nat) (h1 : len * z ≤ vs.length) :
    G ρ H w (.ros vs len z) H (.slice (some ⟨w.heap.size, 0, none⟩) len len) (w.alloc (Obj.cells cs t (0, 0))) := by
  have M : Mv ρ H w ρ H (w.alloc (Obj.cells cs t (0, 0))) := by
    refine ⟨rfl, rfl, rfl, by simp, fun b hb hn => ⟨alloc_old w _ b hb, hn⟩, fun l bl hl => ?_⟩
    exact ⟨bl, hl, Nat.le_refl _, fun _ => ⟨rfl, rfl, fun b cs e hb hh => ⟨cs, by rw [alloc_old w _ b (heap_lt hh)]; exact hh, rfl⟩⟩⟩
  have hno : w.heap.size ∉ ρ := fun hm => by
    obtain ⟨l, hl, he⟩ := List.getElem_of_mem hm
    have hl2 : l < H.length := by rw [← S.len]; exact hl
    obtain ⟨cs2, e2, h2, _⟩ := S.blk l w.heap.size H[l] (List.getElem?_eq_getElem hl2) (by rw [List.getElem?_eq_getElem hl, he])
    have := heap_lt h2
    omega
  have hS : Sim ρ H (w.alloc (Obj.cells cs t (0, 0))) := by
    refine ⟨S.len, S.nodup, S.forbMv M, fun l b blk hl hb => ?_⟩
    obtain ⟨cs2, e2, h2, h3⟩ := S.blk l b blk hl hb
    exact ⟨cs2, e2, by rw [alloc_old w _ b (heap_lt h2)]; exact h2, h3.mv M⟩
  have hall : ∀ (i : Nat) (v : AVal), vs[i]? = some v → VR ρ H w v (cs.getD i Go.undef) := fun i v hv => by
    obtain ⟨x, hx, hr⟩ := h.2 i v (by simpa only [BC.get?, nth_eq] using hv)
    have : cs.getD i Go.undef = x := by simp [Array.getD_eq_getD_getElem?, hx]
    rw [this]; exact hr
  refine ⟨ρ, .ros vs len z _ len cs hsz (fun e => by cases e) (fun p hp i x hx => ?_) (Nat.le_refl _) h1 (fun i v hv => (hall i v hv).mv M), hS, M⟩
  simp only [Option.some.injEq] at hp; subst hp
  refine ⟨⟨by simp, hno, fun hf => ?_⟩, ?_⟩
  · exact Nat.lt_irrefl _ (S.forb _ hf).1
  · show World.cell? _ ((⟨w.heap.size, 0, none⟩ : Addr).add i) = some x
    rw [add_lit]
    simp only [World.cell?, alloc_new]
    simpa using hx
theorem buildC_ok [Fb : Forb] {P : Program} {ρ : List Nat} {H' : Heap} {w : World} {s : State} {a : Act} (T : TR ρ s.h w s.t a.tmps) (S : Sim ρ s.h w) {t : TypeId} {len : Nat} {parts : Array (Nat × Operand)} {v : AVal} (h : abuildC P s.ev s.h t len parts.toList = some (v, H')) :
    ∃ c w', (Instr.buildSlice t len (parts.map fun (i, x) => (i, a.eval x))).run P w = .ok c w' ∧ G ρ s.h w v H' c w' := by
  unfold abuildC at h
  simp only [hlen_eq, snoc_eq, eqN_eq] at h
  split at h
  · rename_i e hu
    split at h
    · rename_i i hi
      split at h
      · rename_i z hz
        simp only [Bool.cond_eq_ite, Bool.and_eq_true, decide_eq_true_eq, beq_iff_eq] at h
        split at h
        · rename_i hn
          obtain ⟨hs, hm, hl, h2⟩ := hn
          split at h
          · rename_i vs hvs
            simp only [Option.some.injEq, Prod.mk.injEq] at h
            obtain ⟨rfl, rfl⟩ := h
            have hpos : 0 < len * i.size := Nat.mul_pos (by omega) (by omega)
            have h0' : ¬ len * i.size = 0 := by omega
            let cs : Array Value := (Array.range (len * i.size)).map fun j => z.cells[j % z.cells.size]!
            obtain ⟨cs', k1, k2, k3, k4⟩ := fillC_ok T i.size parts.toList 0 vs [] cs hvs (by simp) (fun j v hv => by simp at hv) (by simp [cs, hl])
            rw [List.nil_append] at k2
            refine ⟨_, _, ?_, newsliceF S vs cs' e k2 (by rw [k3, k4, hl]; simp [cs]) len i.size (by rw [k4, hl]; exact Nat.le_refl _)⟩
            have hpl : (parts.map fun (i, x) => (i, a.eval x)).toList = parts.toList.map fun p => (p.1, a.eval p.2) := by simp
            have hbig : ¬ len * i.size > 2 ^ 24 := by omega
            simp only [Instr.buildSlice, Sem.run_bind, run_underlying hu, Result.andThen_ok, run_sizeOf' (show asz P e = some i.size by simp [asz, hi]), hbig, if_false, Sem.run_pure, hpl, h0']
            simp [cs] at k1
            simp [zeroValue, typeInfo, hi, hz, k1, run_newRow']
          · cases h
        · cases h
      · cases h
    · cases h
  · cases h
theorem buildA_ok [Fb : Forb] {P : Program} {ρ : List Nat} {H' : Heap} {w : World} {s : State} {a : Act} (T : TR ρ s.h w s.t a.tmps) (S : Sim ρ s.h w) {t : TypeId} {len : Nat} {parts : Array (Nat × Operand)} {v : AVal} (h : abuildA P s.ev s.h t len parts.toList = some (v, H')) :
    ∃ c w', (Instr.buildSlice t len (parts.map fun (i, x) => (i, a.eval x))).run P w = .ok c w' ∧ G ρ s.h w v H' c w' := by
  unfold abuildA at h
  split at h
  · rename_i r hr
    simp only [Option.some.injEq] at h; subst h
    exact build_ok T S hr
  · exact buildC_ok T S h

end Go.Proofs.YtjhofofieiiplaaGreatDoor.Ab
