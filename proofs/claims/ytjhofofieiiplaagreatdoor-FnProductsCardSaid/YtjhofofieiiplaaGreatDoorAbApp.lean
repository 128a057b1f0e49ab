/-
  The abstract machine: append.
-/
import Derived.Test.YtjhofofieiiplaaGreatDoorAbHeap
namespace Go.Proofs.YtjhofofieiiplaaGreatDoor.Ab
open Go
set_option linter.unusedVariables false
set_option linter.unusedSimpArgs false

/-- A block gets a new content, in its place or elsewhere; what pointed to it points to it no more. -/
theorem Sim.renew [Fb : Forb] {ρ : List Nat} {H : Heap} {w w' : World} (S : Sim ρ H w) {l b b' : Nat} {blk : Blk} {c' : BC} {ver' : Nat} {cs' : Array Value} {e' : TypeId} (hl : H[l]? = some blk) (hb : ρ[l]? = some b)
    (ho : w'.os = w.os) (ht : w'.tape = w.tape) (hp : w'.output = w.output) (hsz : w.heap.size ≤ w'.heap.size) (hold : ∀ k, k < w.heap.size → k ≠ b → w'.heap[k]? = w.heap[k]?)
    (hb' : b' = b ∨ w.heap.size ≤ b') (hh : w'.heap[b']? = some (Obj.cells cs' e' (0, 0))) (hbr : BR ρ H w c' cs') (hv : blk.ver < ver') :
    Mv ρ H w (ρ.set l b') (H.set l ⟨c', ver'⟩) w' ∧ Sim (ρ.set l b') (H.set l ⟨c', ver'⟩) w' := by
  have hlt := (List.getElem?_eq_some_iff.1 hl).1
  have hltρ := (List.getElem?_eq_some_iff.1 hb).1
  have hin : ∀ {j x : Nat}, ρ[j]? = some x → x < w.heap.size := fun hx => by
    obtain ⟨_, cs, e, _, h1, _⟩ := S.lt hx
    exact heap_lt h1
  have hne : ∀ {j x : Nat}, ρ[j]? = some x → j ≠ l → x ≠ b := fun hx hj hxb => by
    subst hxb
    exact hj ((List.getElem?_inj (List.getElem?_eq_some_iff.1 hx).1 S.nodup).1 (hx.trans hb.symm))
  have m : Mv ρ H w (ρ.set l b') (H.set l ⟨c', ver'⟩) w' := by
    refine ⟨ho, ht, hp, hsz, fun k hk hn => ⟨hold k hk (fun e => hn (e ▸ List.mem_of_getElem? hb)), fun hm => ?_⟩, fun j bl hj => ?_⟩
    · rcases List.mem_or_eq_of_mem_set hm with h | h
      · exact hn h
      · rcases hb' with h' | h'
        · exact hn (by rw [h, h']; exact List.mem_of_getElem? hb)
        · omega
    · by_cases e : j = l
      · subst e
        obtain rfl : bl = blk := Option.some.inj (hj.symm.trans hl)
        exact ⟨⟨c', ver'⟩, by simp [hlt], Nat.le_of_lt hv, fun he => by simp only at he; omega⟩
      · refine ⟨bl, by rw [List.getElem?_set_ne (fun h => e h.symm)]; exact hj, Nat.le_refl _, fun _ => ⟨by rw [List.getElem?_set_ne (fun h => e h.symm)], rfl, fun x cs t hx hc => ⟨cs, ?_, rfl⟩⟩⟩
        rw [hold x (heap_lt hc) (hne hx e)]; exact hc
  refine ⟨m, by simp [S.len], ?_, S.forbMv m, fun j x bl hj hx => ?_⟩
  · refine List.pairwise_iff_getElem.2 fun i j hi hj hij heq => ?_
    rw [List.length_set] at hi hj
    rw [List.getElem_set, List.getElem_set] at heq
    by_cases hil : l = i
    · subst hil
      have hjl' : ¬ l = j := by omega
      rw [if_pos rfl, if_neg hjl'] at heq
      have hx : ρ[j]? = some b' := by rw [heq]; exact List.getElem?_eq_getElem hj
      have := hne hx (by omega)
      have := hin hx
      omega
    · rw [if_neg hil] at heq
      by_cases hjl : l = j
      · subst hjl
        rw [if_pos rfl] at heq
        have hx : ρ[i]? = some b' := by rw [← heq]; exact List.getElem?_eq_getElem hi
        have := hne hx (by omega)
        have := hin hx
        omega
      · rw [if_neg hjl] at heq
        exact List.pairwise_iff_getElem.1 S.nodup i j hi hj hij heq
  · by_cases e : j = l
    · subst e
      simp [hlt] at hj
      simp [hltρ] at hx
      subst hj hx
      exact ⟨cs', e', hh, hbr.mv m⟩
    · rw [List.getElem?_set_ne (fun h => e h.symm)] at hj hx
      obtain ⟨cs, t, h1, h2⟩ := S.blk j x bl hj hx
      exact ⟨cs, t, by rw [hold x (heap_lt h1) (hne hx e)]; exact h1, h2.mv m⟩

theorem Cont.get_take (c : Cont) {n i : Nat} (h : i < n) : (c.take n).get? i = c.get? i := by
  cases c <;> simp only [Cont.take, Cont.get?, List.getElem?_take, if_pos h]
theorem Cont.get_drop (c : Cont) (n i : Nat) : (c.drop n).get? i = c.get? (n + i) := by
  cases c <;> simp only [Cont.drop, Cont.get?, List.getElem?_drop]
theorem Cont.app_spec {c d r : Cont} (h : c.app? d = some r) : r.len = c.len + d.len ∧ (∀ i, i < c.len → r.get? i = c.get? i) ∧ (∀ i, r.get? (c.len + i) = d.get? i) := by
  cases c <;> cases d <;> simp only [Cont.app?, reduceCtorEq] at h
  case bools.bools xs ys =>
    simp only [Option.some.injEq] at h; subst h
    exact ⟨by simp [Cont.len], fun i hi => by simp only [Cont.len] at hi; simp only [Cont.get?, List.getElem?_append_left hi], fun i => by simp only [Cont.len, Cont.get?]; rw [List.getElem?_append_right (by omega)]; simp⟩
  case strs.strs xs ys =>
    simp only [Option.some.injEq] at h; subst h
    exact ⟨by simp [Cont.len], fun i hi => by simp only [Cont.len] at hi; simp only [Cont.get?, List.getElem?_append_left hi], fun i => by simp only [Cont.len, Cont.get?]; rw [List.getElem?_append_right (by omega)]; simp⟩
  all_goals
    split at h
    · rename_i hk; subst hk
      simp only [Option.some.injEq] at h; subst h
      exact ⟨by simp [Cont.len], fun i hi => by simp only [Cont.len] at hi; simp only [Cont.get?, List.getElem?_append_left hi], fun i => by simp only [Cont.len, Cont.get?]; rw [List.getElem?_append_right (by omega)]; simp⟩
    · cases h

/-- What a slice reads as, read. -/
theorem read_ok [Fb : Forb] {P : Program} {ρ : List Nat} {H : Heap} {w : World} (S : Sim ρ H w) {x : AVal} {cx : Value} {news : Cont} (h : aread H x = some news) (hx : VR ρ H w x cx) :
    ∃ (a : Option Addr) (cap : Nat) (xs : List Value), cx = .slice a news.len cap ∧ xs.length = news.len ∧ (∀ i v, news.get? i = some v → ∃ u, xs[i]? = some u ∧ VR ρ H w v u) ∧
      (Builtin.firstCells 1 news.len cx).run P w = .ok xs.toArray w := by
  have main : ∀ (p : Addr) (n : Nat), (∀ i, i < n → ∃ v u, news.get? i = some v ∧ w.cell? (p.add i) = some u ∧ VR ρ H w v u) →
      ∃ xs : List Value, xs.length = n ∧ (∀ i v, i < n → news.get? i = some v → ∃ u, xs[i]? = some u ∧ VR ρ H w v u) ∧ (∀ acc, (loadCellsFrom p 0 n acc).run P w = .ok (acc ++ xs.toArray) w) := by
    intro p n hn
    have aux : ∀ (m i : Nat), i + m = n → ∃ xs : List Value, xs.length = m ∧ (∀ j v, j < m → news.get? (i + j) = some v → ∃ u, xs[j]? = some u ∧ VR ρ H w v u) ∧ (∀ acc, (loadCellsFrom p i m acc).run P w = .ok (acc ++ xs.toArray) w) := by
      intro m
      induction m with
      | zero => intro i _; exact ⟨[], rfl, fun j v hj => by omega, fun acc => by simp [loadCellsFrom]⟩
      | succ m ih =>
        intro i hi
        obtain ⟨v0, u0, g1, g2, g3⟩ := hn i (by omega)
        obtain ⟨xs, k1, k2, k3⟩ := ih (i + 1) (by omega)
        refine ⟨u0 :: xs, by simp [k1], fun j v hj hv => ?_, fun acc => ?_⟩
        · cases j with
          | zero => rw [Nat.add_zero, g1] at hv; simp only [Option.some.injEq] at hv; subst hv; exact ⟨u0, rfl, g3⟩
          | succ j => exact k2 j v (by omega) (by rw [show i + 1 + j = i + (j + 1) by omega]; exact hv)
        · simp only [loadCellsFrom, Sem.run_bind, run_load g2, Result.andThen_ok, k3]
          congr 1
          simp
    obtain ⟨xs, k1, k2, k3⟩ := aux n 0 (by omega)
    exact ⟨xs, k1, fun i v hi hv => k2 i v hi (by rw [Nat.zero_add]; exact hv), k3⟩
  cases hx <;> simp only [aread, nth_eq, reduceCtorEq] at h
  case ro c len z a cap h0 hc hm hl =>
    simp only [Bool.cond_eq_ite, beq_iff_eq] at h
    split at h
    · rename_i hz; subst hz
      simp only [Option.some.injEq] at h; subst h
      have hlen : (c.take len).len = len := by rw [Cont.len_take]; omega
      cases a with
      | none =>
        have := h0 rfl; subst this
        exact ⟨none, cap, [], by rw [hlen], by rw [hlen]; rfl, fun i v hv => by have := Cont.get_len hv; omega, by rw [hlen]; simp [Builtin.firstCells]⟩
      | some p =>
        obtain ⟨xs, k1, k2, k3⟩ := main p len (fun i hi => by
          obtain ⟨v, hv⟩ := Cont.get_some (c.take len) (show i < (c.take len).len by omega)
          have hv' := hv
          rw [Cont.get_take c hi] at hv'
          obtain ⟨u, u1, u2⟩ := (hc p rfl).get (H := H) (i := i) (by rw [Nat.zero_add]; exact hv')
          exact ⟨v, u, hv, u1, u2⟩)
        refine ⟨some p, cap, xs, by rw [hlen], by rw [hlen]; exact k1, fun i v hv => k2 i v (by have := Cont.get_len hv; omega) hv, ?_⟩
        rw [hlen]
        simp [Builtin.firstCells, loadCells, k3]
    · cases h
  case own l off len ver z a cap ho hm =>
    split at h
    · rename_i c ver' hb
      simp only [Bool.cond_eq_ite, Bool.and_eq_true, beq_iff_eq] at h
      split at h
      · rename_i hh
        obtain ⟨hver, hz⟩ := hh
        subst hz
        simp only [Option.some.injEq] at h; subst h
        obtain ⟨blk, g1, g2, g3⟩ := ho
        have := g1.symm.trans hb
        simp only [Option.some.injEq] at this
        subst this
        obtain ⟨b, cs, e, r1, r2, r3, r4, r5⟩ := g3 hver
        simp only [BC.len] at r3
        have hlen : ((c.drop off).take len).len = len := by rw [Cont.len_take, Cont.len_drop]; omega
        obtain ⟨cs', e', q1, q2⟩ := S.blk l b _ g1 r1
        obtain ⟨xs, k1, k2, k3⟩ := main a len (fun i hi => by
          obtain ⟨v, hv⟩ := Cont.get_some ((c.drop off).take len) (show i < ((c.drop off).take len).len by omega)
          have hv' := hv
          rw [Cont.get_take _ hi, Cont.get_drop] at hv'
          obtain ⟨u, u1, u2⟩ := q2.2 (off + i) v hv'
          refine ⟨v, u, hv, ?_, u2⟩
          rw [r2, add_lit]
          simp only [World.cell?, q1]
          simpa using u1)
        refine ⟨some a, cap, xs, by rw [hlen], by rw [hlen]; exact k1, fun i v hv => k2 i v (by have := Cont.get_len hv; omega) hv, ?_⟩
        rw [hlen]
        simp [Builtin.firstCells, loadCells, k3]
      · cases h
    · cases h

theorem run_choose {P : Program} {w : World} (need old : Nat) (e : TypeId) : (choose (.appendCap need old e)).run P w = .ok (grownCap w need old e) w.drew := by
  simp only [choose, Sem.run, Question.forced]
  rfl
/-- One block more, and nothing else is turned. -/
theorem more_one [Fb : Forb] {ρ : List Nat} {H : Heap} {w w' : World} (S : Sim ρ H w) (ho : w'.os = w.os) (ht : w'.tape = w.tape) (hp : w'.output = w.output) (hs : w'.heap.size = w.heap.size + 1) (hb : ∀ k, k < w.heap.size → w'.heap[k]? = w.heap[k]?) :
    Sim ρ H w' ∧ Mv ρ H w ρ H w' ∧ Stb ρ w' w.heap.size := by
  have M : Mv ρ H w ρ H w' := by
    refine ⟨ho, ht, hp, by omega, fun b h1 hn => ⟨hb b h1, hn⟩, fun l bl hl => ?_⟩
    exact ⟨bl, hl, Nat.le_refl _, fun _ => ⟨rfl, rfl, fun b cs e _ hh => ⟨cs, by rw [hb b (heap_lt hh)]; exact hh, rfl⟩⟩⟩
  refine ⟨⟨S.len, S.nodup, S.forbMv M, fun l b blk hl h1 => ?_⟩, M, by omega, S.fresh, fun hf => Nat.lt_irrefl _ (S.forb _ hf).1⟩
  obtain ⟨cs2, e2, h2, h3⟩ := S.blk l b blk hl h1
  exact ⟨cs2, e2, by rw [hb b (heap_lt h2)]; exact h2, h3.mv M⟩
theorem run_push {P : Program} {w : World} : ∀ (xs : List Int) (s : ByteArray), (xs.foldlM (fun (s : ByteArray) (n : Int) => (pure (s.push (UInt8.ofNat n.toNat)) : Sem ByteArray)) s).run P w = .ok ⟨s.data ++ (xs.map fun n => UInt8.ofNat n.toNat).toArray⟩ w
  | [], s => by simp
  | x :: r, s => by
    rw [List.foldlM_cons]
    simp only [pure_bind]
    rw [run_push r]
    simp [ByteArray.push]
theorem bts_run {P : Program} {w : World} {f : Value → ByteArray → Sem (ForInStep ByteArray)} (hf : ∀ (n : Int) (s : ByteArray), f (.int .u8 n) s = pure (ForInStep.yield (s.push (UInt8.ofNat n.toNat)))) : ∀ (xs : List Int) (s : ByteArray),
    (forIn (xs.map (Value.int .u8)) s f).run P w = .ok ⟨s.data ++ (xs.map fun n => UInt8.ofNat n.toNat).toArray⟩ w
  | [], s => by simp
  | x :: r, s => by
    rw [List.map_cons, List.forIn_cons, hf]
    simp only [pure_bind]
    rw [bts_run hf r]
    simp [ByteArray.push]
theorem bts_ok [Fb : Forb] {P : Program} {ρ : List Nat} {H : Heap} {w : World} (S : Sim ρ H w) {x : AVal} {cx : Value} {xs : List Int} (h : aread H x = some (.ints .u8 xs)) (hx : VR ρ H w x cx) :
    (Conv.bytesToString cx).run P w = .ok (.string (bys.sv xs)) w := by
  obtain ⟨a, cap, vs, rfl, h1, h2, h3⟩ := read_ok (P := P) S h hx
  simp only [Cont.len] at h1 h2 h3
  have hvs : vs = xs.map (Value.int .u8) := by
    apply List.ext_getElem?
    intro i
    rw [List.getElem?_map]
    cases hi : xs[i]? with
    | none =>
      rw [List.getElem?_eq_none_iff] at hi
      rw [Option.map_none, List.getElem?_eq_none_iff]; omega
    | some n =>
      obtain ⟨u, u1, u2⟩ := h2 i (.int .u8 n) (by simp [Cont.get?, hi])
      cases u2
      rw [u1]; rfl
  subst hvs
  cases a with
  | none =>
    simp [Builtin.firstCells] at h3
    subst h3
    simp [Conv.bytesToString, bys.sv]
    rfl
  | some p =>
    simp only [Builtin.firstCells, Nat.mul_one, Cont.len] at h3
    unfold Conv.bytesToString
    simp only [Sem.run_bind, h3, Result.andThen_ok, Cont.len]
    rw [List.forIn_toArray]
    rw [bts_run (fun n s => rfl) xs ByteArray.empty]
    rw [show (ByteArray.empty.data ++ (xs.map fun n => UInt8.ofNat n.toNat).toArray) = (xs.map fun n => UInt8.ofNat n.toNat).toArray by rw [show ByteArray.empty.data = #[] from rfl, Array.empty_append]]
    rfl
/-- A text out of bytes, bytes out of a text. -/
theorem convM_ok [Fb : Forb] {P : Program} {ρ : List Nat} {H : Heap} {w : World} (S : Sim ρ H w) {s d : TypeId} {x v : AVal} {cx : Value} (h : aconvM P H s d x = some v) (hx : VR ρ H w x cx) :
    ∃ c w', (convert s d cx).run P w = .ok c w' ∧ G ρ H w v H c w' := by
  unfold aconvM at h
  split at h
  · rename_i e hs hd
    split at h
    · rename_i he
      split at h
      · rename_i xs hr
        simp only [Option.some.injEq] at h; subst h
        have h1 := bts_ok (P := P) S hr hx
        obtain ⟨a, cap, vs, rfl, _⟩ := read_ok (P := P) S hr hx
        refine ⟨_, w, ?_, ρ, .str _, S, Mv.refl _ _ _⟩
        unfold convert
        simp only [Sem.run_bind, run_underlying hs, run_underlying hd, run_underlying he, Result.andThen_ok]
        exact h1
      · cases h
    · cases h
  · rename_i e hs hd
    split at h
    · rename_i s he
      simp only [Option.some.injEq] at h; subst h
      cases hx
      obtain ⟨cs, hcs⟩ : ∃ cs : Array Value, cs = s.data.map (fun b => Value.int .u8 b.toNat) ++ Array.replicate (grownCap w s.size 0 e - s.size) (.int .u8 0) := ⟨_, rfl⟩
      obtain ⟨w1, hw1⟩ : ∃ w1 : World, w1 = w.drew.alloc (Obj.cells cs e (0, 0)) := ⟨_, rfl⟩
      have hnew : w1.heap[w.heap.size]? = some (Obj.cells cs e (0, 0)) := by rw [hw1]; exact alloc_new w.drew _
      have hrun : (Conv.stringToBytes e s).run P w = .ok (.slice (some ⟨w.heap.size, 0, none⟩) s.size (grownCap w s.size 0 e)) (w1.freeze { block := w.heap.size, off := cs.size } 1) := by
        have hsh : (shape w.heap.size).run P w1 = .ok (some (e, cs.size)) w1 := by simp [shape, Sem.run, World.shape?, hnew]
        have hn : (newRow e cs).run P w.drew = .ok ⟨w.heap.size, 0, none⟩ w1 := by rw [hw1]; exact run_newRow' e cs
        unfold Conv.stringToBytes
        simp only [Sem.run_bind, run_choose, Result.andThen_ok]
        rw [← hcs]
        simp only [hn, Result.andThen_ok, markStringish, Sem.run_bind, hsh, freeze, Sem.run, Sem.run_pure]
      have hf1 : (w1.freeze { block := w.heap.size, off := cs.size } 1).heap.size = w1.heap.size := by simp [World.freeze]
      have hf2 : ∀ k, k ≠ w.heap.size → (w1.freeze { block := w.heap.size, off := cs.size } 1).heap[k]? = w1.heap[k]? := fun k hk => by
        simp only [World.freeze]; rw [if_neg (by decide)]; simp only [Array.getElem?_modify]; rw [if_neg (fun h => hk h.symm)]
      have hf3 : ∃ fz, (w1.freeze { block := w.heap.size, off := cs.size } 1).heap[w.heap.size]? = some (Obj.cells cs e fz) := by
        simp only [World.freeze]; rw [if_neg (by decide)]; simp only [Array.getElem?_modify, if_true, hnew, Option.map_some]; exact ⟨_, rfl⟩
      obtain ⟨w2, hw2⟩ : ∃ w2 : World, w2 = w1.freeze { block := w.heap.size, off := cs.size } 1 := ⟨_, rfl⟩
      rw [← hw2] at hrun hf1 hf2 hf3
      obtain ⟨fz, hf3⟩ := hf3
      have hsize : w1.heap.size = w.heap.size + 1 := by rw [hw1]; simp
      have hos : w2.os = w.os ∧ w2.tape = w.tape ∧ w2.output = w.output := by rw [hw2, hw1]; exact ⟨rfl, rfl, rfl⟩
      obtain ⟨S', M, St⟩ := more_one S (w' := w2) hos.1 hos.2.1 hos.2.2 (by rw [hf1, hsize]) (fun k hk => by
        rw [hf2 k (by omega), hw1]
        exact alloc_old w.drew _ k hk)
      refine ⟨.slice (some ⟨w.heap.size, 0, none⟩) (sby.sv s).length (grownCap w s.size 0 e), w2, ?_, ρ, .ro _ _ _ _ _ (fun hn => by cases hn) (fun p hp => ?_) ?_ ?_, S', M⟩
      · unfold convert
        simp only [Sem.run_bind, run_underlying hs, run_underlying hd, run_underlying he, Result.andThen_ok]
        rw [show (sby.sv s).length = s.size by rw [sby.sv, List.length_map, Array.length_toList]; rfl]
        exact hrun
      · simp only [Option.some.injEq] at hp; subst hp
        intro i n hn
        refine ⟨St, ?_⟩
        rw [add_lit]
        simp only [World.cell?, hf3]
        simp only [Nat.zero_add, sby.sv, List.getElem?_map, Option.map_eq_some_iff] at hn
        obtain ⟨b, hb, rfl⟩ := hn
        have hb2 : s.data[i]? = some b := by simpa using hb
        have hlt : i < s.data.size := (Array.getElem?_eq_some_iff.1 hb2).1
        simp only [Option.isSome_none, Bool.false_eq_true, if_false]
        rw [hcs, Array.getElem?_append_left (by simpa using hlt), Array.getElem?_map, Nat.zero_add, hb2]
        rfl
      · have : s.size ≤ grownCap w s.size 0 e := grownCap_ge w s.size 0 e
        simp [sby.sv]; exact this
      · simp [Cont.len]
    · cases h
  · cases h

theorem run_askRoom {P : Program} {w : World} (n : Nat) : (askRoom n).run P w = .ok () w := by
  unfold askRoom
  split <;> simp [mark, Sem.run]

theorem oneC_of [Fb : Forb] {ρ : List Nat} {H : Heap} {w : World} {v : AVal} {c : Value} (h : VR ρ H w v c) (hc : v.isCell = true) : oneC c = true := (h.oneCell hc).1

/-- Cells stored one behind the other. -/
theorem run_storeCells' {P : Program} (b : Nat) (e : TypeId) : ∀ (xs : List Value) (i off : Nat) (cs : Array Value) (w : World), w.heap[b]? = some (Obj.cells cs e (0, 0)) → off + i + xs.length ≤ cs.size → (∀ x ∈ xs, oneC x = true) →
    ∃ w' cs', (storeCells ⟨b, off, none⟩ xs i).run P w = .ok () w' ∧ w'.heap[b]? = some (Obj.cells cs' e (0, 0)) ∧ cs'.size = cs.size ∧ w'.os = w.os ∧ w'.tape = w.tape ∧ w'.output = w.output ∧ w'.heap.size = w.heap.size ∧
      (∀ k, k ≠ b → w'.heap[k]? = w.heap[k]?) ∧ (∀ j, j < off + i → cs'[j]? = cs[j]?) ∧ (∀ j x, xs[j]? = some x → cs'[off + i + j]? = some x) := by
  intro xs
  induction xs with
  | nil => intro i off cs w h _ _; exact ⟨w, cs, by simp [storeCells], h, rfl, rfl, rfl, rfl, rfl, fun _ _ => rfl, fun _ _ => rfl, fun j x hx => by simp at hx⟩
  | cons x xs ih =>
    intro i off cs w h hl h1
    have hlt : off + i < cs.size := by simp at hl; omega
    have hw := setCell_heap (off := off + i) x h
    obtain ⟨w', cs', r1, r2, r3, r4, r5, r6, r7, r8, r9, r10⟩ := ih (i + 1) off (cs.setIfInBounds (off + i) x) (w.setCell ⟨b, off + i, none⟩ x) hw (by simp at hl ⊢; omega) (fun y hy => h1 y (List.mem_cons_of_mem _ hy))
    refine ⟨w', cs', ?_, r2, by simpa using r3, r4, r5, r6, by simpa [World.setCell] using r7, fun k hk => (r8 k hk).trans (setCell_other x hk), fun j hj => ?_, fun j y hy => ?_⟩
    · simp only [storeCells, Sem.run_bind, add_lit]
      rw [run_store1 (y := cs[off + i]) (by simp [World.cell?, h, hlt]) (by simp [World.frozen?, h]) (h1 x List.mem_cons_self)]
      simpa using r1
    · rw [r9 j (by omega), Array.getElem?_setIfInBounds_ne (by omega)]
    · cases j with
      | zero => simp at hy; subst hy; rw [Nat.add_zero, r9 (off + i) (by omega)]; simp [hlt]
      | succ j => rw [show off + i + (j + 1) = off + (i + 1) + j by omega]; exact r10 j y (by simpa using hy)

theorem run_grow {P : Program} (w : World) (t ty e : TypeId) (i : TypeInfo) (z : Value) (ht : P.underlying t = some (.slice e)) (hi : P.info? e = some i) (hz : i.zero = some z) (hs : i.size = 1)
    (sa ax : Option Addr) (sLen sCap n capx : Nat) (xo xs : List Value) (ho : (Builtin.firstCells 1 sLen (.slice sa sLen sCap)).run P w.drew = .ok xo.toArray w.drew) (hx : (Builtin.firstCells 1 n (.slice ax n capx)).run P w.drew = .ok xs.toArray w.drew)
    (hg : sCap < sLen + n) (h62 : sLen + n ≤ 4611686018427387904) (hb : (sLen + n) * i.bytes ≤ 140737488355328) :
    (Builtin.append_ #[t, t] ty #[.slice sa sLen sCap, .slice ax n capx]).run P w = .ok (.slice (some ⟨w.heap.size, 0, none⟩) (sLen + n) (grownCap w (sLen + n) sCap e))
      (w.drew.alloc (Obj.cells (xo.toArray ++ xs.toArray ++ Builtin.zeroCells z.cells (grownCap w (sLen + n) sCap e - (sLen + n))) e (0, 0))) := by
  have hn : ¬ (sLen + n ≤ sCap) := by omega
  have h63' : ¬ (9223372036854775807 < ((sLen : Int) + (n : Int))) := by omega
  have h48' : ¬ (281474976710656 < Builtin.nextslicecap (sLen + n) sCap * i.bytes) := by have := growslice_fits hg hb; omega
  simp [Builtin.append_, run_underlying ht, sizeOf, typeInfo, zeroValue, hi, hz, hs, Builtin.lenOf, hn, h63', h48', Question.forced, ho, hx, newRow, grownCap]
  congr 2
  apply Array.ext'
  simp [List.append_assoc]

theorem read0_ro {H : Heap} {c : Cont} {z : Nat} {news : Cont} (h : aread H (.ro c 0 z) = some news) : news.len = 0 := by
  simp only [aread, Bool.cond_eq_ite] at h
  split at h
  · simp only [Option.some.injEq] at h; subst h; rw [Cont.len_take]; omega
  · cases h
theorem read0_own {H : Heap} {l off ver z : Nat} {news : Cont} (h : aread H (.own l off 0 ver z) = some news) : news.len = 0 := by
  simp only [aread, Bool.cond_eq_ite] at h
  split at h
  · split at h
    · simp only [Option.some.injEq] at h; subst h; rw [Cont.len_take]; omega
    · cases h
  · cases h
theorem run_app0 {P : Program} (w : World) (t ty e : TypeId) (i : TypeInfo) (ht : P.underlying t = some (.slice e)) (hi : P.info? e = some i) (hs : i.size = 1) (sa ax : Option Addr) (cap : Nat) :
    (Builtin.append_ #[t, t] ty #[.slice sa 0 0, .slice ax 0 cap]).run P w = .ok (.slice sa 0 0) w := by
  cases sa <;> cases ax <;> simp [Builtin.append_, run_underlying ht, run_sizeOf' (show asz P e = some 1 by simp [asz, hi, hs]), Builtin.lenOf, Builtin.firstCells, loadCells, loadCellsFrom, storeCells]

theorem append_ok [Fb : Forb] {P : Program} {ρ : List Nat} {H H' : Heap} {w : World} (S : Sim ρ H w) {t : TypeId} {s x v : AVal} {cs cx : Value} (h : aappend P H t s x = some (v, H')) (hs : VR ρ H w s cs) (hx : VR ρ H w x cx) (ty : TypeId) :
    ∃ c w', (Builtin.append_ #[t, t] ty #[cs, cx]).run P w = .ok c w' ∧ G ρ H w v H' c w' := by
  unfold aappend at h
  simp only [nth_eq, upd_eq, hlen_eq, snoc_eq] at h
  split at h
  · rename_i e hu
    split at h
    · rename_i i hi
      split at h
      · rename_i z hz
        simp only [Bool.cond_eq_ite, Bool.and_eq_true, beq_iff_eq] at h
        split at h
        · rename_i hsz
          obtain ⟨hsz, hzs⟩ := hsz
          split at h
          · rename_i l off len ver z1 news hnews
            split at h
            · rename_i c ver' hb
              simp only [Bool.and_eq_true, decide_eq_true_eq, beq_iff_eq] at h
              split at h
              · rename_i hh
                obtain ⟨⟨rfl, rfl, rfl⟩, hbig, hbytes⟩ := hh
                split at h
                · rename_i c' hc'
                  simp only [Option.some.injEq, Prod.mk.injEq] at h
                  obtain ⟨rfl, rfl⟩ := h
                  obtain ⟨ax, cap, xs, rfl, hxl, hxv, hxr⟩ := read_ok (P := P) S hnews hx
                  cases hs
                  rename_i a capS hm ho
                  obtain ⟨blk, g1, g2, g3⟩ := ho
                  have := g1.symm.trans hb
                  simp only [Option.some.injEq] at this
                  subst this
                  obtain ⟨b, cs, e0, r1, rfl, r3, r4, r5⟩ := g3 rfl
                  simp only [BC.len, Nat.zero_add, Nat.mul_one] at r3 r5
                  obtain ⟨a1, a2, a3⟩ := Cont.app_spec hc'
                  have htl : (c.take len).len = len := by rw [Cont.len_take]; omega
                  rw [htl] at a1 a2 a3
                  obtain ⟨cs0, e1, q1, q2⟩ := S.blk l b _ g1 r1
                  have heq : cs0 = cs := by
                    have := q1.symm.trans r4
                    simp only [Option.some.injEq, Obj.cells.injEq] at this
                    exact this.1
                  subst heq
                  have hxc : ∀ y ∈ xs, oneC y = true := by
                    intro y hy
                    obtain ⟨j, hj⟩ := List.mem_iff_getElem?.1 hy
                    have hjl := (List.getElem?_eq_some_iff.1 hj).1
                    obtain ⟨u, hu⟩ := Cont.get_some news (show j < news.len by omega)
                    obtain ⟨y', y1, y2⟩ := hxv j u hu
                    obtain rfl : y' = y := Option.some.inj (y1.symm.trans hj)
                    exact oneC_of y2 (Cont.get_cell hu)
                  by_cases hroom : len + news.len ≤ capS
                  · obtain ⟨w', cs', k1, k2, k3, k4, k5, k6, k7, k8, k9, k10⟩ := run_storeCells' (P := P) b _ xs 0 len cs0 w q1 (by omega) hxc
                    have hbr : BR ρ H w (.typ c') cs' := by
                      refine ⟨by simp only [BC.len]; omega, fun j u hu => ?_⟩
                      simp only [BC.get?] at hu
                      have hjl := Cont.get_len hu
                      by_cases hj : j < len
                      · rw [a2 j hj, Cont.get_take c hj] at hu
                        obtain ⟨y, y1, y2⟩ := q2.2 j u hu
                        exact ⟨y, by rw [k9 j (by omega)]; exact y1, y2⟩
                      · obtain ⟨m, rfl⟩ : ∃ m, j = len + m := ⟨j - len, by omega⟩
                        rw [a3] at hu
                        obtain ⟨y, y1, y2⟩ := hxv m u hu
                        exact ⟨y, by have := k10 m y y1; rwa [Nat.add_zero] at this, y2⟩
                    obtain ⟨m1, m2⟩ := Sim.renew S (w' := w') (ver' := ver + 1) g1 r1 k4 k5 k6 (by omega) (fun k _ hk => k8 k hk) (.inl rfl) k2 hbr (Nat.lt_succ_self _)
                    have hlt := (List.getElem?_eq_some_iff.1 g1).1
                    have hltρ := (List.getElem?_eq_some_iff.1 r1).1
                    refine ⟨.slice (some ⟨b, 0, none⟩) (len + news.len) capS, w', ?_, _, .own _ _ _ _ _ _ _ ⟨⟨.typ c', ver + 1⟩, by simp [hlt], Nat.le_refl _, fun _ => ⟨b, cs', _, by simp [hltρ], rfl, by simp only [BC.len]; omega, k2, by omega⟩⟩ hroom, m2, m1⟩
                    simp [Builtin.append_, run_underlying hu, run_sizeOf' (show asz P e = some 1 by simp [asz, hi, hsz]), Builtin.lenOf, hroom, hxr, add_lit, k1]
                  · have hd := Mv.drew ρ H w
                    have Sd := S.drew
                    obtain ⟨ax', cap', xs, hcx, hxl, hxv, hxr⟩ := read_ok (P := P) Sd hnews (hx.mv hd)
                    simp only [Value.slice.injEq] at hcx
                    obtain ⟨rfl, _, rfl⟩ := hcx
                    have ho' : VR ρ H w.drew (.own l 0 len ver 1) (.slice (some ⟨b, 0, none⟩) len capS) := (VR.own l 0 len ver 1 ⟨b, 0, none⟩ capS ⟨_, g1, g2, g3⟩ hm).mv hd
                    obtain ⟨ao, capo, xo, hco, hol, hov, hor⟩ := read_ok (P := P) (news := (c.drop 0).take len) Sd (by simp [aread, nth_eq, hb]) ho'
                    have htl' : ((c.drop 0).take len).len = len := by rw [Cont.len_take, Cont.len_drop]; omega
                    rw [htl'] at hco hol hor
                    simp only [Value.slice.injEq] at hco
                    obtain ⟨rfl, _, rfl⟩ := hco
                    have hrun := run_grow (P := P) w t ty e i z hu hi hz hsz _ _ len capS news.len cap xo xs hor hxr (by omega) hbig hbytes
                    refine ⟨_, _, hrun, ?_⟩
                    have hge := grownCap_ge w (len + news.len) capS e
                    generalize grownCap w (len + news.len) capS e = gc at *
                    have hbr : BR ρ H w.drew (.typ c') (xo.toArray ++ xs.toArray ++ Builtin.zeroCells z.cells (gc - (len + news.len))) := by
                      refine ⟨by simp only [BC.len, Array.size_append, List.size_toArray]; omega, fun j u hu => ?_⟩
                      simp only [BC.get?] at hu
                      have hjl := Cont.get_len hu
                      by_cases hj : j < len
                      · rw [a2 j hj, Cont.get_take c hj] at hu
                        obtain ⟨y, y1, y2⟩ := hov j u (by rw [Cont.get_take _ hj, Cont.get_drop, Nat.zero_add]; exact hu)
                        refine ⟨y, ?_, y2⟩
                        rw [Array.getElem?_append_left (by simp; omega), Array.getElem?_append_left (by simp; omega)]
                        simpa using y1
                      · obtain ⟨m, rfl⟩ : ∃ m, j = len + m := ⟨j - len, by omega⟩
                        rw [a3] at hu
                        have hml := Cont.get_len hu
                        obtain ⟨y, y1, y2⟩ := hxv m u hu
                        refine ⟨y, ?_, y2⟩
                        rw [Array.getElem?_append_left (by simp; omega), Array.getElem?_append_right (by simp; omega)]
                        simp only [List.size_toArray, hol, Nat.add_sub_cancel_left]
                        simpa using y1
                    have hlt := (List.getElem?_eq_some_iff.1 g1).1
                    have hltρ := (List.getElem?_eq_some_iff.1 r1).1
                    obtain ⟨m1, m2⟩ := Sim.renew Sd (w' := w.drew.alloc (Obj.cells (xo.toArray ++ xs.toArray ++ Builtin.zeroCells z.cells (gc - (len + news.len))) e (0, 0))) (ver' := ver + 1) (b' := w.heap.size) g1 r1 rfl rfl rfl (by simp) (fun k hk _ => alloc_old _ _ k hk) (.inr (Nat.le_refl _)) (alloc_new w.drew _) hbr (Nat.lt_succ_self _)
                    refine ⟨_, .own _ _ _ _ _ _ _ ⟨⟨.typ c', ver + 1⟩, by simp [hlt], Nat.le_refl _, fun _ => ⟨w.heap.size, _, _, by simp [hltρ], rfl, by simp only [BC.len]; omega, alloc_new w.drew _, ?_⟩⟩ hge, m2, hd.trans m1⟩
                    simp only [Array.size_append, List.size_toArray, size_zeroCells, hzs]
                    omega
                · cases h
              · cases h
            · cases h
          · rename_i news hnews
            split at h
            · rename_i c0 z0
              simp only [Option.some.injEq, Prod.mk.injEq] at h
              obtain ⟨rfl, rfl⟩ := h
              cases hs
              rename_i sa
              obtain ⟨ax, cap, xs, hcx, hxl, hxv, hxr⟩ := read_ok (P := P) S hnews hx
              have hn0 : news.len = 0 := read0_ro hnews
              refine ⟨.slice sa 0 0, w, ?_, _, .emp _, S, Mv.refl _ _ _⟩
              rw [hcx, hn0]
              exact run_app0 w t ty e i hu hi hsz sa ax cap
            · rename_i l0 off0 ver0 z0
              simp only [Option.some.injEq, Prod.mk.injEq] at h
              obtain ⟨rfl, rfl⟩ := h
              cases hs
              rename_i sa
              obtain ⟨ax, cap, xs, hcx, hxl, hxv, hxr⟩ := read_ok (P := P) S hnews hx
              have hn0 : news.len = 0 := read0_own hnews
              refine ⟨.slice sa 0 0, w, ?_, _, .emp _, S, Mv.refl _ _ _⟩
              rw [hcx, hn0]
              exact run_app0 w t ty e i hu hi hsz sa ax cap
            · simp only [Bool.and_eq_true, decide_eq_true_eq] at h
              split at h
              · rename_i hh
                obtain ⟨h0, hbig, hbytes⟩ := hh
                simp only [Option.some.injEq, Prod.mk.injEq] at h
                obtain ⟨rfl, rfl⟩ := h
                cases hs
                rename_i sa
                have hd := Mv.drew ρ H w
                have Sd := S.drew
                obtain ⟨ax, cap, xs, rfl, hxl, hxv, hxr⟩ := read_ok (P := P) Sd hnews (hx.mv hd)
                have hrun := run_grow (P := P) w t ty e i z hu hi hz hsz sa ax 0 0 news.len cap [] xs (by cases sa <;> simp [Builtin.firstCells, loadCells, loadCellsFrom]) hxr (by omega) (by omega) (by simpa using hbytes)
                rw [Nat.zero_add] at hrun
                refine ⟨_, _, hrun, ?_⟩
                have hge := grownCap_ge w news.len 0 e
                generalize grownCap w news.len 0 e = gc at *
                have hbr : BR ρ H w.drew (.typ news) (([] : List Value).toArray ++ xs.toArray ++ Builtin.zeroCells z.cells (gc - news.len)) := by
                  refine ⟨by simp only [BC.len, Array.size_append, List.size_toArray]; omega, fun j u hu => ?_⟩
                  simp only [BC.get?] at hu
                  have hjl := Cont.get_len hu
                  obtain ⟨y, y1, y2⟩ := hxv j u hu
                  refine ⟨y, ?_, y2⟩
                  rw [Array.getElem?_append_left (by simp; omega)]
                  simpa using y1
                obtain ⟨ρ', g1, g2, g3⟩ := newslice Sd ⟨.typ news, 0⟩ _ e hbr rfl news.len gc (Nat.le_refl _) (by simp only [Array.size_append, List.size_toArray, size_zeroCells, hzs, List.length_nil]; omega) hge
                exact ⟨ρ', g1, g2, hd.trans g3⟩
              · cases h
          · rename_i news hnews
            simp only [Bool.and_eq_true, decide_eq_true_eq] at h
            split at h
            · rename_i hh
              obtain ⟨h0, hbig, hbytes⟩ := hh
              simp only [Option.some.injEq, Prod.mk.injEq] at h
              obtain ⟨rfl, rfl⟩ := h
              cases hs
              have hd := Mv.drew ρ H w
              have Sd := S.drew
              obtain ⟨ax, cap, xs, rfl, hxl, hxv, hxr⟩ := read_ok (P := P) Sd hnews (hx.mv hd)
              have hrun := run_grow (P := P) w t ty e i z hu hi hz hsz none ax 0 0 news.len cap [] xs (by simp [Builtin.firstCells]) hxr (by omega) (by omega) (by simpa using hbytes)
              rw [Nat.zero_add] at hrun
              refine ⟨_, _, hrun, ?_⟩
              have hge := grownCap_ge w news.len 0 e
              generalize grownCap w news.len 0 e = gc at *
              have hbr : BR ρ H w.drew (.typ news) (([] : List Value).toArray ++ xs.toArray ++ Builtin.zeroCells z.cells (gc - news.len)) := by
                refine ⟨by simp only [BC.len, Array.size_append, List.size_toArray]; omega, fun j u hu => ?_⟩
                simp only [BC.get?] at hu
                have hjl := Cont.get_len hu
                obtain ⟨y, y1, y2⟩ := hxv j u hu
                refine ⟨y, ?_, y2⟩
                rw [Array.getElem?_append_left (by simp; omega)]
                simpa using y1
              obtain ⟨ρ', g1, g2, g3⟩ := newslice Sd ⟨.typ news, 0⟩ _ e hbr rfl news.len gc (Nat.le_refl _) (by simp only [Array.size_append, List.size_toArray, size_zeroCells, hzs, List.length_nil]; omega) hge
              exact ⟨ρ', g1, g2, hd.trans g3⟩
            · cases h
          · cases h
        · cases h
      · cases h
    · cases h
  · cases h

theorem abset_zeros (k : IntKind) : ∀ (n off : Nat) (xs : List Int), off + n ≤ xs.length →
    abset (.typ (.ints k xs)) off (List.replicate n (.int k 0)) = some (.typ (.ints k (xs.take off ++ (List.replicate n 0 ++ xs.drop (off + n)))))
  | 0, off, xs, h => by simp [abset]
  | n + 1, off, xs, h => by
    have hlt : off < xs.length := by omega
    have h1 : BC.set? (.typ (.ints k xs)) off (.int k 0) = some (.typ (.ints k (xs.set off 0))) := by simp [BC.set?, Cont.set?, hlt]
    have ih := abset_zeros k n (off + 1) (xs.set off 0) (by simp; omega)
    simp only [List.replicate_succ, abset, h1, ih, Option.some.injEq, BC.typ.injEq, Cont.ints.injEq, true_and]
    have e1 : (xs.set off 0).take (off + 1) = xs.take off ++ [0] := by
      rw [List.take_add_one, List.take_set_of_le (Nat.le_refl _)]
      simp [hlt]
    have e2 : (xs.set off 0).drop (off + 1 + n) = xs.drop (off + (n + 1)) := by
      rw [List.drop_set_of_lt (by omega)]
      congr 1; omega
    rw [e1, e2]
    simp

theorem abset_ints (k : IntKind) : ∀ (ys : List Int) (off : Nat) (xs : List Int), off + ys.length ≤ xs.length →
    abset (.typ (.ints k xs)) off (ys.map fun y => AVal.int k y) = some (.typ (.ints k (cpy xs off ys.length ys)))
  | [], off, xs, h => by simp [abset, cpy]
  | y :: ys, off, xs, h => by
    rw [List.length_cons] at h
    have hlt : off < xs.length := by omega
    have h1 : BC.set? (.typ (.ints k xs)) off (.int k y) = some (.typ (.ints k (xs.set off y))) := by simp [BC.set?, Cont.set?, hlt]
    have ih := abset_ints k ys (off + 1) (xs.set off y) (by simp; omega)
    simp only [List.map_cons, abset, h1, ih, Option.some.injEq, BC.typ.injEq, Cont.ints.injEq, true_and]
    unfold cpy
    have e1 : (xs.set off y).take (off + 1) = xs.take off ++ [y] := by
      rw [List.take_add_one, List.take_set_of_le (Nat.le_refl _)]
      simp [hlt]
    have e2 : (xs.set off y).drop (off + 1 + ys.length) = xs.drop (off + (ys.length + 1)) := by
      rw [List.drop_set_of_lt (by omega)]
      congr 1; omega
    rw [e1, e2, List.length_cons]
    simp
theorem abset_bools : ∀ (ys : List Bool) (off : Nat) (xs : List Bool), off + ys.length ≤ xs.length →
    abset (.typ (.bools xs)) off (ys.map fun y => AVal.bool y) = some (.typ (.bools (cpy xs off ys.length ys)))
  | [], off, xs, h => by simp [abset, cpy]
  | y :: ys, off, xs, h => by
    rw [List.length_cons] at h
    have hlt : off < xs.length := by omega
    have h1 : BC.set? (.typ (.bools xs)) off (.bool y) = some (.typ (.bools (xs.set off y))) := by simp [BC.set?, Cont.set?, hlt]
    have ih := abset_bools ys (off + 1) (xs.set off y) (by simp; omega)
    simp only [List.map_cons, abset, h1, ih, Option.some.injEq, BC.typ.injEq, Cont.bools.injEq, true_and]
    unfold cpy
    have e1 : (xs.set off y).take (off + 1) = xs.take off ++ [y] := by
      rw [List.take_add_one, List.take_set_of_le (Nat.le_refl _)]
      simp [hlt]
    have e2 : (xs.set off y).drop (off + 1 + ys.length) = xs.drop (off + (ys.length + 1)) := by
      rw [List.drop_set_of_lt (by omega)]
      congr 1; omega
    rw [e1, e2, List.length_cons]
    simp
theorem VR.shrink [Fb : Forb] {ρ : List Nat} {H : Heap} {w : World} {x : AVal} {a : Option Addr} {len cap : Nat} (n : Nat) (hn : n ≤ len) (h : VR ρ H w x (.slice a len cap)) {c : Cont} (hr : aread H x = some c) : VR ρ H w (x.shrink n) (.slice a n cap) := by
  cases h with
  | ro c0 _ z _ _ h0 h hm hl =>
    simp only [AVal.shrink, Nat.min_eq_left hn]
    exact .ro c0 n z a cap (fun e => by have := h0 e; omega) h (by omega) (Nat.le_trans (Nat.mul_le_mul_right _ hn) hl)
  | own l off _ ver z a0 _ ho hm =>
    simp only [AVal.shrink, Nat.min_eq_left hn]
    obtain ⟨blk, g1, g2, g3⟩ := ho
    refine .own l off n ver z a0 cap ⟨blk, g1, g2, fun e => ?_⟩ (by omega)
    obtain ⟨b, cs, t, r1, r2, r3, r4, r5⟩ := g3 e
    exact ⟨b, cs, t, r1, r2, Nat.le_trans (Nat.add_le_add_left (Nat.mul_le_mul_right _ hn) _) r3, r4, r5⟩
  | _ => simp [aread] at hr
theorem copy_ok [Fb : Forb] {P : Program} {ρ : List Nat} {H H' : Heap} {w : World} (S : Sim ρ H w) {t : TypeId} {x y v : AVal} {cx cy : Value} (h : acopy P H t x y = some (v, H')) (hx : VR ρ H w x cx) (hy : VR ρ H w y cy) (t' ty : TypeId) :
    ∃ c w', (Builtin.copy_ #[t, t'] ty #[cx, cy]).run P w = .ok c w' ∧ G ρ H w v H' c w' := by
  unfold acopy at h
  simp only [nth_eq, upd_eq] at h
  split at h
  · rename_i e l off len ver z hu
    split at h
    · rename_i i hi
      split at h
      · rename_i _ ys0 h0
        split at h
        · rename_i k ys h1
          split at h
          · rename_i k' xs ver' hb
            split at h
            · rename_i hk
              subst hk
              simp only [Bool.cond_eq_ite, Bool.and_eq_true, beq_iff_eq, decide_eq_true_eq] at h
              split at h
              · rename_i hh
                obtain ⟨⟨rfl, rfl, hsz⟩, hle, hyl⟩ := hh
                simp only [Option.some.injEq, Prod.mk.injEq] at h
                obtain ⟨rfl, rfl⟩ := h
                cases hx
                rename_i a cap hm ho
                obtain ⟨blk, g1, g2, g3⟩ := ho
                have := g1.symm.trans hb
                simp only [Option.some.injEq] at this
                subst this
                obtain ⟨b, cs, e0, r1, rfl, r3, r4, r5⟩ := g3 rfl
                obtain ⟨a0, cap0, xs0, rfl, q2, q3, q4⟩ := read_ok (P := P) S h0 hy
                simp only [Cont.len] at hy q2 q4
                have hmin : min ys0.length len ≤ ys0.length := Nat.min_le_left _ _
                have hy2 := hy.shrink (min ys0.length len) hmin h0
                obtain ⟨a1, cap1, xs1, hc1, p2, p3, p4⟩ := read_ok (P := P) S h1 hy2
                simp only [Cont.len, hyl] at hc1 p2 p4
                simp only [Value.slice.injEq] at hc1
                obtain ⟨rfl, _, rfl⟩ := hc1
                have hfc : ∀ n m, Builtin.firstCells 1 n (.slice a0 m cap0) = Builtin.firstCells 1 n (.slice a0 ys0.length cap0) := fun n m => by cases a0 <;> rfl
                rw [hfc] at p4
                have hab := abset_ints k ys off xs (by rw [hyl]; have := Nat.min_le_right ys0.length len; omega)
                obtain ⟨w', k1, k2, k3⟩ := Sim.sets (P := P) (l := l) (b := b) (ver := ver) (ys.map fun y => AVal.int k y) xs1 0 off ρ H w (.typ (.ints k xs)) _ S g1 r1 (by simpa using hab) (by rw [List.length_map, hyl, p2])
                  (fun j u y' hu hy' => by
                    rw [List.getElem?_map, Option.map_eq_some_iff] at hu
                    obtain ⟨yj, hyj, rfl⟩ := hu
                    obtain ⟨u', hu', hv'⟩ := p3 j (.int k yj) (by simp only [Cont.get?, hyj])
                    rw [hy'] at hu'
                    simp only [Option.some.injEq] at hu'
                    subst hu'
                    exact hv')
                have hmin2 : Nat.min ys0.length len = min ys0.length len := rfl
                refine ⟨.int .i64 ((min ys0.length len : Nat) : Int), w', ?_, ρ, .int _ _, ?_, ?_⟩
                · simp [Builtin.copy_, run_underlying hu, run_sizeOf' (show asz P e = some 1 by simp [asz, hi, hsz]), Builtin.lenOf, Cont.len, hmin2, p4, k1, goInt]
                · rw [hyl] at k3; exact k3
                · rw [hyl] at k2; exact k2
              · cases h
            · cases h
          · cases h
        · cases h
      · rename_i ys0 h0
        split at h
        · rename_i ys h1
          split at h
          · rename_i xs ver' hb
            simp only [Bool.cond_eq_ite, Bool.and_eq_true, beq_iff_eq, decide_eq_true_eq] at h
            split at h
            · rename_i hh
              obtain ⟨⟨rfl, rfl, hsz⟩, hle, hyl⟩ := hh
              simp only [Option.some.injEq, Prod.mk.injEq] at h
              obtain ⟨rfl, rfl⟩ := h
              cases hx
              rename_i a cap hm ho
              obtain ⟨blk, g1, g2, g3⟩ := ho
              have := g1.symm.trans hb
              simp only [Option.some.injEq] at this
              subst this
              obtain ⟨b, cs, e0, r1, rfl, r3, r4, r5⟩ := g3 rfl
              obtain ⟨a0, cap0, xs0, rfl, q2, q3, q4⟩ := read_ok (P := P) S h0 hy
              simp only [Cont.len] at hy q2 q4
              have hmin : min ys0.length len ≤ ys0.length := Nat.min_le_left _ _
              have hy2 := hy.shrink (min ys0.length len) hmin h0
              obtain ⟨a1, cap1, xs1, hc1, p2, p3, p4⟩ := read_ok (P := P) S h1 hy2
              simp only [Cont.len, hyl] at hc1 p2 p4
              simp only [Value.slice.injEq] at hc1
              obtain ⟨rfl, _, rfl⟩ := hc1
              have hfc : ∀ n m, Builtin.firstCells 1 n (.slice a0 m cap0) = Builtin.firstCells 1 n (.slice a0 ys0.length cap0) := fun n m => by cases a0 <;> rfl
              rw [hfc] at p4
              have hab := abset_bools ys off xs (by rw [hyl]; have := Nat.min_le_right ys0.length len; omega)
              obtain ⟨w', k1, k2, k3⟩ := Sim.sets (P := P) (l := l) (b := b) (ver := ver) (ys.map fun y => AVal.bool y) xs1 0 off ρ H w (.typ (.bools xs)) _ S g1 r1 (by simpa using hab) (by rw [List.length_map, hyl, p2])
                (fun j u y' hu hy' => by
                  rw [List.getElem?_map, Option.map_eq_some_iff] at hu
                  obtain ⟨yj, hyj, rfl⟩ := hu
                  obtain ⟨u', hu', hv'⟩ := p3 j (.bool yj) (by simp only [Cont.get?, hyj])
                  rw [hy'] at hu'
                  simp only [Option.some.injEq] at hu'
                  subst hu'
                  exact hv')
              have hmin2 : Nat.min ys0.length len = min ys0.length len := rfl
              refine ⟨.int .i64 ((min ys0.length len : Nat) : Int), w', ?_, ρ, .int _ _, ?_, ?_⟩
              · simp [Builtin.copy_, run_underlying hu, run_sizeOf' (show asz P e = some 1 by simp [asz, hi, hsz]), Builtin.lenOf, Cont.len, hmin2, p4, k1, goInt]
              · rw [hyl] at k3; exact k3
              · rw [hyl] at k2; exact k2
            · cases h
          · cases h
        · cases h
      · cases h
    · cases h
  · cases h

theorem clear_ok [Fb : Forb] {P : Program} {ρ : List Nat} {H H' : Heap} {w : World} (S : Sim ρ H w) {t : TypeId} {x : AVal} {cx : Value} (h : aclear P H t x = some H') (hx : VR ρ H w x cx) (ty : TypeId) :
    ∃ c w', (Builtin.clear_ #[t] ty #[cx]).run P w = .ok c w' ∧ G ρ H w (.tup []) H' c w' := by
  unfold aclear at h
  simp only [nth_eq, upd_eq] at h
  split at h
  · rename_i e l off len ver z hu
    split at h
    · rename_i i hi
      split at h
      · rename_i k hz
        split at h
        · rename_i k' xs ver' hb
          split at h
          · rename_i hk
            subst hk
            simp only [Bool.cond_eq_ite, Bool.and_eq_true, beq_iff_eq, decide_eq_true_eq] at h
            split at h
            · rename_i hh
              obtain ⟨⟨rfl, rfl⟩, hle⟩ := hh
              simp only [Option.some.injEq] at h; subst h
              have htup : ∀ ρ H w, VR ρ H w (.tup []) (.tuple #[]) := fun ρ H w => .tup [] #[] rfl (by simp)
              cases hx
              rename_i a cap hm ho
              obtain ⟨blk, g1, g2, g3⟩ := ho
              have := g1.symm.trans hb
              simp only [Option.some.injEq] at this
              subst this
              obtain ⟨b, cs, e0, r1, rfl, r3, r4, r5⟩ := g3 rfl
              have hab := abset_zeros k len off xs hle
              have hz0 : (Value.int k 0).cells = #[Value.int k 0] := rfl
              have hzl : (Builtin.zeroCells (Value.int k 0).cells len).toList = List.replicate len (Value.int k 0) := by
                rw [hz0]
                unfold Builtin.zeroCells
                apply List.ext_getElem?
                intro j
                rw [List.getElem?_replicate, Array.getElem?_toList]
                have e : len * (#[Value.int k 0] : Array Value).size = len := by simp
                rw [e]
                split
                · rename_i hj; exact range_get rfl len j hj
                · rename_i hj; simp [hj]
              obtain ⟨w', k1, k2, k3⟩ := Sim.sets (P := P) (l := l) (b := b) (ver := ver) (List.replicate len (.int k 0)) (List.replicate len (Value.int k 0)) 0 off ρ H w (.typ (.ints k xs)) _ S g1 r1 (by simpa using hab) (by simp)
                (fun j u y hu hy => by
                  rw [List.getElem?_replicate] at hu hy
                  split at hu
                  · rename_i hj
                    rw [if_pos hj] at hy
                    simp only [Option.some.injEq] at hu hy
                    subst hu hy
                    exact .int _ _
                  · cases hu)
              cases len with
              | zero =>
                refine ⟨.tuple #[], w, by simp [Builtin.clear_, run_underlying hu], ?_⟩
                have hs : (List.replicate 0 (Value.int k 0)) = [] := rfl
                rw [hs] at k1
                simp only [storeCells, Sem.run_pure, Result.ok.injEq, true_and] at k1
                subst k1
                exact ⟨ρ, htup _ _ _, k3, k2⟩
              | succ len =>
                refine ⟨.tuple #[], w', ?_, ρ, htup _ _ _, k3, k2⟩
                simp [Builtin.clear_, run_underlying hu, zeroValue, typeInfo, hi, hz, hzl, k1]
            · cases h
          · cases h
        · cases h
      · cases h
    · cases h
  · cases h

end Go.Proofs.YtjhofofieiiplaaGreatDoor.Ab
