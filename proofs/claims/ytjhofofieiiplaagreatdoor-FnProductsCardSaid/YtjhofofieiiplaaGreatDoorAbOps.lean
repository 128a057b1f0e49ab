/-
  The abstract machine: each operation that touches no memory, as the model carries it out.
-/
import Derived.Test.YtjhofofieiiplaaGreatDoorAbPure
namespace Go.Proofs.YtjhofofieiiplaaGreatDoor.Ab
open Go
set_option linter.unusedVariables false
set_option linter.unusedSimpArgs false

/-- What is known behind a step: the value, the heap, and what may have turned. -/
def G [Fb : Forb] (ρ : List Nat) (H : Heap) (w : World) (v : AVal) (H' : Heap) (c : Value) (w' : World) : Prop :=
  ∃ ρ', VR ρ' H' w' v c ∧ Sim ρ' H' w' ∧ Mv ρ H w ρ' H' w'
/-- What an operation comes to: a value, nothing, or a call. -/
def Outs (P : Program) (g : Value → World → Prop) : Result Next → Prop
  | .ok (.value c) w' => g c w'
  | .ok .skip w' => g Go.undef w'
  | .ok (.enter f args) w' => Calls P f args w' fun e w'' => ∃ c, e = .returned c ∧ g c w''
  | _ => False

theorem PureOk.outs [Fb : Forb] {P : Program} {ρ : List Nat} {H : Heap} {w : World} {v : AVal} {m : Sem Value} (h : PureOk P ρ H w v m) (s : Sim ρ H w) {r : Result Next}
    (hr : r = ((do pure (Next.value (← m)) : Sem Next)).run P w) : Outs P (G ρ H w v H) r := by
  obtain ⟨c, w', h1, h2, h3⟩ := h
  subst hr
  simp only [Sem.run_bind, h1, Result.andThen_ok, Sem.run_pure, Outs]
  have m := h2.mv ρ H
  exact ⟨ρ, h3.mv m, s.mvSame h2.heap m, m⟩
theorem outs_value [Fb : Forb] {P : Program} {ρ : List Nat} {H : Heap} {w : World} {v : AVal} {c : Value} (s : Sim ρ H w) (h : VR ρ H w v c) {r : Result Next} (hr : r = .ok (.value c) w) : Outs P (G ρ H w v H) r := by
  subst hr; exact ⟨ρ, h, s, Mv.refl _ _ _⟩

theorem VR.romMove [Fb : Forb] {ρ : List Nat} {H : Heap} {w : World} {vs : List AVal} {off : Nat} {p : Addr} (h : VR ρ H w (.rom vs off) (.pointer (some p))) (k : Nat) : VR ρ H w (.rom vs (off + k)) (.pointer (some (p.add k))) := by
  cases h with
  | rom _ _ _ cs hl hm h =>
    refine .rom vs (off + k) _ cs hl (fun i x hx => ?_) h
    rw [Nat.add_assoc] at hx
    rw [add_add, add_block]
    exact hm (k + i) x hx

theorem field_ok [Fb : Forb] {P : Program} {ρ : List Nat} {H : Heap} {w : World} {t : TypeId} {x v : AVal} {f : Nat} {cx : Value} (h : afield P t x f = some v) (hx : VR ρ H w x cx) : PureOk P ρ H w v (Instr.fieldAt t cx f) := by
  unfold afield at h
  split at h
  · rename_i fs hu
    split at h
    · rename_i fl hf
      split at h
      · rename_i n l off ver hz
        simp only [Option.some.injEq] at h; subst h
        cases hx
        rename_i a hp
        refine .same (c := .pointer (some (a.add fl.offset))) ?_ (.ptr _ _ _ _ ?_)
        · simp [Instr.fieldAt, run_underlying hu, hf, Instr.sureAddr, fieldPlace, run_sizeOf' hz]
        · obtain ⟨blk, h1, h2, h3⟩ := hp
          exact ⟨blk, h1, h2, fun e => let ⟨b, g1, g2⟩ := h3 e; ⟨b, g1, by rw [g2, add_lit]⟩⟩
      · rename_i n vs off hz
        simp only [Option.some.injEq] at h; subst h
        have hp : ∃ a, cx = .pointer (some a) := by cases hx; exact ⟨_, rfl⟩
        obtain ⟨a, rfl⟩ := hp
        refine .same (c := .pointer (some (a.add fl.offset))) ?_ (hx.romMove _)
        simp [Instr.fieldAt, run_underlying hu, hf, Instr.sureAddr, fieldPlace, run_sizeOf' hz]
      · cases h
    · cases h
  · cases h

theorem recCs_get (fs : List Fld) (b : Nat) : ∀ (sh : List Nat) (j i : Nat), (recCs fs b sh j)[i]? = (sh[i]?).map fun k => recC k fs (b + (j + i))
  | [], j, i => by simp [recCs]
  | k :: r, j, 0 => by simp [recCs]
  | k :: r, j, i + 1 => by simp [recCs, recCs_get fs b r (j + 1) i, Nat.add_assoc, Nat.add_comm 1 i]
theorem recCs_len (fs : List Fld) (b : Nat) : ∀ (sh : List Nat) (j : Nat), (recCs fs b sh j).length = sh.length
  | [], _ => rfl
  | k :: r, j => by simp [recCs, recCs_len fs b r]
theorem recC_lent {fs : List Fld} {p k : Nat} {f : Fld} (h : fs[p]? = some f) (hk : f.kind = k) : recC k fs p = f.lent := by
  subst hk
  cases f <;> simp [recC, Fld.kind, Fld.lent, recN.sv, recL.sv, recR.sv, h]
/-- A pointer to a record, by its cells. -/
theorem rec_ptr [Fb : Forb] {ρ : List Nat} {H : Heap} {w : World} {sh : List Nat} {fs : List Fld} {n z : Nat} {a : Addr} (hfit : recfit.sp sh fs = true) (hz : sh.length = z) (h : CR ρ w (.recs sh fs) 0 a) (hl : n * z + z ≤ fs.length) :
    VR ρ H w (.rom (recCs fs (n * z) sh 0) 0) (.pointer (some (a.add (n * z)))) := by
  simp only [recfit.sp, decide_eq_true_eq] at hfit
  have ex : ∀ j, ∃ v : Value, j < z → Stb ρ w a.block ∧ w.cell? (a.add (n * z + j)) = some v ∧ VR ρ H w (recC (sh.getD j 0) fs (n * z + j)) v := by
    intro j
    by_cases hj : j < z
    · have hlt : n * z + j < fs.length := by omega
      obtain ⟨h1, v, h2, h3⟩ := h (n * z + j) fs[n * z + j] (by rw [Nat.zero_add]; exact List.getElem?_eq_getElem hlt)
      refine ⟨v, fun _ => ⟨h1, h2, ?_⟩⟩
      have hk := hfit (n * z + j) hlt
      have hm : (n * z + j) % sh.length = j := by rw [hz, Nat.add_comm, Nat.add_mul_mod_self_right, Nat.mod_eq_of_lt hj]
      rw [hm, List.getD_eq_getElem?_getD, List.getElem?_eq_getElem hlt, Option.getD_some] at hk
      rw [recC_lent (List.getElem?_eq_getElem hlt) hk]
      exact h3.lent
    · exact ⟨Go.undef, fun h => absurd h hj⟩
  let g : Nat → Value := fun j => Classical.choose (ex j)
  have hg : ∀ j, j < z → _ := fun j hj => Classical.choose_spec (ex j) hj
  have get : ∀ (i : Nat) (x : Value), (((List.range z).map g).toArray)[i]? = some x → i < z ∧ x = g i := by
    intro i x hx
    simp only [List.getElem?_toArray, List.getElem?_map, Option.map_eq_some_iff] at hx
    obtain ⟨j, hj, rfl⟩ := hx
    have hlt : i < z := by simpa using (List.getElem?_eq_some_iff.1 hj).1
    rw [List.getElem?_range hlt] at hj
    simp only [Option.some.injEq] at hj
    subst hj
    exact ⟨hlt, rfl⟩
  refine .rom _ 0 _ ((List.range z).map g).toArray (by simp [recCs_len, hz]) (fun i x hx => ?_) (fun i v hv => ?_)
  · rw [Nat.zero_add] at hx
    obtain ⟨hi, rfl⟩ := get i x hx
    obtain ⟨h1, h2, _⟩ := hg i hi
    rw [add_add, add_block]
    exact ⟨h1, h2⟩
  · rw [recCs_get, Nat.zero_add] at hv
    simp only [Option.map_eq_some_iff] at hv
    obtain ⟨k, hk, rfl⟩ := hv
    have hi : i < z := by rw [← hz]; exact (List.getElem?_eq_some_iff.1 hk).1
    obtain ⟨_, _, h3⟩ := hg i hi
    have e1 : sh.getD i 0 = k := by rw [List.getD_eq_getElem?_getD, hk]; rfl
    have e2 : (((List.range z).map g).toArray).getD i Go.undef = g i := by
      rw [Array.getD_eq_getD_getElem?, List.getElem?_toArray, List.getElem?_map, List.getElem?_range hi]; rfl
    rw [e2, ← e1]
    exact h3
theorem index_ok [Fb : Forb] {P : Program} {ρ : List Nat} {H : Heap} {w : World} {t : TypeId} {x i v : AVal} {cx ci : Value} (h : aindex P t x i = some v) (hx : VR ρ H w x cx) (hi : VR ρ H w i ci) : PureOk P ρ H w v (Instr.indexAt t cx ci) := by
  unfold aindex at h
  split at h
  · rename_i e hu
    split at h
    · rename_i sz c len z k n hz
      by_cases hr : ∃ sh fs, c = .recs sh fs
      · obtain ⟨sh, fs, rfl⟩ := hr
        simp only [roIdx, Bool.cond_eq_ite, Bool.and_eq_true, decide_eq_true_eq, beq_iff_eq] at h
        split at h
        · rename_i hn
          obtain ⟨hn1, hn2, rfl, hn3, hfit⟩ := hn
          simp only [Option.some.injEq] at h; subst h
          cases hi
          cases hx
          rename_i a cap hc h0 hm hl
          cases a with
          | none => have := h0 rfl; omega
          | some a =>
            refine .same (c := .pointer (some (a.add (n.toNat * z)))) ?_ (rec_ptr hfit hn3 (hc a rfl) ?_ )
            · simp [Instr.indexAt, asIntOf, run_underlying hu, hn1, hn2, run_sizeOf' hz]
            · have h1 : n.toNat + 1 ≤ len := by omega
              have h2 : (n.toNat + 1) * z ≤ len * z := Nat.mul_le_mul_right z h1
              rw [Nat.add_mul, Nat.one_mul] at h2
              exact Nat.le_trans h2 hl
        · cases h
      · have hro : roIdx c len z sz n = bif decide (0 ≤ n) && (decide (n < len) && z == sz) then some (.rop c (n.toNat * sz)) else none := by
          cases c <;> first | rfl | exact absurd ⟨_, _, rfl⟩ hr
        rw [hro] at h
        simp only [Bool.cond_eq_ite, Bool.and_eq_true, decide_eq_true_eq, beq_iff_eq] at h
        split at h
        · rename_i hn
          obtain ⟨hn1, hn2, rfl⟩ := hn
          simp only [Option.some.injEq] at h; subst h
          cases hi
          cases hx
          rename_i a cap hc h0 hm hl
          cases a with
          | none => have := h0 rfl; omega
          | some a =>
            refine .same (c := .pointer (some (a.add (n.toNat * z)))) ?_ (.rop _ _ _ ?_)
            · simp [Instr.indexAt, asIntOf, run_underlying hu, hn1, hn2, run_sizeOf' hz]
            · have := (hc a rfl).move (n.toNat * z); rwa [Nat.zero_add] at this
        · cases h
    · rename_i sz l off len ver z k n hz
      simp only [Bool.cond_eq_ite, Bool.and_eq_true, decide_eq_true_eq, beq_iff_eq] at h
      split at h
      · rename_i hn
        obtain ⟨hn1, hn2, rfl⟩ := hn
        simp only [Option.some.injEq] at h; subst h
        cases hi
        cases hx
        rename_i a cap hm ho
        refine .same (c := .pointer (some (a.add (n.toNat * z)))) ?_ (.ptr _ _ _ _ ?_)
        · simp [Instr.indexAt, asIntOf, run_underlying hu, hn1, hn2, run_sizeOf' hz]
        · obtain ⟨blk, h1, h2, h3⟩ := ho
          exact ⟨blk, h1, h2, fun e => let ⟨b, _, _, g1, g2, _⟩ := h3 e; ⟨b, g1, by rw [g2, add_lit]⟩⟩
      · cases h
    · rename_i sz vs len z k n hz
      simp only [Bool.cond_eq_ite, Bool.and_eq_true, decide_eq_true_eq, beq_iff_eq] at h
      split at h
      · rename_i hn
        obtain ⟨hn1, hn2, rfl⟩ := hn
        simp only [Option.some.injEq] at h; subst h
        cases hi
        cases hx with
        | ros _ _ _ a cap cs hl h0 hm hc hz' hh =>
          cases a with
          | none => have := h0 rfl; omega
          | some a =>
            refine .same (c := .pointer (some (a.add (n.toNat * z)))) ?_ ?_
            · simp [Instr.indexAt, asIntOf, run_underlying hu, hn1, hn2, run_sizeOf' hz]
            · have h1 : VR ρ H w (.rom vs 0) (.pointer (some a)) := .rom vs 0 a cs hl (fun i x hx => hm a rfl i x (by rwa [Nat.zero_add] at hx)) hh
              have := h1.romMove (n.toNat * z)
              rwa [Nat.zero_add] at this
      · cases h
    · cases h
  · rename_i len e hu
    split at h
    · rename_i sz l off ver k n hz
      simp only [Bool.cond_eq_ite, Bool.and_eq_true, decide_eq_true_eq] at h
      split at h
      · rename_i hn
        simp only [Option.some.injEq] at h; subst h
        cases hi
        cases hx
        rename_i a hp
        refine .same (c := .pointer (some (a.add (n.toNat * sz)))) ?_ (.ptr _ _ _ _ ?_)
        · simp [Instr.indexAt, asIntOf, run_underlying hu, hn.1, hn.2, run_sizeOf' hz, Instr.sureAddr]
        · obtain ⟨blk, h1, h2, h3⟩ := hp
          exact ⟨blk, h1, h2, fun e => let ⟨b, g1, g2⟩ := h3 e; ⟨b, g1, by rw [g2, add_lit]⟩⟩
      · cases h
    · rename_i sz vs off k n hz
      simp only [Bool.cond_eq_ite, Bool.and_eq_true, decide_eq_true_eq] at h
      split at h
      · rename_i hn
        simp only [Option.some.injEq] at h; subst h
        cases hi
        have hp : ∃ a, cx = .pointer (some a) := by cases hx; exact ⟨_, rfl⟩
        obtain ⟨a, rfl⟩ := hp
        refine .same (c := .pointer (some (a.add (n.toNat * sz)))) ?_ (hx.romMove _)
        simp [Instr.indexAt, asIntOf, run_underlying hu, hn.1, hn.2, run_sizeOf' hz, Instr.sureAddr]
      · cases h
    · cases h
  · cases h

theorem bound_ok [Fb : Forb] {P : Program} {ρ : List Nat} {H : Heap} {w : World} {x : AVal} {cx : Value} {hi r d : Nat} (code : BoundsCode) (y : Nat) (hy : hi ≤ y) (h : abound (some x) d hi = some r) (hx : VR ρ H w x cx) :
    (Instr.sliceBound cx y code).run P w = .ok r w ∧ r ≤ hi := by
  unfold abound at h
  split at h
  · rename_i h0; cases h0
  · rename_i k n h0
    simp only [Option.some.injEq] at h0; subst h0
    simp only [Bool.cond_eq_ite, Bool.and_eq_true, decide_eq_true_eq] at h
    split at h
    · rename_i hn
      simp only [Option.some.injEq] at h; subst h
      cases hx
      have : n ≤ (y : Int) := by omega
      exact ⟨by simp [Instr.sliceBound, asIntOf, hn.1, this], by omega⟩
    · cases h
  · cases h

theorem run_slice2 [Fb : Forb] {P : Program} {ρ : List Nat} {H : Heap} {w : World} {t e : TypeId} (hu : P.underlying t = some (.slice e)) {sz : Nat} (hz : asz P e = some sz) (lo hi : Option AVal) (clo chi : Option Value)
    (hlo : ∀ x, lo = some x → ∃ c, clo = some c ∧ VR ρ H w x c) (hlo' : lo = none → clo = none) (hhi : ∀ x, hi = some x → ∃ c, chi = some c ∧ VR ρ H w x c) (hhi' : hi = none → chi = none)
    {len cap l h : Nat} (hlc : len ≤ cap) (h1 : abound hi len len = some h) (h2 : abound lo 0 h = some l) (a : Option Addr) :
    (Instr.sliceAt t (.slice a len cap) clo chi none).run P w = .ok (.slice (if cap = l then a else a.map (·.add (l * sz))) (h - l) (cap - l)) w ∧ l ≤ h ∧ h ≤ len := by
  have e1 : (∃ r, chi = some r ∧ (Instr.sliceBound r cap .sliceAcap).run P w = .ok h w ∧ h ≤ len) ∨ (chi = none ∧ h = len) := by
    cases hi with
    | none => right; simp only [abound, Option.some.injEq] at h1; exact ⟨hhi' rfl, h1.symm⟩
    | some x =>
      obtain ⟨c, hc, hv⟩ := hhi x rfl
      obtain ⟨g1, g2⟩ := bound_ok (P := P) .sliceAcap cap hlc h1 hv
      exact .inl ⟨c, hc, g1, g2⟩
  have e2 : (∃ r, clo = some r ∧ (Instr.sliceBound r h .sliceB).run P w = .ok l w ∧ l ≤ h) ∨ (clo = none ∧ l = 0) := by
    cases lo with
    | none => right; simp only [abound, Option.some.injEq] at h2; exact ⟨hlo' rfl, h2.symm⟩
    | some x =>
      obtain ⟨c, hc, hv⟩ := hlo x rfl
      obtain ⟨g1, g2⟩ := bound_ok (P := P) .sliceB h (Nat.le_refl _) h2 hv
      exact .inl ⟨c, hc, g1, g2⟩
  rcases e1 with ⟨r, rfl, k1, k2⟩ | ⟨rfl, rfl⟩ <;> rcases e2 with ⟨r', rfl, k3, k4⟩ | ⟨rfl, rfl⟩
  · exact ⟨by simp [Instr.sliceAt, Instr.slice, run_underlying hu, Instr.sliceBounds, k1, k3, run_sizeOf' hz], k4, k2⟩
  · exact ⟨by simp [Instr.sliceAt, Instr.slice, run_underlying hu, Instr.sliceBounds, k1, run_sizeOf' hz], Nat.zero_le _, k2⟩
  · exact ⟨by simp [Instr.sliceAt, Instr.slice, run_underlying hu, Instr.sliceBounds, k3, run_sizeOf' hz], k4, Nat.le_refl _⟩
  · exact ⟨by simp [Instr.sliceAt, Instr.slice, run_underlying hu, Instr.sliceBounds, run_sizeOf' hz], Nat.zero_le _, Nat.le_refl _⟩

theorem get_take {α : Type} {l : List α} {n i : Nat} {x : α} (h : (l.take n)[i]? = some x) : i < n ∧ l[i]? = some x := by
  rw [List.getElem?_take] at h
  split at h
  · exact ⟨by assumption, h⟩
  · cases h

/-- A part of what is read. -/
theorem CR.part [Fb : Forb] {ρ : List Nat} {w : World} {c : Cont} {off : Nat} {p : Addr} (h : CR ρ w c off p) (n : Nat) : CR ρ w ((c.drop off).take n) 0 p := by
  cases c <;> (intro i u hu; simp only [Nat.zero_add] at hu; obtain ⟨_, hu⟩ := get_take hu; rw [List.getElem?_drop] at hu; exact h i u hu)
theorem CR.empty [Fb : Forb] {ρ : List Nat} {w : World} (c : Cont) (p : Addr) : CR ρ w (c.take 0) 0 p := by
  cases c <;> (intro i u hu; simp at hu)

theorem Cont.len_take (c : Cont) (n : Nat) : (c.take n).len = min n c.len := by cases c <;> simp [Cont.take, Cont.len]
theorem Cont.len_drop (c : Cont) (n : Nat) : (c.drop n).len = c.len - n := by cases c <;> simp [Cont.drop, Cont.len]

theorem slice0_ok [Fb : Forb] {P : Program} {ρ : List Nat} {H : Heap} {w : World} {t : TypeId} {x v mx : AVal} {lo hi : Option AVal} {cx cmx : Value} {clo chi : Option Value} (h : aslice0 P t x lo hi mx = some v) (hx : VR ρ H w x cx)
    (hlo' : lo = none → clo = none) (hhi : ∀ x, hi = some x → ∃ c, chi = some c ∧ VR ρ H w x c) (hmx : VR ρ H w mx cmx) : PureOk P ρ H w v (Instr.sliceAt t cx clo chi (some cmx)) := by
  unfold aslice0 at h
  split at h
  · rename_i e hu
    split at h
    · rename_i sz k0 k1 hz
      cases hmx
      obtain ⟨c, rfl, hc⟩ := hhi _ rfl
      cases hc
      obtain rfl := hlo' rfl
      have run : ∀ (a : Option Addr) (len cap : Nat), (Instr.sliceAt t (.slice a len cap) none (some (.int k0 0)) (some (.int k1 0))).run P w = .ok (.slice a 0 0) w := by
        intro a len cap
        simp [Instr.sliceAt, Instr.slice, run_underlying hu, Instr.sliceBounds, Instr.sliceBound, asIntOf, run_sizeOf' hz]
      split at h <;> simp only [Option.some.injEq, reduceCtorEq] at h <;> subst h <;> cases hx
      · exact .same (run _ _ _) .nils
      · exact .same (run _ _ _) (.emp _)
      · exact .same (run _ _ _) (.emp _)
      · exact .same (run _ _ _) (.emp _)
      · exact .same (run _ _ _) (.emp _)
    · cases h
  · cases h

theorem run_bounds [Fb : Forb] {P : Program} {ρ : List Nat} {H : Heap} {w : World} (lo hi : Option AVal) (clo chi : Option Value)
    (hlo : ∀ x, lo = some x → ∃ c, clo = some c ∧ VR ρ H w x c) (hlo' : lo = none → clo = none) (hhi : ∀ x, hi = some x → ∃ c, chi = some c ∧ VR ρ H w x c) (hhi' : hi = none → chi = none)
    {len l h : Nat} (h1 : abound hi len len = some h) (h2 : abound lo 0 h = some l) :
    (Instr.sliceBounds false len len clo chi none).run P w = .ok (l, h, len) w ∧ l ≤ h ∧ h ≤ len := by
  have e1 : (∃ r, chi = some r ∧ (Instr.sliceBound r len .sliceAlen).run P w = .ok h w ∧ h ≤ len) ∨ (chi = none ∧ h = len) := by
    cases hi with
    | none => right; simp only [abound, Option.some.injEq] at h1; exact ⟨hhi' rfl, h1.symm⟩
    | some x =>
      obtain ⟨c, hc, hv⟩ := hhi x rfl
      obtain ⟨g1, g2⟩ := bound_ok (P := P) .sliceAlen len (Nat.le_refl _) h1 hv
      exact .inl ⟨c, hc, g1, g2⟩
  have e2 : (∃ r, clo = some r ∧ (Instr.sliceBound r h .sliceB).run P w = .ok l w ∧ l ≤ h) ∨ (clo = none ∧ l = 0) := by
    cases lo with
    | none => right; simp only [abound, Option.some.injEq] at h2; exact ⟨hlo' rfl, h2.symm⟩
    | some x =>
      obtain ⟨c, hc, hv⟩ := hlo x rfl
      obtain ⟨g1, g2⟩ := bound_ok (P := P) .sliceB h (Nat.le_refl _) h2 hv
      exact .inl ⟨c, hc, g1, g2⟩
  rcases e1 with ⟨r, rfl, k1, k2⟩ | ⟨rfl, rfl⟩ <;> rcases e2 with ⟨r', rfl, k3, k4⟩ | ⟨rfl, rfl⟩
  · exact ⟨by simp [Instr.sliceBounds, k1, k3], k4, k2⟩
  · exact ⟨by simp [Instr.sliceBounds, k1], Nat.zero_le _, k2⟩
  · exact ⟨by simp [Instr.sliceBounds, k3], k4, Nat.le_refl _⟩
  · exact ⟨by simp [Instr.sliceBounds], Nat.zero_le _, Nat.le_refl _⟩
theorem slice_ok [Fb : Forb] {P : Program} {ρ : List Nat} {H : Heap} {w : World} {t : TypeId} {x v : AVal} {lo hi : Option AVal} {cx : Value} {clo chi : Option Value} (h : aslice P t x lo hi = some v) (hx : VR ρ H w x cx)
    (hlo : ∀ x, lo = some x → ∃ c, clo = some c ∧ VR ρ H w x c) (hlo' : lo = none → clo = none) (hhi : ∀ x, hi = some x → ∃ c, chi = some c ∧ VR ρ H w x c) (hhi' : hi = none → chi = none) : PureOk P ρ H w v (Instr.sliceAt t cx clo chi none) := by
  unfold aslice at h
  split at h
  · rename_i e hu
    split at h
    · rename_i sz c len z hz
      cases hx
      rename_i a cap hc h0 hm hl
      split at h
      · rename_i hh h1
        split at h
        · rename_i l h2
          simp only [Bool.cond_eq_ite, beq_iff_eq] at h
          split at h
          case isFalse => cases h
          rename_i hz'; subst hz'
          simp only [Option.some.injEq] at h; subst h
          obtain ⟨r, g1, g2⟩ := run_slice2 (P := P) (a := a) hu hz lo hi clo chi hlo hlo' hhi hhi' hm h1 h2
          have hlen : (hh - l) * z ≤ ((c.drop (l * z)).take ((hh - l) * z)).len := by
            have e1 : l * z + (hh - l) * z = hh * z := by rw [← Nat.add_mul]; congr 1; omega
            have e2 : hh * z ≤ len * z := Nat.mul_le_mul_right _ g2
            rw [Cont.len_take, Cont.len_drop]
            omega
          refine .same r (.ro _ _ _ _ _ ?_ ?_ (by omega) hlen)
          · intro ha
            have : a = none := by
              split at ha
              · exact ha
              · simpa using ha
            have := h0 this
            omega
          · intro p hp
            split at hp
            · have : hh - l = 0 := by omega
              rw [this, Nat.zero_mul]
              exact CR.empty _ _
            · cases a with
              | none => simp at hp
              | some a =>
                simp only [Option.map_some, Option.some.injEq] at hp; subst hp
                have := (hc a rfl).move (l * z)
                rw [Nat.zero_add] at this
                exact this.part _
        · cases h
      · cases h
    · rename_i sz b off len ver z hz
      cases hx
      rename_i a cap hm ho
      split at h
      · rename_i hh h1
        split at h
        · rename_i l h2
          simp only [Bool.cond_eq_ite, Bool.and_eq_true, Bool.or_eq_true, decide_eq_true_eq, beq_iff_eq] at h
          split at h
          · rename_i hl
            obtain ⟨rfl, hl⟩ := hl
            simp only [Option.some.injEq] at h; subst h
            obtain ⟨r, g1, g2⟩ := run_slice2 (P := P) (a := some a) hu hz lo hi clo chi hlo hlo' hhi hhi' hm h1 h2
            have hadd : (if cap = l then some a else (some a).map (·.add (l * z))) = some (a.add (l * z)) := by
              by_cases e : cap = l
              · have : l = 0 := by omega
                subst this
                rw [if_pos e, Nat.zero_mul]; simp [Addr.add]
              · rw [if_neg e]; rfl
            rw [hadd] at r
            refine .same r (.own _ _ _ _ _ _ _ ?_ (by omega))
            obtain ⟨blk, k1, k2, k3⟩ := ho
            refine ⟨blk, k1, k2, fun e => ?_⟩
            obtain ⟨b', cs, t', q1, q2, q3, q4, q5⟩ := k3 e
            refine ⟨b', cs, t', q1, by rw [q2, add_lit], ?_, q4, ?_⟩
            · have : l * z + (hh - l) * z = hh * z := by rw [← Nat.add_mul]; congr 1; omega
              have : hh * z ≤ len * z := Nat.mul_le_mul_right _ g2
              omega
            · have : l * z + (cap - l) * z = cap * z := by rw [← Nat.add_mul]; congr 1; omega
              omega
          · cases h
        · cases h
      · cases h
    · cases h
  · rename_i hu
    split at h
    · rename_i s
      cases hx
      split at h
      · rename_i hh h1
        split at h
        · rename_i l h2
          simp only [Option.some.injEq] at h; subst h
          obtain ⟨r, _, _⟩ := run_bounds (P := P) (w := w) lo hi clo chi hlo hlo' hhi hhi' h1 h2
          exact .same (by simp [Instr.sliceAt, Instr.slice, run_underlying hu, r]; rfl) (.str _)
        · cases h
      · cases h
    · cases h
  · cases h
/-- 'a[lo:]' of an array of bytes. -/
theorem sliceM_ok [Fb : Forb] {P : Program} {ρ : List Nat} {H : Heap} {w : World} (S : Sim ρ H w) {t : TypeId} {x v : AVal} {lo : Option AVal} {cx : Value} {clo : Option Value} (h : asliceM P H t x lo = some v) (hx : VR ρ H w x cx)
    (hlo : ∀ x, lo = some x → ∃ c, clo = some c ∧ VR ρ H w x c) (hlo' : lo = none → clo = none) : PureOk P ρ H w v (Instr.sliceAt t cx clo none none) := by
  unfold asliceM at h
  split at h
  · rename_i n e hu
    split at h
    · rename_i b ver hz
      cases hx
      rename_i a hp
      split at h
      · rename_i k xs ver' hb
        split at h
        · rename_i l h2
          simp only [Bool.cond_eq_ite, Bool.and_eq_true, beq_iff_eq, decide_eq_true_eq] at h
          split at h
          · rename_i hh
            obtain ⟨⟨rfl, hl⟩, rfl⟩ := hh
            simp only [Option.some.injEq] at h; subst h
            obtain ⟨r, _, _⟩ := run_bounds (P := P) (w := w) (ρ := ρ) (H := H) lo none clo none hlo hlo' (fun x hx => by cases hx) (fun _ => rfl) (len := xs.length) (h := xs.length) rfl h2
            rw [nth_eq] at hb
            obtain ⟨blk, k1, k2, k3⟩ := hp
            have := k1.symm.trans hb
            simp only [Option.some.injEq] at this; subst this
            obtain ⟨b', q1, rfl⟩ := k3 rfl
            obtain ⟨cs, e', q2, q3⟩ := S.blk b b' _ hb q1
            have q4 := q3.1
            simp only [BC.len, Cont.len] at q4
            refine .same (c := .slice (some ⟨b', l, none⟩) (xs.length - l) (xs.length - l)) ?_ (.own _ _ _ _ _ _ _ ⟨_, hb, Nat.le_refl _, fun _ => ⟨b', cs, e', q1, rfl, ?_, q2, ?_⟩⟩ (Nat.le_refl _))
            · have hne : ¬ xs.length = l := by omega
              simp [Instr.sliceAt, run_underlying hu, Instr.sureAddr, r, run_sizeOf' hz, hne, add_lit]
            · simp only [BC.len, Cont.len]; omega
            · omega
          · cases h
        · cases h
      · cases h
    · cases h
  · cases h

end Go.Proofs.YtjhofofieiiplaaGreatDoor.Ab
