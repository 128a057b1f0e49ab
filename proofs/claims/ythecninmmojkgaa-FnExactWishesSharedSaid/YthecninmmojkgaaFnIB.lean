/-
  Functions: records that are held: put together, and taken apart.
-/
import Derived.Test.YthecninmmojkgaaFnUA
namespace Go.Proofs.Ythecninmmojkgaa.Ab
open Go
set_option linter.unusedVariables false
set_option linter.unusedSimpArgs false
set_option maxRecDepth 100000

/-- A field among the cells of a block. -/
def Fld.hold (i : Nat) : Fld → AVal
  | .num n => .int .i64 n
  | .list xs => .bun i (.ints .i64 xs) xs.length
  | .rows xss => .bun i (.rows .i64 xss) xss.length
theorem FldR.of_hold {Fb : Forb} {ρ : List Nat} {H : Heap} {w : World} {f : Fld} {i : Nat} {v : Value} (h : @VR Fb ρ H w (f.hold i) v) : ∃ B : List Nat, (∀ y ∈ B, ∃ x B', Fb.bun[i]? = some (x, B') ∧ y ∈ B') ∧ FldR B [] w f v := by
  cases f with
  | num n =>
    cases h
    exact ⟨[], fun y hy => (by cases hy), rfl⟩
  | list xs =>
    cases h with
    | bun _ _ _ x B he hB =>
      obtain ⟨a, cap, rfl, hB, hm, hl⟩ := hB.slice rfl rfl
      exact ⟨B, fun y hy => ⟨_, B, he, hy⟩, a, cap, rfl, hB.thin (fun _ h => (by cases h)), hm⟩
  | rows xs =>
    cases h with
    | bun _ _ _ x B he hB =>
      obtain ⟨a, cap, rfl, hB, hm, hl⟩ := hB.slice rfl rfl
      exact ⟨B, fun y hy => ⟨_, B, he, hy⟩, a, cap, rfl, hB.thin (fun _ h => (by cases h)), hm⟩

/-- Records whose fields are held, and what leads to them, are held together. -/
theorem held_recs {w w' : World} {c : Value} {vs : List AVal} {sh : List Nat} {fs : List Fld} {m k : Nat} (ix : Nat → Nat) (hz : m * sh.length = fs.length) (hi : ∀ p q, p < fs.length → q < fs.length → p ≠ q → ix p ≠ ix q)
    (hj : ∀ (p : Nat) (f : Fld), fs[p]? = some f → vs[p]? = some (f.hold (ix p))) (h : RelV [] w (.own 0 0 m 0 sh.length) [⟨.cells vs, 0⟩] k c w') :
    ∃ F1 : Forb, EnvOk F1 ∧ F1.bun.length = 1 ∧ (∀ b ∈ F1.l, w.heap.size ≤ b ∧ b < w'.heap.size) ∧ @VR F1 [] [] w' (.bun 0 (.recs sh fs) m) c ∧ MvX [] w w' := by
  obtain ⟨Fb, ρ, hv, S, k⟩ := h
  cases hv with
  | own _ _ _ _ _ a cap ho hm =>
    obtain ⟨blk, g1, g2, g3⟩ := ho
    simp only [List.getElem?_cons_zero, Option.some.injEq] at g1
    subst g1
    obtain ⟨b, cs, t, r1, rfl, r3, r4, r5⟩ := g3 rfl
    obtain ⟨cs', t', q1, q2, q3⟩ := @Sim.blk Fb _ _ _ S 0 b _ rfl r1
    rw [r4] at q1
    simp only [Option.some.injEq, Obj.cells.injEq] at q1
    obtain ⟨rfl, rfl, _⟩ := q1
    have hb : b ∈ ρ := List.mem_of_getElem? r1
    have hge : w.heap.size ≤ b := by
      rcases k.ow b hb with h | h
      · exact h
      · cases h
    have old := @Sim.forb Fb _ _ _ S
    have hex : ∀ p, ∃ B : List Nat, ∀ f, fs[p]? = some f → ∃ v, cs[p]? = some v ∧ (∀ y ∈ B, ∃ x B', Fb.bun[ix p]? = some (x, B') ∧ y ∈ B') ∧ FldR B [] w' f v := by
      intro p
      cases hf : fs[p]? with
      | none => exact ⟨[], fun f h => by cases h⟩
      | some f =>
        obtain ⟨x, hx, hvx⟩ := q3 p _ (by simp only [BC.get?, nth_eq]; exact hj p f hf)
        obtain ⟨B, h1, h2⟩ := FldR.of_hold hvx
        refine ⟨B, fun f' h => ?_⟩
        simp only [Option.some.injEq] at h
        subst h
        exact ⟨x, hx, h1, h2⟩
    let g : Nat → List Nat := fun p => Classical.choose (hex p)
    have hg : ∀ p f, fs[p]? = some f → ∃ v, cs[p]? = some v ∧ (∀ y ∈ g p, ∃ x B', Fb.bun[ix p]? = some (x, B') ∧ y ∈ B') ∧ FldR (g p) [] w' f v := fun p f hf => Classical.choose_spec (hex p) f hf
    have hBs : ∀ p Bp, ((List.range fs.length).map g)[p]? = some Bp → p < fs.length ∧ Bp = g p := by
      intro p Bp h
      simp only [List.getElem?_map, Option.map_eq_some_iff] at h
      obtain ⟨i, hi', rfl⟩ := h
      have hlt : p < fs.length := by simpa using (List.getElem?_eq_some_iff.1 hi').1
      rw [List.getElem?_range hlt] at hi'
      simp only [Option.some.injEq] at hi'
      subst hi'
      exact ⟨hlt, rfl⟩
    have one : ∀ (i : Nat) (v : Value) (B : List Nat), [((Value.slice (some ⟨b, 0, none⟩) m cap), b :: Fb.l)][i]? = some (v, B) → i = 0 ∧ B = b :: Fb.l := by
      intro i v B hi
      cases i with
      | zero => simp only [List.getElem?_cons_zero, Option.some.injEq, Prod.mk.injEq] at hi; exact ⟨rfl, hi.2.symm⟩
      | succ i => simp at hi
    refine ⟨⟨b :: Fb.l, [(.slice (some ⟨b, 0, none⟩) m cap, b :: Fb.l)]⟩, ⟨fun i v B hi x hx => ?_, fun i j v v' B B' hij hi hj => ?_⟩, rfl, fun x hx => ?_, ?_, k.mv⟩
    · obtain ⟨_, rfl⟩ := one i v B hi; exact hx
    · obtain ⟨e1, _⟩ := one i v B hi
      obtain ⟨e2, _⟩ := one j v' B' hj
      omega
    · have hx' : x ∈ b :: Fb.l := hx
      rcases List.mem_cons.1 hx' with rfl | hx'
      · exact ⟨hge, heap_lt r4⟩
      · refine ⟨?_, (old x hx').1⟩
        rcases k.fb x hx' with h | h
        · exact h
        · cases h
    · refine @VR.bun ⟨b :: Fb.l, [(.slice (some ⟨b, 0, none⟩) m cap, b :: Fb.l)]⟩ [] [] w' 0 (.recs sh fs) m _ (b :: Fb.l) rfl
        (.inr (.inr ⟨sh, fs, rfl, b, cap, cs, t, (List.range fs.length).map g, rfl, hm, by omega, List.mem_cons_self, List.not_mem_nil, r4, by omega, by simp, fun p f Bp hf hbp => ?_, fun p q Bp Bq y hpq hp hq hy => ?_⟩))
      · obtain ⟨hlt, rfl⟩ := hBs p Bp hbp
        obtain ⟨v, h1, h2, h3⟩ := hg p f hf
        refine ⟨fun y hy => ?_, v, h1, h3⟩
        obtain ⟨x, B', e1, e2⟩ := h2 y hy
        have hl := k.env.sub _ _ _ e1 _ e2
        exact ⟨List.mem_cons_of_mem _ hl, fun hyb => (old y hl).2 (by rw [hyb]; exact hb)⟩
      · obtain ⟨hp', rfl⟩ := hBs p Bp hp
        obtain ⟨hq', rfl⟩ := hBs q Bq hq
        obtain ⟨_, _, h2, _⟩ := hg p _ (List.getElem?_eq_getElem hp')
        obtain ⟨_, _, h3, _⟩ := hg q _ (List.getElem?_eq_getElem hq')
        intro hy'
        obtain ⟨x, B', e1, e2⟩ := h2 y hy
        obtain ⟨x', B'', e3, e4⟩ := h3 y hy'
        exact k.env.dis _ _ _ _ _ _ (hi p q hp' hq' hpq) e1 e3 y e2 e4

/-- Records that are held, taken apart: a block of one's own, and fields that are held. -/
theorem open_recs {Fb : Forb} {ρ : List Nat} {H : Heap} {w : World} {c : Value} {sh : List Nat} {fs : List Fld} {m i : Nat} (E : EnvOk Fb) (hl : m * sh.length = fs.length) (hv : @VR Fb ρ H w (.bun i (.recs sh fs) m) c) (k : Int) :
    ∃ (b : Nat) (B : List Nat) (F1 : Forb), Fb.bun[i]? = some (c, B) ∧ @Sim F1 [b] [⟨.cells ((List.range fs.length).map fun p => (fs.getD p (.num 0)).hold p), 0⟩] w ∧
      @VRs F1 [b] [⟨.cells ((List.range fs.length).map fun p => (fs.getD p (.num 0)).hold p), 0⟩] w [.own 0 0 m 0 sh.length, .int .i64 k] [c, .int .i64 k] ∧ Kept B w F1 [b] fs.length w := by
  cases hv with
  | bun _ _ _ x B he h =>
  rcases h with ⟨_, _, _, _, h', _⟩ | ⟨h', _⟩ | ⟨sh', fs', he', h⟩
  · exact h'.elim
  · cases h'
  simp only [Cont.recs.injEq] at he'
  obtain ⟨rfl, rfl⟩ := he'
  obtain ⟨b, cap, cs, e, Bs, rfl, h2, h3, h4, h5, h6, h7, h8, h9, h10⟩ := h
  have at_ : ∀ p, p < fs.length → ∃ Bp v, Bs[p]? = some Bp ∧ cs[p]? = some v ∧ (∀ y ∈ Bp, y ∈ B ∧ y ≠ b) ∧ FldR Bp ρ w (fs.getD p (.num 0)) v := by
    intro p hp
    obtain ⟨g1, v, g2, g3⟩ := h9 p fs[p] Bs[p] (List.getElem?_eq_getElem hp) (List.getElem?_eq_getElem (by omega))
    exact ⟨_, v, List.getElem?_eq_getElem (by omega), g2, g1, by rw [List.getD_eq_getElem?_getD, List.getElem?_eq_getElem hp]; exact g3⟩
  -- only blocks that are there count
  let Q : List Nat → List Nat := fun L => L.filter fun y => decide (y < w.heap.size)
  let es : List (Value × List Nat) := (List.range fs.length).map fun p => (cs.getD p Go.undef, Q (Bs.getD p []))
  have hes : ∀ p v B', es[p]? = some (v, B') → p < fs.length ∧ v = cs.getD p Go.undef ∧ B' = Q (Bs.getD p []) := by
    intro p v B' h
    simp only [es, List.getElem?_map, Option.map_eq_some_iff] at h
    obtain ⟨i', hi', h⟩ := h
    have hlt : p < fs.length := by simpa using (List.getElem?_eq_some_iff.1 hi').1
    rw [List.getElem?_range hlt] at hi'
    simp only [Option.some.injEq] at hi'
    subst hi'
    simp only [Prod.mk.injEq] at h
    exact ⟨hlt, h.1.symm, h.2.symm⟩
  have hes2 : ∀ p, p < fs.length → es[p]? = some (cs.getD p Go.undef, Q (Bs.getD p [])) := by
    intro p hp
    simp only [es, List.getElem?_map, List.getElem?_range hp, Option.map_some]
  let all : List Nat := (List.range fs.length).flatMap fun p => Q (Bs.getD p [])
  have hall : ∀ y, y ∈ all ↔ ∃ p, p < fs.length ∧ y ∈ Q (Bs.getD p []) := by
    intro y; simp only [all, List.mem_flatMap, List.mem_range]
  have hQ : ∀ p y, p < fs.length → y ∈ Q (Bs.getD p []) → y < w.heap.size ∧ y ∈ B ∧ y ≠ b ∧ ∃ Bp, Bs[p]? = some Bp ∧ y ∈ Bp := by
    intro p y hp hy
    obtain ⟨Bp, v, g1, g2, g3, g4⟩ := at_ p hp
    simp only [Q, List.mem_filter, decide_eq_true_eq] at hy
    rw [List.getD_eq_getElem?_getD, g1, Option.getD_some] at hy
    exact ⟨hy.2, (g3 y hy.1).1, (g3 y hy.1).2, Bp, g1, hy.1⟩
  let F1 : Forb := ⟨all, es⟩
  refine ⟨b, B, F1, he, ?_, ?_, ?_⟩
  · refine @Sim.mk F1 _ _ _ rfl (by simp) (fun y hy => ?_) (fun l b' blk hl' hb' => ?_)
    · obtain ⟨p, hp, hy'⟩ := (hall y).1 hy
      obtain ⟨q1, q2, q3, _⟩ := hQ p y hp hy'
      exact ⟨q1, fun hm => q3 (by simpa using hm)⟩
    · cases l with
      | succ l => simp at hl'
      | zero =>
        simp only [List.getElem?_cons_zero, Option.some.injEq] at hl' hb'
        subst hl' hb'
        have hsz : fs.length ≤ cs.size := by
          have := Nat.mul_le_mul_right sh.length h2
          omega
        refine ⟨cs, e, h6, by simp only [BC.len, hlen_eq, List.length_map, List.length_range]; exact hsz, fun p u hu => ?_⟩
        simp only [BC.get?, nth_eq, List.getElem?_map, Option.map_eq_some_iff] at hu
        obtain ⟨p', hp', rfl⟩ := hu
        have hlt : p < fs.length := by simpa using (List.getElem?_eq_some_iff.1 hp').1
        rw [List.getElem?_range hlt] at hp'
        simp only [Option.some.injEq] at hp'
        subst hp'
        obtain ⟨Bp, v, g1, g2, g3, g4⟩ := at_ p hlt
        refine ⟨v, g2, ?_⟩
        have hgd : cs.getD p Go.undef = v := by rw [Array.getD_eq_getD_getElem?, g2]; rfl
        have he1 : F1.bun[p]? = some (v, Q (Bs.getD p [])) := by rw [← hgd]; exact hes2 p hlt
        have bunQ : ∀ {c : Cont} {cap : Nat} {a : Addr}, BunR Bp ρ w c cap a → BunR (Q (Bs.getD p [])) [b] w c cap a := by
          intro c cap a hB
          have mem : ∀ y, y ∈ Bp → y < w.heap.size → y ∈ Q (Bs.getD p []) := by
            intro y hy hlt
            simp only [Q, List.mem_filter, decide_eq_true_eq]
            rw [List.getD_eq_getElem?_getD, g1]
            exact ⟨hy, hlt⟩
          have nb : ∀ y, y ∈ Bp → y ∉ [b] := fun y hy hm => (g3 y hy).2 (by simpa using hm)
          cases c with
          | ints k r =>
            obtain ⟨y, cs, e, h1, h2, h3, h4, h5⟩ := hB
            exact ⟨y, cs, e, h1, mem y h2 (heap_lt h4), nb y h2, h4, h5⟩
          | rows k xss =>
            obtain ⟨y, cs, e, bs, h1, h2, h3, h4, h5, h6, h7, h8⟩ := hB
            refine ⟨y, cs, e, bs, h1, mem y h2 (heap_lt h4), nb y h2, h4, h5, h6, h7, fun j r bj hj hb => ?_⟩
            obtain ⟨k1, k2, capj, csj, ej, k3, k4, k5, k6⟩ := h8 j r bj hj hb
            exact ⟨mem bj k1 (heap_lt k5), nb bj k1, capj, csj, ej, k3, k4, k5, k6⟩
          | _ => exact hB.elim
        generalize fs.getD p (.num 0) = f at g4
        cases f with
        | num n =>
          have h : v = .int .i64 n := g4
          subst h
          exact @VR.int F1 _ _ _ _ _
        | list xs =>
          obtain ⟨a, cap', rfl, h1, h2⟩ := g4
          exact @VR.bun F1 _ _ _ p _ _ _ _ he1 (.inl ⟨rfl, a, cap', rfl, bunQ h1, h2, by simp [Cont.len]⟩)
        | rows xs =>
          obtain ⟨a, cap', rfl, h1, h2⟩ := g4
          exact @VR.bun F1 _ _ _ p _ _ _ _ he1 (.inl ⟨rfl, a, cap', rfl, bunQ h1, h2, by simp [Cont.len]⟩)
  · refine @VRs.cons F1 _ _ _ _ _ _ _ (@VR.own F1 [b] _ w 0 0 m 0 sh.length ⟨b, 0, none⟩ cap ⟨_, rfl, Nat.le_refl _, fun _ => ⟨b, cs, e, rfl, rfl, ?_, h6, by omega⟩⟩ h2) (@VRs.cons F1 _ _ _ _ _ _ _ (@VR.int F1 _ _ _ _ _) (@VRs.nil F1 _ _ _))
    simp only [BC.len, hlen_eq, List.length_map, List.length_range]; omega
  · refine ⟨⟨fun p v B' hi y hy => ?_, fun p q v v' B1 B2 hpq hi hj y h1 h2 => ?_⟩, ?_, MvX.refl _ _, fun y hy => .inr (by
        simp only [List.mem_singleton] at hy
        subst hy; exact h4), fun y hy => .inr ?_, List.nil_prefix⟩
    · obtain ⟨g1, _, rfl⟩ := hes p v B' hi
      exact (hall y).2 ⟨p, g1, hy⟩
    · obtain ⟨g1, _, rfl⟩ := hes p v B1 hi
      obtain ⟨g2, _, rfl⟩ := hes q v' B2 hj
      obtain ⟨_, _, _, Bp, e1, e2⟩ := hQ p y g1 h1
      obtain ⟨_, _, _, Bq, e3, e4⟩ := hQ q y g2 h2
      exact h10 p q Bp Bq y hpq e1 e3 e2 e4
    · show es.length = fs.length
      simp [es]
    · obtain ⟨p, hp, hy'⟩ := (hall y).1 hy
      exact (hQ p y hp hy').2.1
end Go.Proofs.Ythecninmmojkgaa.Ab
