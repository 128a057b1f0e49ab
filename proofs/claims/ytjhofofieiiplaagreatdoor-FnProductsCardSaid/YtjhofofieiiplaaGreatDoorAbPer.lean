/-
  The abstract machine: a state may be renumbered.
-/
import Derived.Test.YtjhofofieiiplaaGreatDoorAbRun
import Derived.Test.YtjhofofieiiplaaGreatDoorAbGc
namespace Go.Proofs.YtjhofofieiiplaaGreatDoor.Ab
open Go
set_option linter.unusedVariables false
set_option linter.unusedSimpArgs false

theorem pos_at {L : List Nat} (hnd : L.Nodup) {j l : Nat} (h : L[j]? = some l) : ∀ i, pos L l i = some (i + j) := by
  induction L generalizing j with
  | nil => simp at h
  | cons k r ih =>
    intro i
    simp only [pos, eqN_eq]
    cases j with
    | zero => simp at h; subst h; simp
    | succ j =>
      simp only [List.getElem?_cons_succ] at h
      have hk : k ≠ l := fun e => (List.nodup_cons.1 hnd).1 (e ▸ List.mem_of_getElem? h)
      have : (k == l) = false := by simpa using hk
      simp only [this, cond_false]
      rw [ih (List.nodup_cons.1 hnd).2 h (i + 1)]
      congr 1; omega

def permS (ks : List Nat) (s : State) : State := ⟨AVal.re.res ks s.h s.t, reB ks s.h ks⟩
variable {ρ : List Nat} {H : Heap} {w : World} {ks : List Nat}

theorem Sim.re [Fb : Forb] (S : Sim ρ H w) (hnd : ks.Nodup) (hlt : ∀ k ∈ ks, k < H.length) : Sim (reρ ρ ks) (reB ks H ks) w := by
  refine ⟨by simp [reρ, reB_len], ?_, fun b hb => ⟨(S.forb b hb).1, fun hm => ?_⟩, fun l b blk hl hb => ?_⟩
  · refine List.pairwise_iff_getElem.2 fun i j hi hj hij heq => ?_
    have hi' : i < ks.length := by simpa [reρ] using hi
    have hj' : j < ks.length := by simpa [reρ] using hj
    have e1 := hlt _ (List.getElem_mem hi')
    have e2 := hlt _ (List.getElem_mem hj')
    rw [← S.len] at e1 e2
    have : ρ[ks[i]]? = ρ[ks[j]]? := by
      simp only [reρ, List.getElem_map, List.getD_eq_getElem?_getD, List.getElem?_eq_getElem e1, List.getElem?_eq_getElem e2, Option.getD_some] at heq
      rw [List.getElem?_eq_getElem e1, List.getElem?_eq_getElem e2, heq]
    have := (List.getElem?_inj e1 S.nodup).1 this
    exact (List.pairwise_iff_getElem.1 hnd i j hi' hj' hij) this
  · obtain ⟨k, _, hk⟩ := reρ_mem S hlt hm
    exact (S.forb b hb).2 (List.mem_of_getElem? hk)
  · obtain ⟨k, blk0, e1, e2, rfl⟩ := reB_get ks H ks hlt l blk hl
    have hkρ : ρ[k]? = some b := by
      have hk := hlt k (List.mem_of_getElem? e1)
      rw [← S.len] at hk
      have := reρ_at (ρ := ρ) e1 (List.getElem?_eq_getElem hk)
      rw [List.getElem?_eq_getElem hk, ← this]; exact hb
    obtain ⟨cs, e, h1, h2, h3⟩ := S.blk k b blk0 e2 hkρ
    refine ⟨cs, e, h1, by simpa only [BC.re_len] using h2, fun i u hu => ?_⟩
    obtain ⟨bc, ver⟩ := blk0
    cases bc with
    | typ c0 =>
      simp only [BC.re, BC.get?] at hu
      obtain ⟨x, hx, hvr⟩ := h3 i u hu
      have e2 : u.re ks H = u := by
        cases c0 <;> simp only [Cont.get?] at hu <;> split at hu <;> simp only [Option.some.injEq, reduceCtorEq] at hu <;> subst hu <;> first | rfl | (rename_i f _; cases f <;> rfl)
      exact ⟨x, hx, e2 ▸ hvr.re S hlt⟩
    | cells vs =>
      simp only [BC.re, BC.get?, nth_eq, res_eq, List.getElem?_map, Option.map_eq_some_iff] at hu
      obtain ⟨u0, hu0, rfl⟩ := hu
      obtain ⟨x, hx, hvr⟩ := h3 i u0 (by simpa [BC.get?, nth_eq] using hu0)
      exact ⟨x, hx, hvr.re S hlt⟩

theorem TR.re [Fb : Forb] (S : Sim ρ H w) (hlt : ∀ k ∈ ks, k < H.length) {t : List AVal} {a : Array Value} (h : TR ρ H w t a) : TR (reρ ρ ks) (reB ks H ks) w (AVal.re.res ks H t) a := by
  refine ⟨by rw [res_eq, List.length_map]; exact h.1, fun i v hi => ?_, h.gl.thin fun b hb => ⟨hb.1, fun hm => ?_, hb.2.2⟩⟩
  case refine_2 =>
    obtain ⟨k, _, hk⟩ := reρ_mem S hlt hm
    exact hb.2.1 (List.mem_of_getElem? hk)
  simp only [res_eq, List.getElem?_map, Option.map_eq_some_iff] at hi
  obtain ⟨u, hu, rfl⟩ := hi
  exact (h.2 i u hu).re S hlt

/-- A permutation that keeps the first blocks. -/
structure Perm (n0 n : Nat) (ks : List Nat) : Prop where
  nodup : ks.Nodup
  lt : ∀ k ∈ ks, k < n
  fix : ∀ i, i < n0 → i < n → ks[i]? = some i

theorem Mv.re [Fb : Forb] {ρ0 : List Nat} {H0 : Heap} {w0 : World} (S : Sim ρ H w) (m : Mv ρ0 H0 w0 ρ H w) (p : Perm H0.length H.length ks) : Mv ρ0 H0 w0 (reρ ρ ks) (reB ks H ks) w := by
  refine ⟨m.os, m.tape, m.output, m.size, fun b h1 h2 => ⟨(m.frame b h1 h2).1, fun hm => ?_⟩, fun l blk hl => ?_⟩
  · obtain ⟨k, _, hk⟩ := reρ_mem S p.lt hm
    exact (m.frame b h1 h2).2 (List.mem_of_getElem? hk)
  · obtain ⟨blk', g1, g2, g3⟩ := m.keep l blk hl
    have l0 : l < H0.length := (List.getElem?_eq_some_iff.1 hl).1
    have l1 : l < H.length := (List.getElem?_eq_some_iff.1 g1).1
    have hk := p.fix l l0 l1
    refine ⟨_, reB_at ks H ks l l blk' hk g1, g2, fun e => ?_⟩
    obtain ⟨q1, q2, q3⟩ := g3 e
    refine ⟨?_, by rw [BC.re_len]; exact q2, q3⟩
    have l2 : l < ρ.length := by rw [S.len]; exact l1
    have : (reρ ρ ks)[l]? = some ρ[l] := reρ_at hk (List.getElem?_eq_getElem l2)
    rw [this, ← q1, List.getElem?_eq_getElem l2]

theorem St.perm [Fb : Forb] {ρ0 : List Nat} {H0 : Heap} {w0 : World} {s : State} {a : Act} (h : St ρ0 H0 w0 s a w) (p : Perm H0.length s.h.length ks) : St ρ0 H0 w0 (permS ks s) a w := by
  obtain ⟨⟨ρ, T, S, M⟩, hd⟩ := h
  exact ⟨⟨reρ ρ ks, T.re S p.lt, S.re p.nodup p.lt, M.re S p⟩, hd⟩

end Go.Proofs.YtjhofofieiiplaaGreatDoor.Ab
