/-
  The abstract machine: a list that is nil is a list to be read, of length nought. So results of two shapes have one.
-/
import Derived.Test.YthecninmmojkgaaAbFrz
import Derived.Test.YthecninmmojkgaaAbSub
namespace Go.Proofs.Ythecninmmojkgaa.Ab
open Go
set_option linter.unusedVariables false
set_option linter.unusedSimpArgs false

def AVal.nro : AVal → AVal
  | .nils => .ro (.ints .i64 []) 0 1
  | v => v
def AVal.nroT : AVal → AVal
  | .tup vs => .tup (mapL AVal.nro vs)
  | v => v.nro
theorem VR.nro [Fb : Forb] {ρ : List Nat} {H : Heap} {w : World} {v : AVal} {c : Value} (h : VR ρ H w v c) : VR ρ H w v.nro c := by
  cases v <;> try exact h
  cases h
  exact .ro _ 0 1 none 0 (fun _ => rfl) (fun p hp => by cases hp) (Nat.le_refl _) (by simp)
theorem VR.nroT [Fb : Forb] {ρ : List Nat} {H : Heap} {w : World} {v : AVal} {c : Value} (h : VR ρ H w v c) : VR ρ H w v.nroT c := by
  cases v <;> try exact h.nro
  rename_i vs
  cases h with
  | tup _ cs hl hh =>
    refine .tup _ cs (by simp [mapL_eq, hl]) fun i v hv => ?_
    rw [mapL_eq, List.getElem?_map, Option.map_eq_some_iff] at hv
    obtain ⟨u, hu, rfl⟩ := hv
    exact (hh i u hu).nro
theorem ACalls.nroT {P : Program} {f : FuncId} {args : List AVal} {H H' : Heap} {v : AVal} (h : ACalls P f args H v H') : ACalls P f args H v.nroT H' := by
  intro Fb ρ w cargs S hargs
  exact (h ρ w cargs S hargs).mono fun e w' ⟨c, he, ρ', hv, hs, hm⟩ => ⟨c, he, ρ', hv.nroT, hs, hm⟩
def layN (R : List AVal → Option (Bool × AVal × List Blk)) (args : List AVal) : Option (Bool × AVal) :=
  match layF R args with
  | some (b, v) => some (b, v.nroT)
  | none => none
theorem EntOk.nro {P : Program} {f : FuncId} {R : List AVal → Option (Bool × AVal × List Blk)} (h : EntOk P ⟨f, R⟩) : EntFOk P ⟨f, layN R⟩ := by
  have h2 := h.frz
  refine ⟨h2.1, fun args H v hR => ?_⟩
  simp only [layN] at hR
  split at hR
  · rename_i b u hu
    simp only [Option.some.injEq, Prod.mk.injEq] at hR
    obtain ⟨rfl, rfl⟩ := hR
    exact ACalls.nroT (h2.2 args H u hu)
  · cases hR
theorem EntFOk.cases {P : Program} {f : FuncId} {R R1 R2 : List AVal → Option (Bool × AVal)} (h1 : EntFOk P ⟨f, R1⟩) (h2 : EntFOk P ⟨f, R2⟩)
    (h : ∀ args v, R args = some (true, v) → R1 args = some (true, v) ∨ R2 args = some (true, v)) : EntFOk P ⟨f, R⟩ :=
  ⟨h1.1, fun args H v hR => by
    rcases h _ v hR with h | h
    · exact h1.2 args H v h
    · exact h2.2 args H v h⟩
theorem EntFOk.sub {P : Program} {f : FuncId} {R R1 : List AVal → Option (Bool × AVal)} (h1 : EntFOk P ⟨f, R1⟩) (h : ∀ args v, R args = some (true, v) → R1 args = some (true, v)) : EntFOk P ⟨f, R⟩ :=
  ⟨h1.1, fun args H v hR => h1.2 args H v (h _ v hR)⟩

/-! The same for lists of lists. -/
def AVal.nrw : AVal → AVal
  | .nils => .ro (.rows .i64 []) 0 1
  | v => v
def AVal.nrwT : AVal → AVal
  | .tup vs => .tup (mapL AVal.nrw vs)
  | v => v.nrw
theorem VR.nrw [Fb : Forb] {ρ : List Nat} {H : Heap} {w : World} {v : AVal} {c : Value} (h : VR ρ H w v c) : VR ρ H w v.nrw c := by
  cases v <;> try exact h
  cases h
  exact .ro _ 0 1 none 0 (fun _ => rfl) (fun p hp => by cases hp) (Nat.le_refl _) (by simp)
theorem VR.nrwT [Fb : Forb] {ρ : List Nat} {H : Heap} {w : World} {v : AVal} {c : Value} (h : VR ρ H w v c) : VR ρ H w v.nrwT c := by
  cases v <;> try exact h.nrw
  rename_i vs
  cases h with
  | tup _ cs hl hh =>
    refine .tup _ cs (by simp [mapL_eq, hl]) fun i v hv => ?_
    rw [mapL_eq, List.getElem?_map, Option.map_eq_some_iff] at hv
    obtain ⟨u, hu, rfl⟩ := hv
    exact (hh i u hu).nrw
theorem ACalls.nrwT {P : Program} {f : FuncId} {args : List AVal} {H H' : Heap} {v : AVal} (h : ACalls P f args H v H') : ACalls P f args H v.nrwT H' := by
  intro Fb ρ w cargs S hargs
  exact (h ρ w cargs S hargs).mono fun e w' ⟨c, he, ρ', hv, hs, hm⟩ => ⟨c, he, ρ', hv.nrwT, hs, hm⟩
def layNR (R : List AVal → Option (Bool × AVal × List Blk)) (args : List AVal) : Option (Bool × AVal) :=
  match layF R args with
  | some (b, v) => some (b, v.nrwT)
  | none => none
theorem EntOk.nrw {P : Program} {f : FuncId} {R : List AVal → Option (Bool × AVal × List Blk)} (h : EntOk P ⟨f, R⟩) : EntFOk P ⟨f, layNR R⟩ := by
  have h2 := h.frz
  refine ⟨h2.1, fun args H v hR => ?_⟩
  simp only [layNR] at hR
  split at hR
  · rename_i b u hu
    simp only [Option.some.injEq, Prod.mk.injEq] at hR
    obtain ⟨rfl, rfl⟩ := hR
    exact ACalls.nrwT (h2.2 args H u hu)
  · cases hR
/-! The same for calls whose lists are read alone already. -/
def wkR (R : List AVal → Option (Bool × AVal × List Blk)) (args : List AVal) : Option (Bool × AVal × List Blk) :=
  match R args with
  | some (b, v, new) => some (b, v.nrwT, new)
  | none => none
theorem EntOk.wkR {P : Program} {f : FuncId} {R : List AVal → Option (Bool × AVal × List Blk)} (h : EntOk P ⟨f, R⟩) : EntOk P ⟨f, Ab.wkR R⟩ := by
  refine ⟨h.1, fun args v new hR => ?_⟩
  simp only [Ab.wkR] at hR
  split at hR
  · rename_i b u n hu
    simp only [Option.some.injEq, Prod.mk.injEq] at hR
    obtain ⟨rfl, rfl, rfl⟩ := hR
    exact ACalls.nrwT (h.2 _ _ _ hu)
  · cases hR
def wkI (R : List AVal → Option (Bool × AVal × List Blk)) (args : List AVal) : Option (Bool × AVal × List Blk) :=
  match R args with
  | some (b, v, new) => some (b, v.nroT, new)
  | none => none
theorem EntOk.wkI {P : Program} {f : FuncId} {R : List AVal → Option (Bool × AVal × List Blk)} (h : EntOk P ⟨f, R⟩) : EntOk P ⟨f, Ab.wkI R⟩ := by
  refine ⟨h.1, fun args v new hR => ?_⟩
  simp only [Ab.wkI] at hR
  split at hR
  · rename_i b u n hu
    simp only [Option.some.injEq, Prod.mk.injEq] at hR
    obtain ⟨rfl, rfl, rfl⟩ := hR
    exact ACalls.nroT (h.2 _ _ _ hu)
  · cases hR
end Go.Proofs.Ythecninmmojkgaa.Ab
