/-
  The abstract machine: calls carried out at once (the bits of floats), beside others; contracts out of what is known of a call.
-/
import Derived.Test.YtjhofofieiiplaaGreatDoorAbSqr
import Derived.Below
namespace Go.Proofs.YtjhofofieiiplaaGreatDoor.Ab
open Go
set_option linter.unusedVariables false
set_option linter.unusedSimpArgs false

def nnan.sp (k : FloatKind) (b : Nat) : Bool := !(k.decode b).isNaN
/-- 0, 2: the bits of a double, a single; 1, 3: the double, the single of some bits. -/
def natR : Nat → List AVal → Option (Bool × AVal)
  | 0, [.flt .f64 b] => some (nnan.sp .f64 b, .int .u64 (b : Int))
  | 0, [.fex .f64 b] => some (true, .int .u64 (b : Int))
  | 1, [.int .u64 n] => some (true, .flt .f64 n.toNat)
  | 2, [.flt .f32 b] => some (nnan.sp .f32 b, .int .u32 (b : Int))
  | 2, [.fex .f32 b] => some (true, .int .u32 (b : Int))
  | 3, [.int .u32 n] => some (true, .flt .f32 n.toNat)
  | _, _ => none
def natF : Nat → Array Value → Sem Value
  | 0 => Extern.MathFloatBits.float64bits
  | 1 => Extern.MathFloatBits.float64frombits
  | 2 => Extern.MathFloatBits.float32bits
  | _ => Extern.MathFloatBits.float32frombits
def findN : List (FuncId × Nat) → FuncId → Option Nat
  | [], _ => none
  | (g, k) :: r, f => bif eqN g f then some k else findN r f
def orcN (ns : List (FuncId × Nat)) (A : OrcK) : OrcK := fun f args H => match findN ns f with
  | some k => match natR k args with
    | some (b, v) => some (b, v, .ext [])
    | none => none
  | none => A f args H
instance orcN_loc (ns : List (FuncId × Nat)) (A : OrcK) [hA : OrcLoc A] : OrcLoc (orcN ns A) := by
  refine ⟨?_⟩
  intro f args H H' b v h l hl hn
  unfold orcN at h
  split at h
  · split at h
    · simp at h
    · cases h
  · exact hA.loc h l hl hn
theorem natR_ren (f : Nat → Nat) {k : Nat} {args : List AVal} {b : Bool} {v : AVal} (h : natR k args = some (b, v)) : natR k (args.map (AVal.ren f)) = some (b, v.ren f) := by
  unfold natR at h
  split at h <;> simp only [Option.some.injEq, Prod.mk.injEq, reduceCtorEq] at h
  all_goals (obtain ⟨rfl, rfl⟩ := h; rfl)
instance orcN_ren (ns : List (FuncId × Nat)) (A : OrcK) [hA : OrcRen A] : OrcRen (orcN ns A) := by
  refine ⟨?_⟩
  intro f G H H2 r g args b v n h
  unfold orcN at h ⊢
  split at h
  · split at h
    · rename_i b1 v1 hv
      simp only [Option.some.injEq, Prod.mk.injEq, Eff.ext.injEq] at h
      obtain ⟨rfl, rfl, rfl⟩ := h
      rw [natR_ren f hv]
      rfl
    · cases h
  · exact hA.ren r h
def NatsOk (P : Program) (ns : List (FuncId × Nat)) : Prop := ∀ p ∈ ns, IsBits P p.1 (natF p.2)
theorem nnan_eq {k : FloatKind} {a b : Nat} (hn : nnan.sp k a = true) (h : fsame k a b) : a = b := by
  rcases h with h | ⟨h, _⟩
  · exact h
  · unfold nnan.sp at hn; rw [h] at hn; cases hn
theorem natR_ok [Fb : Forb] {P : Program} {ρ : List Nat} {H : Heap} {w : World} {k : Nat} {args : List AVal} {v : AVal} (h : natR k args = some (true, v)) {cs : List Value} (hv : VRs ρ H w args cs) :
    ∃ c, (natF k cs.toArray).run P w = .ok c w ∧ VR ρ H w v c := by
  unfold natR at h
  split at h <;> simp only [Option.some.injEq, Prod.mk.injEq, reduceCtorEq, true_and] at h
  · obtain ⟨hn, rfl⟩ := h
    obtain ⟨c1, cs1, rfl, v1, hv1⟩ := hv.inv_cons
    obtain rfl := hv1.inv_nil
    cases v1
    rename_i hs
    obtain rfl := nnan_eq hn hs
    exact ⟨_, rfl, .int _ _⟩
  · subst h
    obtain ⟨c1, cs1, rfl, v1, hv1⟩ := hv.inv_cons
    obtain rfl := hv1.inv_nil
    cases v1
    exact ⟨_, rfl, .int _ _⟩
  · subst h
    obtain ⟨c1, cs1, rfl, v1, hv1⟩ := hv.inv_cons
    obtain rfl := hv1.inv_nil
    cases v1
    exact ⟨_, rfl, .flt _ _ _ (.inl rfl)⟩
  · obtain ⟨hn, rfl⟩ := h
    obtain ⟨c1, cs1, rfl, v1, hv1⟩ := hv.inv_cons
    obtain rfl := hv1.inv_nil
    cases v1
    rename_i hs
    obtain rfl := nnan_eq hn hs
    exact ⟨_, rfl, .int _ _⟩
  · subst h
    obtain ⟨c1, cs1, rfl, v1, hv1⟩ := hv.inv_cons
    obtain rfl := hv1.inv_nil
    cases v1
    exact ⟨_, rfl, .int _ _⟩
  · subst h
    obtain ⟨c1, cs1, rfl, v1, hv1⟩ := hv.inv_cons
    obtain rfl := hv1.inv_nil
    cases v1
    exact ⟨_, rfl, .flt _ _ _ (.inl rfl)⟩
theorem orcN_ok {P : Program} {ns : List (FuncId × Nat)} {A : OrcK} (hn : NatsOk P ns) (hA : OrcOk P A.plain) : OrcOk P (orcN ns A).plain := by
  intro f args H v H' hh
  have find : ∀ (ns : List (FuncId × Nat)), NatsOk P ns → ∀ k, findN ns f = some k → IsBits P f (natF k) := by
    intro ns
    induction ns with
    | nil => intro _ k hk; cases hk
    | cons p r ih =>
      intro he k hk
      obtain ⟨g, j⟩ := p
      simp only [findN, eqN_eq] at hk
      cases hb : g == f with
      | true =>
        simp only [hb, cond_true, Option.some.injEq] at hk
        have hf : g = f := by simpa using hb
        subst hk hf
        exact he _ List.mem_cons_self
      | false =>
        simp only [hb, cond_false] at hk
        exact ih (fun q hq => he q (List.mem_cons_of_mem _ hq)) k hk
  cases hf : findN ns f with
  | none =>
    refine hA f args H v H' ?_
    simp only [OrcK.plain, orcN, hf] at hh
    exact hh
  | some k =>
    have hb := find ns hn k hf
    simp only [OrcK.plain, orcN, hf] at hh
    split at hh
    · rename_i b u e hr
      split at hr
      · rename_i b0 v0 hnew
        simp only [Option.some.injEq, Prod.mk.injEq] at hr
        obtain ⟨rfl, rfl, rfl⟩ := hr
        cases b0 with
        | false => simp at hh
        | true =>
          simp only [cond_true, Option.some.injEq, Prod.mk.injEq, Eff.heap] at hh
          obtain ⟨rfl, rfl⟩ := hh
          refine ⟨?_⟩
          intro F ρ w cargs S hargs gl
          obtain ⟨c, h1, h2⟩ := natR_ok (P := P) hnew hargs
          obtain ⟨fn, k1, k2, k3, k4, k5⟩ := hb.ex
          have hr : (callFunc f cargs).run P w = .ok (.value c) w := by
            rw [run_callFunc_extern k1 k2 k3 k4 k5, show cargs = cargs.toList.toArray from rfl, h1]; rfl
          exact outs_value S h2 hr
      · cases hr
    · cases hh

/-! Contracts out of what is known of a call. -/
theorem below_mv {w w' : World} (h : Go.RowKit.Below w.heap.size w w') : Mv [] [] w [] [] w' :=
  ⟨h.os, h.tape, h.output, h.size, fun b hb _ => ⟨h.block b hb, by simp⟩, fun l blk hl => by simp at hl⟩
theorem ent_of {P : Program} {f : FuncId} {R : List AVal → Option (Bool × AVal × List Blk)} (he : Enters P f)
    (h : ∀ args v new, R args = some (true, v, new) → new = [] ∧ ∀ [Fb : Forb] (w : World) (cargs : Array Value), Sim [] [] w → VRs [] [] w args cargs.toList → GL [] w → Calls P f cargs w fun e w' => ∃ c, e = .returned c ∧ Go.RowKit.Below w.heap.size w w' ∧ (Sim [] [] w' → VR [] [] w' v c)) : EntOk P ⟨f, R⟩ := by
  refine ⟨he, fun args v new hR => ?_⟩
  obtain ⟨rfl, h2⟩ := h args v new hR
  intro F ρ w cargs S hargs gl
  have hρ : ρ = [] := List.eq_nil_of_length_eq_zero S.len
  subst hρ
  refine (@h2 F w cargs S hargs gl).mono fun e w' ⟨c, h1, hb, hv⟩ => ?_
  have M := below_mv hb
  have S' : Sim [] [] w' := ⟨rfl, List.nodup_nil, S.forbMv M, fun l b blk h => by simp at h⟩
  exact ⟨c, h1, [], hv S', S', M⟩
/-- The same for words exactly known: a contract for a float, out of contracts for each. -/
theorem acalls_fex {P : Program} {f : FuncId} {k : FloatKind} {a : Nat} {v : Nat → AVal} {u : AVal} (h : ∀ b, fsame k a b → ACalls P f [.fex k b] [] (v b) [])
    (hv : ∀ [Fb : Forb] b w c, fsame k a b → VR [] [] w (v b) c → VR [] [] w u c) : ACalls P f [.flt k a] [] u [] := by
  intro F ρ w cargs S hargs gl
  have hρ : ρ = [] := List.eq_nil_of_length_eq_zero S.len
  subst hρ
  obtain ⟨c1, cs1, e1, v1, hv1⟩ := hargs.inv_cons
  obtain rfl := hv1.inv_nil
  cases v1
  rename_i b hs
  refine (@h b hs F [] w cargs S (by rw [e1]; exact .cons (.fex _ _) (.nil _ _ _)) gl).mono fun e w' ⟨c, he, ρ', V, S', M⟩ => ?_
  have hρ : ρ' = [] := List.eq_nil_of_length_eq_zero S'.len
  subst hρ
  exact ⟨c, he, [], hv b w' c hs V, S', M⟩

end Go.Proofs.YtjhofofieiiplaaGreatDoor.Ab
