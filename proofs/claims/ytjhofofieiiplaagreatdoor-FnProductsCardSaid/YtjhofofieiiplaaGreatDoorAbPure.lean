/-
  The abstract machine: operations that touch no memory are sound.
-/
import Derived.Test.YtjhofofieiiplaaGreatDoorAbFlt
namespace Go.Proofs.YtjhofofieiiplaaGreatDoor.Ab
open Go
set_option linter.unusedVariables false
set_option linter.unusedSimpArgs false

/-- An operation comes to a value, and draws at the most. -/
def PureOk [Fb : Forb] (P : Program) (ρ : List Nat) (H : Heap) (w : World) (v : AVal) (m : Sem Value) : Prop :=
  ∃ c w', m.run P w = .ok c w' ∧ Drawn w w' ∧ VR ρ H w v c

theorem PureOk.same [Fb : Forb] {P : Program} {ρ : List Nat} {H : Heap} {w : World} {v : AVal} {m : Sem Value} {c : Value} (h : m.run P w = .ok c w) (hv : VR ρ H w v c) : PureOk P ρ H w v m := ⟨c, w, h, .inl rfl, hv⟩

def quietVal : Value → Bool
  | .nilIface | .agg _ => false
  | _ => true
theorem eqGuard_ok {P : Program} {w : World} (op : BinOp) (t : TypeId) (x y : Operand) (a b : Value) (h : quietVal a = true) : (eqGuard op t x y a b).run P w = .ok () w := by
  unfold eqGuard
  cases op <;> simp <;> cases a <;> simp [quietVal] at h <;> simp

theorem underlying_bool {P : Program} {t : TypeId} (h : isBoolT P t = true) : P.underlying t = some .bool := by
  unfold isBoolT at h; split at h <;> first | assumption | cases h
theorem underlying_slice {P : Program} {t : TypeId} (h : isSliceT P t = true) : ∃ e, P.underlying t = some (.slice e) := by
  unfold isSliceT at h; split at h
  · rename_i e he; exact ⟨e, he⟩
  · cases h

theorem run_equal_bool {P : Program} {t : TypeId} (h : P.underlying t = some .bool) (a b : Bool) (w : World) : (Op.equal t (.bool a) (.bool b)).run P w = .ok (a == b) w := by
  unfold Op.equal Op.maxDepth Op.equalIn
  simp [run_underlying h]
theorem run_equal_nil {P : Program} {t e : TypeId} (h : P.underlying t = some (.slice e)) (w : World) (n c : Nat) (b : Option Addr) (m d : Nat) : (Op.equal t (.slice none n c) (.slice b m d)).run P w = .ok b.isNone w := by
  unfold Op.equal Op.maxDepth Op.equalIn
  simp [run_underlying h]
theorem run_equal_own {P : Program} {t e : TypeId} (h : P.underlying t = some (.slice e)) (w : World) (a : Addr) (n c m d : Nat) : (Op.equal t (.slice (some a) n c) (.slice none m d)).run P w = .ok false w := by
  unfold Op.equal Op.maxDepth Op.equalIn
  simp [run_underlying h]

theorem str_ok [Fb : Forb] {P : Program} {ρ : List Nat} {H : Heap} {w : World} {op : BinOp} {t : TypeId} {a b : ByteArray} {v : AVal}
    (h : abin P t op (.str a) (.str b) = some v) : PureOk P ρ H w v (binOp op t (.string a) (.string b)) := by
  unfold abin at h
  cases op <;> simp only [Bool.cond_eq_ite, Option.some.injEq, reduceCtorEq] at h
  case add =>
    split at h
    · rename_i hb
      have hb := of_decide_eq_true hb
      unfold satn.sv at hb
      simp only [Option.some.injEq] at h; subst h
      have hm : IntKind.i64.max = 9223372036854775807 := rfl
      have hb2 : ¬ (((a.size + b.size : Nat) : Int) > IntKind.i64.max) := by rw [hm]; omega
      exact .same (c := .string (a ++ b)) (by simp only [binOp, Op.stringOp]; rw [if_neg hb2]; rfl) (.str _)
    · cases h
  all_goals
    subst h
    exact .same (c := .bool _) (by simp only [binOp, Op.stringOp]; rfl) (.bool _)
theorem int_ok [Fb : Forb] {P : Program} {ρ : List Nat} {H : Heap} {w : World} {op : BinOp} {t : TypeId} {k k' : IntKind} {a b : Int} {v : AVal}
    (h : abin P t op (.int k a) (.int k' b) = some v) : PureOk P ρ H w v (binOp op t (.int k a) (.int k' b)) := by
  unfold abin at h
  cases op <;> simp only [Bool.cond_eq_ite] at h
  case shl =>
    split at h
    · rename_i hb; simp only [decide_eq_true_eq] at hb; simp only [Option.some.injEq] at h; subst h
      exact .same (by simp [binOp, Op.shift, ishl.sv, ishr.sv, show ¬ b < 0 by omega]) (.int _ _)
    · cases h
  case shr =>
    split at h
    · rename_i hb; simp only [decide_eq_true_eq] at hb; simp only [Option.some.injEq] at h; subst h
      exact .same (by simp [binOp, Op.shift, ishl.sv, ishr.sv, show ¬ b < 0 by omega]) (.int _ _)
    · cases h
  case quo =>
    split at h
    · rename_i hk; subst hk
      split at h
      · rename_i hb; simp only [Option.some.injEq] at h; subst h
        exact .same (by simp at hb; simp [binOp, Op.intDiv, hb]) (.int _ _)
      · cases h
    · cases h
  case rem =>
    split at h
    · rename_i hk; subst hk
      split at h
      · rename_i hb; simp only [Option.some.injEq] at h; subst h
        exact .same (by simp at hb; simp [binOp, Op.intDiv, hb]) (.int _ _)
      · cases h
    · cases h
  all_goals
    split at h
    · rename_i hk; subst hk
      simp only [Option.some.injEq] at h; subst h
      first
        | (refine .same (c := .int _ _) ?_ (.int _ _); simp only [binOp, ne_eq, not_true_eq_false, if_false, Op.intBits]; rfl)
        | exact .same (by simp [binOp, Op.intArith]; done) (.int _ _)
        | exact .same (by simp [binOp, Op.intCmp]; done) (.bool _)
        | exact .same (c := .bool _) (by simp only [binOp, Op.intCmp, ne_eq, not_true_eq_false, if_false]; rfl) (.bool _)
        | exact .same (c := .int _ _) (by simp only [binOp, ne_eq, not_true_eq_false, if_false]; rfl) (.int _ _)
    · cases h

theorem flt_ok [Fb : Forb] {P : Program} {ρ : List Nat} {H : Heap} {w : World} {op : BinOp} {t : TypeId} {k k' : FloatKind} {a b c d : Nat} {v : AVal}
    (h : abin P t op (.flt k a) (.flt k' b) = some v) (h1 : fsame k a c) (h2 : fsame k' b d) : PureOk P ρ H w v (binOp op t (.float k c) (.float k' d)) := by
  unfold abin at h
  simp only [] at h
  split at h
  · rename_i hk; subst hk
    have ho := order_same h1 h2
    cases op <;> simp only [Option.some.injEq, reduceCtorEq] at h <;> subst h
    case add =>
      obtain ⟨r, w', e1, e2, e3⟩ := farith_ok (P := P) (k := k) (op := .add) (f := k.format.add) w c d (by simp)
      exact ⟨_, w', by simpa [binOp] using e1, e2, .flt _ _ _ (by rw [fadd, op_same add_l add_r h1 h2]; exact e3)⟩
    case sub =>
      obtain ⟨r, w', e1, e2, e3⟩ := farith_ok (P := P) (k := k) (op := .sub) (f := k.format.sub) w c d (by simp)
      exact ⟨_, w', by simpa [binOp] using e1, e2, .flt _ _ _ (by rw [fsub, op_same sub_l sub_r h1 h2]; exact e3)⟩
    case mul =>
      obtain ⟨r, w', e1, e2, e3⟩ := farith_ok (P := P) (k := k) (op := .mul) (f := k.format.mul) w c d (by simp)
      exact ⟨_, w', by simpa [binOp] using e1, e2, .flt _ _ _ (by rw [fmul, op_same mul_l mul_r h1 h2]; exact e3)⟩
    case quo =>
      obtain ⟨r, w', e1, e2, e3⟩ := farith_ok (P := P) (k := k) (op := .quo) (f := k.format.div) w c d (by simp)
      exact ⟨_, w', by simpa [binOp] using e1, e2, .flt _ _ _ (by rw [fdiv, op_same div_l div_r h1 h2]; exact e3)⟩
    all_goals exact .same (c := .bool _) (by simp only [binOp, ne_eq, not_true_eq_false, if_false, Op.floatCmp, ← ho]; rfl) (.bool _)
  · cases h

theorem run_cmp_eql {P : Program} (k : FloatKind) (x y : Nat) (w : World) : (Op.Complex.cmp .eql k x y).run P w = .ok (k.format.order x y == some .eq) w := by
  simp [Op.Complex.cmp, Op.floatCmp, asBool]

theorem bin_ok [Fb : Forb] {P : Program} {ρ : List Nat} {H : Heap} {w : World} {op : BinOp} {t : TypeId} {x y : AVal} {cx cy : Value} {v : AVal}
    (h : abin P t op x y = some v) (hx : VR ρ H w x cx) (hy : VR ρ H w y cy) : PureOk P ρ H w v (binOp op t cx cy) ∧ quietVal cx = true := by
  cases hx
  case int k a =>
    refine ⟨?_, rfl⟩
    cases hy
    case int k' b => exact int_ok h
    all_goals simp [abin] at h
  case flt k a c h1 =>
    refine ⟨?_, rfl⟩
    cases hy
    case flt k' b d h2 => exact flt_ok h h1 h2
    all_goals simp [abin] at h
  case bool a =>
    refine ⟨?_, rfl⟩
    cases hy
    case bool b =>
      unfold abin at h
      simp only [Bool.cond_eq_ite] at h
      split at h
      · rename_i hb
        have hu := underlying_bool hb
        cases op <;> simp only [Option.some.injEq, reduceCtorEq] at h <;> subst h
        · exact .same (c := .bool _) (by simp [binOp, run_equal_bool hu]) (.bool _)
        · exact .same (c := .bool _) (by simp [binOp, run_equal_bool hu]) (.bool _)
      · cases h
    all_goals simp [abin] at h
  case cpx k a b c d h1 h2 =>
    refine ⟨?_, rfl⟩
    cases hy
    case cpx k' a' b' c' d' h1' h2' =>
      unfold abin at h
      simp only [] at h
      split at h
      · rename_i hk; subst hk
        have ho := order_same h1 h1'
        have ho' := order_same h2 h2'
        cases op <;> simp only [Option.some.injEq, reduceCtorEq] at h
        case add =>
          rw [Bool.cond_eq_ite] at h
          split at h
          · rename_i hk
            simp only [Option.some.injEq] at h; subst h
            simp only [cadd.ok.sp, Bool.and_eq_true, Option.isSome_iff_exists] at hk
            obtain ⟨⟨r1, e1⟩, r2, e2⟩ := hk
            have g1 := op_same (k := k) (f := k.format.add) add_l add_r h1 h1'
            have g2 := op_same (k := k) (f := k.format.add) add_l add_r h2 h2'
            refine .same (c := .complex k r1 r2) ?_ ?_
            · rw [e1] at g1; rw [e2] at g2
              simp [binOp, Op.complexOp, Op.Complex.arith, Op.floatArith, ← g1, ← g2]
            · rw [fadd, fadd, e1, e2]
              exact .cpx _ _ _ _ _ (.inl rfl) (.inl rfl)
          · cases h
        all_goals subst h
        · exact .same (c := .bool _) (by simp [binOp, Op.complexOp, run_cmp_eql, ← ho, ← ho']) (.bool _)
        · exact .same (c := .bool _) (by simp [binOp, Op.complexOp, run_cmp_eql, ← ho, ← ho']) (.bool _)
      · cases h
    all_goals simp [abin] at h
  case str a =>
    refine ⟨?_, rfl⟩
    cases hy
    case str b => exact str_ok h
    all_goals simp [abin] at h
  case nils =>
    refine ⟨?_, rfl⟩
    cases hy
    case nils =>
      unfold abin at h
      simp only [Bool.cond_eq_ite] at h
      split at h
      · rename_i hb
        obtain ⟨e, hu⟩ := underlying_slice hb
        cases op <;> simp only [Option.some.injEq, reduceCtorEq] at h <;> subst h
        · exact .same (c := .bool _) (by simp [binOp, run_equal_nil hu]) (.bool _)
        · exact .same (c := .bool _) (by simp [binOp, run_equal_nil hu]) (.bool _)
      · cases h
    all_goals simp [abin] at h
  case ro c len z a cap h0 hc hm hl =>
    refine ⟨?_, rfl⟩
    cases hy
    case nils =>
      cases len with
      | zero => simp [abin] at h
      | succ len =>
        unfold abin at h
        simp only [Bool.cond_eq_ite] at h
        split at h
        · rename_i hb
          obtain ⟨e, hu⟩ := underlying_slice hb
          have ha : ∃ q, a = some q := by
            cases a with
            | none => have := h0 rfl; omega
            | some q => exact ⟨q, rfl⟩
          obtain ⟨q, rfl⟩ := ha
          cases op <;> simp only [Option.some.injEq, reduceCtorEq] at h <;> subst h
          · exact .same (c := .bool _) (by simp [binOp, run_equal_own hu]) (.bool _)
          · exact .same (c := .bool _) (by simp [binOp, run_equal_own hu]) (.bool _)
        · cases h
    all_goals (cases len <;> simp [abin] at h)
  case own l off len ver z a cap ho hm =>
    refine ⟨?_, rfl⟩
    cases hy
    case nils =>
      unfold abin at h
      simp only [Bool.cond_eq_ite] at h
      split at h
      · rename_i hb
        obtain ⟨e, hu⟩ := underlying_slice hb
        cases op <;> simp only [Option.some.injEq, reduceCtorEq] at h <;> subst h
        · exact .same (c := .bool _) (by simp [binOp, run_equal_own hu]) (.bool _)
        · exact .same (c := .bool _) (by simp [binOp, run_equal_own hu]) (.bool _)
      · cases h
    all_goals simp [abin] at h
  all_goals simp [abin] at h

theorem un_ok [Fb : Forb] {P : Program} {ρ : List Nat} {H : Heap} {w : World} {op : UnOp} {x : AVal} {cx : Value} {v : AVal}
    (h : aun op x = some v) (hx : VR ρ H w x cx) : PureOk P ρ H w v (Op.unary op cx) := by
  have neg : ∀ {k a b}, fsame k a b → fsame k (Op.negFloat k a) (Op.negFloat k b) := fun hs => by
    rcases hs with rfl | ⟨n1, n2⟩
    · exact .inl rfl
    · exact .inr ⟨isnan_neg n1, isnan_neg n2⟩
  unfold aun at h
  split at h <;> simp only [Option.some.injEq, reduceCtorEq] at h <;> subst h <;> cases hx
  · exact .same (by simp [Op.unary, Op.intArith]) (.int _ _)
  · exact .same (by simp [Op.unary]) (.bool _)
  · rename_i h1; exact .same (by simp [Op.unary]) (.flt _ _ _ (neg h1))
  · rename_i h1 h2; exact .same (by simp [Op.unary]) (.cpx _ _ _ _ _ (neg h1) (neg h2))

theorem conv_ok [Fb : Forb] {P : Program} {ρ : List Nat} {H : Heap} {w : World} {s d : TypeId} {x : AVal} {cx : Value} {v : AVal}
    (h : aconv P s d x = some v) (hx : VR ρ H w x cx) : PureOk P ρ H w v (convert s d cx) := by
  unfold aconv at h
  split at h
  · cases h
  · rename_i ds hs
    split at h
    · simp only [Option.some.injEq] at h; subst h; cases hx
      rename_i hd; exact .same (by simp [convert, run_underlying hs, run_underlying hd, Conv.intToInt]) (.int _ _)
    · simp only [Option.some.injEq] at h; subst h; cases hx
      rename_i hd; exact .same (by simp [convert, run_underlying hs, run_underlying hd, Conv.intToFloat]) (.flt _ _ _ (.inl rfl))
    · simp only [Option.some.injEq] at h; subst h; cases hx
      rename_i hd b hf
      obtain ⟨r, w', h1, h2, h3⟩ := fwid_ok (P := P) w hf
      refine ⟨_, w', ?_, h2, .flt _ _ _ h3⟩
      unfold convert
      simp only [Sem.run_bind, run_underlying hs, run_underlying hd, Result.andThen_ok]
      exact h1
    · simp only [Option.some.injEq] at h; subst h; cases hx
      rename_i hd b hf
      exact .same (by simp [convert, run_underlying hs, run_underlying hd, Conv.floatToFloat]) (.flt _ _ _ hf)
    · simp only [Option.some.injEq] at h; subst h; cases hx
      rename_i hd b hf
      exact .same (by simp [convert, run_underlying hs, run_underlying hd, Conv.floatToFloat]) (.flt _ _ _ hf)
    · rw [Bool.cond_eq_ite] at h
      split at h
      · rename_i hk
        simp only [Option.some.injEq] at h; subst h; cases hx
        rename_i hd b hf
        obtain ⟨r, w', h1, h2, h3⟩ := nar_ok (P := P) w hf hk
        refine ⟨_, w', ?_, h2, .flt _ _ _ h3⟩
        unfold convert
        simp only [Sem.run_bind, run_underlying hs, run_underlying hd, Result.andThen_ok]
        exact h1
      · cases h
    · rw [Bool.cond_eq_ite] at h
      split at h
      · rename_i hk
        simp only [Option.some.injEq] at h; subst h; cases hx
        rename_i hd b hf
        refine .same (c := .int _ _) ?_ (.int _ _)
        unfold convert
        simp only [Sem.run_bind, run_underlying hs, run_underlying hd, Result.andThen_ok]
        exact fti_ok w hf hk
      · cases h
    · rw [Bool.cond_eq_ite] at h
      split at h
      · rename_i hk
        simp only [Bool.and_eq_true] at hk
        simp only [Option.some.injEq] at h; subst h; cases hx
        rename_i hd c d h1 h2
        refine .same (c := .complex .f64 _ _) ?_ (.cpx _ _ _ _ _ (.inl rfl) (.inl rfl))
        unfold convert
        simp only [Sem.run_bind, run_underlying hs, run_underlying hd, Result.andThen_ok]
        exact cpx_wid w h1 h2 hk.1 hk.2
      · cases h
    · rw [Bool.cond_eq_ite] at h
      split at h
      · rename_i hk
        simp only [Bool.and_eq_true] at hk
        simp only [Option.some.injEq] at h; subst h; cases hx
        rename_i hd c d h1 h2
        refine .same (c := .complex .f32 _ _) ?_ (.cpx _ _ _ _ _ (.inl rfl) (.inl rfl))
        unfold convert
        simp only [Sem.run_bind, run_underlying hs, run_underlying hd, Result.andThen_ok]
        exact cpx_nar w h1 h2 hk.1 hk.2
      · cases h
    · cases h

theorem sz_info {P : Program} {t : TypeId} {n : Nat} (h : asz P t = some n) : ∃ i, P.info? t = some i ∧ i.size = n := by
  unfold asz at h; split at h
  · rename_i i hi; simp only [Option.some.injEq] at h; exact ⟨i, hi, h⟩
  · cases h
theorem run_sizeOf' {P : Program} {t : TypeId} {n : Nat} (h : asz P t = some n) (w : World) : (sizeOf t).run P w = .ok n w := by
  obtain ⟨i, hi, rfl⟩ := sz_info h
  simp [sizeOf, typeInfo, hi]

end Go.Proofs.YtjhofofieiiplaaGreatDoor.Ab
