/-
  Plain: words that are drawn, flushed, widened and narrowed.
-/
import Derived.Test.YtjhofofieiiplaaGreatDoorFnNk
import Derived.Test.YtjhofofieiiplaaGreatDoorFnNh
import Derived.Test.YtjhofofieiiplaaGreatDoorFnNp
import Derived.Laws.FloatBits
namespace Go.Proofs.YtjhofofieiiplaaGreatDoor.Ab
open Go
set_option linter.unusedVariables false
set_option linter.unusedSimpArgs false
set_option maxRecDepth 100000

namespace fl
theorem fdiv_lt (a b : Nat) : fdiv .f32 a b < 4294967296 := by
  unfold fdiv
  cases h : FloatKind.f32.format.div a b with
  | none => decide
  | some r => exact Ieee.Format.div_lt FloatKind.f32.format h
theorem fmul_lt (a b : Nat) : fmul .f32 a b < 4294967296 := by
  unfold fmul
  cases h : FloatKind.f32.format.mul a b with
  | none => decide
  | some r => exact Ieee.Format.mul_lt FloatKind.f32.format h
theorem fadd_lt (a b : Nat) : fadd .f32 a b < 4294967296 := by
  unfold fadd
  cases h : FloatKind.f32.format.add a b with
  | none => decide
  | some r => exact Ieee.Format.add_lt FloatKind.f32.format h

/-- The rung of a word that is a number. -/
theorem rung_of {x : Nat} {s : Bool} {m : Nat} {e : Int} (hlt : x < 4294967296) (h : FloatKind.f32.decode x = .number s m e) :
    ∃ d : Nat, e = -149 + d ∧ (d = 0 ∨ 8388608 ≤ m) ∧ m < 16777216 ∧ x = (if s then 2147483648 else 0) + (d * 8388608 + m) := by
  have e1 : FloatKind.f32.format.signWeight = 2147483648 := by decide
  have e2 : FloatKind.f32.format.binade = 8388608 := by decide
  have e3 : FloatKind.f32.format.infRung = 2139095040 := by decide
  have e4 : FloatKind.f32.format.leastPlace = -149 := by decide
  have hx : x = x / 2147483648 * 2147483648 + x % 2147483648 := by omega
  have hq : x / 2147483648 = 0 ∨ x / 2147483648 = 1 := by omega
  have sg : ∀ t : Bool, (x / 2147483648 % 2 == 1) = t → x / 2147483648 * 2147483648 = (if t then 2147483648 else 0) := by
    intro t ht
    rcases hq with h | h
    · rw [h] at ht ⊢; rw [← ht]; decide
    · rw [h] at ht ⊢; rw [← ht]; decide
  unfold FloatKind.decode Ieee.Format.read at h
  simp only [e1, e2, e3, e4] at h
  split at h
  · rename_i hc
    simp only [Ieee.Datum.number.injEq] at h
    obtain ⟨h1, h2, h3⟩ := h
    have := sg s h1
    exact ⟨0, by omega, .inl rfl, by omega, by omega⟩
  · rename_i hc
    split at h
    · rename_i hc2
      simp only [Ieee.Datum.number.injEq] at h
      obtain ⟨h1, h2, h3⟩ := h
      have := sg s h1
      have hd := Nat.div_add_mod (x % 2147483648) 8388608
      have hq2 : 1 ≤ x % 2147483648 / 8388608 := (Nat.le_div_iff_mul_le (by decide)).2 (by omega)
      exact ⟨x % 2147483648 / 8388608 - 1, by omega, .inr (by omega), by omega, by omega⟩
    · split at h <;> cases h
theorem same_word {x y : Nat} (hx : x < 4294967296) (hy : y < 4294967296) {s t : Bool} {m n : Nat} {e f : Int} (h1 : FloatKind.f32.decode x = .number s m e) (h2 : FloatKind.f32.decode y = .number t n f) (hm : m ≠ 0) (hv : val .f32 x = val .f32 y) : x = y := by
  obtain ⟨d, a1, a2, a3, a4⟩ := rung_of hx h1
  obtain ⟨g, b1, b2, b3, b4⟩ := rung_of hy h2
  rw [val_eq h1, val_eq h2] at hv
  have p1 : 0 < sc m e := Nat.mul_pos (Nat.pos_of_ne_zero hm) (Nat.two_pow_pos _)
  have hst : s = t ∧ sc m e = sc n f := by
    unfold sv at hv
    cases s <;> cases t <;> simp at hv <;> first | exact ⟨rfl, by omega⟩ | (exfalso; omega)
  obtain ⟨rfl, hsc⟩ := hst
  have key : d = g ∧ m = n := by
    rcases Nat.lt_trichotomy d g with hlt | heq | hgt
    · exfalso
      obtain ⟨k, hk⟩ : ∃ k : Nat, g = d + (k + 1) := ⟨g - d - 1, by omega⟩
      have := sc_add n e (k + 1) (by omega)
      rw [show e + ((k + 1 : Nat) : Int) = f by omega, ← hsc] at this
      have hmn : m = n * 2 ^ (k + 1) := Nat.le_antisymm ((sc_le (e := e)).1 (by omega)) ((sc_le (e := e)).1 (by omega))
      have : 2 ≤ 2 ^ (k + 1) := by rw [Nat.pow_succ]; have := Nat.two_pow_pos k; omega
      have := Nat.mul_le_mul_left n this
      omega
    · subst heq
      have hef : e = f := by omega
      subst hef
      exact ⟨rfl, Nat.le_antisymm ((sc_le (e := e)).1 (by omega)) ((sc_le (e := e)).1 (by omega))⟩
    · exfalso
      obtain ⟨k, hk⟩ : ∃ k : Nat, d = g + (k + 1) := ⟨d - g - 1, by omega⟩
      have := sc_add m f (k + 1) (by omega)
      rw [show f + ((k + 1 : Nat) : Int) = e by omega, hsc] at this
      have hmn : n = m * 2 ^ (k + 1) := Nat.le_antisymm ((sc_le (e := f)).1 (by omega)) ((sc_le (e := f)).1 (by omega))
      have : 2 ≤ 2 ^ (k + 1) := by rw [Nat.pow_succ]; have := Nat.two_pow_pos k; omega
      have := Nat.mul_le_mul_left m this
      omega
  rw [a4, b4, key.1, key.2]
/-- Widened and narrowed: the same word, or not a number as before. -/
theorem nar_wide {x : Nat} (hlt : x < 4294967296) : nar.ok.sp (fwid.sv x) = true ∧ nw.bits.sv (nar.sv (fwid.sv x)) = nw.bits.sv x := by
  cases hd : FloatKind.f32.decode x with
  | number s m e =>
    have fx : fin .f32 x := ⟨s, m, e, hd⟩
    obtain ⟨f1, f2, f3⟩ := fwid_val fx
    by_cases hm : m = 0
    · subst hm
      obtain ⟨d, a1, a2, a3, a4⟩ := rung_of hlt hd
      have d0 : d = 0 := by omega
      subst d0
      have hx : x = 0 ∨ x = 2147483648 := by cases s <;> simp at a4 <;> omega
      rcases hx with rfl | rfl <;> decide +kernel
    · have hr : Rep .f32 m e := by
        have pe := place_of hd
        have hm2 := mag_of hd
        have e1 : 2 * FloatKind.f32.format.binade = 16777216 := by decide
        have e2 : FloatKind.f32.format.leastPlace = -149 := by decide
        obtain ⟨d, a1, a2, a3, a4⟩ := rung_of hlt hd
        refine rep32 (by omega) (by omega) ?_
        have := read_single hd
        omega
      have hb : (val .f64 (fwid.sv x)).natAbs ≤ sc m e := by rw [f2, val_bound hd]; exact Nat.le_refl _
      obtain ⟨n1, n2, n3⟩ := nar_rn f1 hr hb
      refine ⟨n1, ?_⟩
      have hv : val .f32 (nar.sv (fwid.sv x)) = val .f32 x := by
        obtain ⟨t, n, g, hd2⟩ := f1
        have pe := place_of hd2
        have hl := least_ge .f64
        have hn : nar.sv (fwid.sv x) = FloatKind.f32.encode (.number t n g) := by unfold nar.sv; rw [hd2]
        have hb2 : sc n g ≤ sc m e := by rw [val_bound hd2] at hb; exact hb
        have R := write_rn (k := .f32) (s := t) (by omega) hr hb2
        rw [hn, R.exact hr ?_, ← val_eq hd2, f2]
        rw [← val_eq hd2, f2, val_eq hd]
        unfold sv; cases s <;> simp
      obtain ⟨t, n, g, hd3⟩ := n2
      have hlt2 : nar.sv (fwid.sv x) < 4294967296 := by
        have hh : ∀ d, FloatKind.f32.encode d < 4294967296 := fun d => Ieee.Format.write_lt FloatKind.f32.format d
        unfold nar.sv
        split
        · decide
        · exact hh _
      exact congrArg nw.bits.sv (same_word hlt hlt2 hd hd3 hm hv.symm).symm
  | infinity s =>
    have e1 : FloatKind.f32.format.signWeight = 2147483648 := by decide
    have e2 : FloatKind.f32.format.binade = 8388608 := by decide
    have e3 : FloatKind.f32.format.infRung = 2139095040 := by decide
    have hx : x = 2139095040 ∨ x = 4286578688 := by
      unfold FloatKind.decode Ieee.Format.read at hd
      simp only [e1, e2, e3] at hd
      split at hd
      · cases hd
      · split at hd
        · cases hd
        · split at hd
          · omega
          · cases hd
    rcases hx with rfl | rfl <;> decide +kernel
  | nan s q =>
    have hw : fwid.sv x = qnan .f64 := by unfold fwid.sv; rw [hd]
    have hn : nw.nan.sp x = true := by
      unfold nw.nan.sp
      rw [nw.order_none (by rw [hd]; rfl)]
      rfl
    have hb : nw.bits.sv x = 2143289344 := by unfold nw.bits.sv; rw [hn]; rfl
    rw [hw, hb]
    decide +kernel
end fl

namespace nw
theorem fl_sub (x : Nat) : sub.sp (fl.sv x) = false := by
  unfold fl.sv
  cases h : sub.sp x with
  | false => exact h
  | true =>
    rw [cond_true]
    rcases (zs_cases x).1 with e | e <;> rw [e] <;> decide +kernel
theorem fl_same {x : Nat} (hlt : x < 4294967296) : (sub.sp x == (bits.sv x == bits.sv (fl.sv x))) = false := by
  unfold fl.sv
  cases h : sub.sp x with
  | false => rw [cond_false, beq_self_eq_true]; rfl
  | true =>
    rw [cond_true]
    have hn := sub_nnan h
    have hb : bits.sv x = (x : Int) := by unfold bits.sv; rw [hn, cond_false, IntWalk.i64_in _ (by omega)]
    have ho : FloatKind.f32.format.order x 0 ≠ some Ordering.eq := by
      unfold sub.sp at h
      rw [Bool.and_eq_true, bne_iff_ne] at h
      exact h.1
    have hne : (bits.sv x == bits.sv (zs.sv x)) = false := by
      rw [beq_eq_false_iff_ne, hb]
      intro he
      rcases (zs_cases x).1 with e | e <;> rw [e] at he
      · have hz : bits.sv 0 = 0 := by decide +kernel
        rw [hz] at he
        obtain rfl : x = 0 := by omega
        exact ho (by decide +kernel)
      · have hz : bits.sv 2147483648 = 2147483648 := by decide +kernel
        rw [hz] at he
        obtain rfl : x = 2147483648 := by omega
        exact ho (by decide +kernel)
    rw [hne]; rfl
end nw

namespace dw
theorem pl_lt (xs : List Int) (a s : Int) : (pl.sv xs a s).1 < 4294967296 := by
  show (bif _ then _ else _) < _
  cases (pk.sv xs 4 (pk.sv xs 129 a s).2.1 (pk.sv xs 129 a s).2.2).1 == 0
  · exact fl.fdiv_lt _ _
  · exact fl.fdiv_lt _ _
theorem dg_lt {xs : List Int} (h : r8.bytes.sp xs = true) (q : Int × Int × Int) : (dg.sv xs q).1 < 4294967296 := by
  unfold dg.sv
  have h10 := pk_in h (n := 10) (by decide) q.2.1 q.2.2
  have g10 := l10_in (pk.sv xs 10 q.2.1 q.2.2).1.toNat (by omega)
  have hw := wd_in h q.2.1 q.2.2
  have h6 := pk_in h (n := 65536) (by decide) q.2.1 q.2.2
  cases q.1 == 0
  · cases q.1 == 1
    · cases q.1 == 2
      · exact fl.fmul_lt _ _
      · show (_ : Int).toNat < _; omega
    · exact hw.1
  · show (_ : Int).toNat < _; omega
theorem df_lt {xs : List Int} (h : r8.bytes.sp xs = true) (a s : Int) : (df.sv xs a s).1 < 4294967296 := by
  unfold df.sv
  cases (pk.sv xs 12 a s).1 == 0
  · exact pl_lt _ _ _
  · exact dg_lt h _
theorem n_lt {xs : List Int} (h : r8.bytes.sp xs = true) : n.sv xs < 4294967296 := by
  unfold n.sv
  cases (pk.sv xs 2 0 0).1 == 0
  · exact df_lt h _ _
  · exact (wd_in h _ _).1
theorem on_lt {xs : List Int} (h : r8.bytes.sp xs = true) (b : Bool) (a s : Int) : (on.sv xs b a s).1 < 4294967296 := by
  cases b
  · rw [on_f]; exact pl_lt _ _ _
  · rw [on_t]; exact df_lt h _ _
theorem fs_lt {xs : List Int} (h : r8.bytes.sp xs = true) (b : Bool) : ∀ (k : Nat) (a s : Int), ∀ x ∈ fs.sv xs b k a s, x < 4294967296
  | 0, a, s, x, hx => by cases hx
  | k + 1, a, s, x, hx => by
    rw [fs.sv, List.mem_cons] at hx
    rcases hx with rfl | hx
    · exact on_lt h b a s
    · exact fs_lt h b k _ _ x hx
theorem fl_lt {xs : List Int} (h : r8.bytes.sp xs = true) (n : Nat) (a s : Int) : ∀ x ∈ fl.sv xs n a s, x < 4294967296 := fs_lt h _ _ _ _
theorem fl_len (xs : List Int) (n : Nat) (a s : Int) : (fl.sv xs n a s).length = n := fs_len _ _ _ _ _
end dw

end Go.Proofs.YtjhofofieiiplaaGreatDoor.Ab
