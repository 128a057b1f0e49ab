/-
  Plain: numbers in eight digits, lists of them with commas between, and back.
-/
import Derived.Test.YtjhofofieiiplaaGreatDoorFnNe
namespace Go.Proofs.YtjhofofieiiplaaGreatDoor.Ab
open Go
set_option linter.unusedVariables false
set_option linter.unusedSimpArgs false
set_option maxRecDepth 100000

namespace nt
def none : ByteArray := ⟨#[110, 111, 110, 101]⟩
/-- Eight digits. -/
def full : Nat → Nat → List Int
  | 0, u => [hx.dg u]
  | d + 1, u => full d (u / 16) ++ [hx.dg (u % 16)]
def of.sv (x : Nat) : ByteArray := bys.sv (full 7 (nw.bits.sv x).toNat)
def j.sv (xs : List ByteArray) : ByteArray := bif decide ((xs.length : Int) = 0) then none else sx.join.sv xs sx.comma
def tx.sv (xs : List Nat) : ByteArray := j.sv (xs.map of.sv)
def canon.sv (x : Nat) : Nat := (nw.bits.sv x).toNat
def rd.sv (s : ByteArray) : List Nat := bif seq.sv s none then [] else (sx.split.sv s).map hx.r.sv
def pok.sp (p : ByteArray) : Bool := hx.ok.sp p && (satn.sv p == 8)
def rdok.sp (s : ByteArray) : Bool := (decide (satn.sv s ≤ 1000000) && (decide ((sx.split.sv s).length ≤ 256) && (seq.sv s none || (sx.split.sv s).all pok.sp))) && seq.sv (tx.sv (rd.sv s)) s

theorem bits_in {x : Nat} (h : x < 4294967296) : 0 ≤ nw.bits.sv x ∧ nw.bits.sv x < 4294967296 := by
  unfold nw.bits.sv
  cases nw.nan.sp x with
  | true => rw [cond_true]; exact ⟨by decide, by decide⟩
  | false => rw [cond_false, IntWalk.i64_in _ (by omega)]; omega
theorem canon_lt {x : Nat} (h : x < 4294967296) : canon.sv x < 4294967296 := by
  have := bits_in h
  unfold canon.sv; omega
theorem canon_bits {x : Nat} (h : x < 4294967296) : nw.bits.sv (canon.sv x) = nw.bits.sv x := by
  unfold canon.sv
  cases hn : nw.nan.sp x with
  | true =>
    have e : nw.bits.sv x = 2143289344 := by unfold nw.bits.sv; rw [hn]; rfl
    rw [e]
    decide +kernel
  | false =>
    have e : nw.bits.sv x = (x : Int) := by unfold nw.bits.sv; rw [hn, cond_false, IntWalk.i64_in _ (by omega)]
    rw [e, Int.toNat_natCast, e]
theorem canon_of {x : Nat} (h : x < 4294967296) : of.sv (canon.sv x) = of.sv x := by
  unfold of.sv
  rw [canon_bits h]

theorem go_len : ∀ (d u : Nat), 1 ≤ (hx.go d u).length ∧ (hx.go d u).length ≤ d + 1
  | 0, u => by simp [hx.go]
  | d + 1, u => by
    have := go_len d (u / 16)
    rw [hx.go]
    split
    · simp
    · rw [List.length_append, List.length_singleton]; omega
theorem full_len : ∀ (d u : Nat), (full d u).length = d + 1
  | 0, u => rfl
  | d + 1, u => by rw [full, List.length_append, full_len d]; rfl
theorem full_zero : ∀ d : Nat, full d 0 = List.replicate (d + 1) 48
  | 0 => rfl
  | d + 1 => by rw [full, Nat.zero_div, full_zero d, List.replicate_succ' (n := d + 1)]; rfl
theorem pad : ∀ (d u : Nat), u < 16 ^ (d + 1) → List.replicate (d + 1 - (hx.go d u).length) 48 ++ hx.go d u = full d u
  | 0, u, _ => rfl
  | d + 1, u, h => by
    rw [hx.go, full]
    split
    · rename_i hu
      rw [List.length_singleton, Nat.div_eq_of_lt hu, Nat.mod_eq_of_lt hu, full_zero]
      rfl
    · have hq : u / 16 < 16 ^ (d + 1) := by
        rw [Nat.pow_succ] at h
        exact Nat.div_lt_of_lt_mul (by omega)
      have hp := pad d (u / 16) hq
      have hl := go_len d (u / 16)
      rw [List.length_append, List.length_singleton, show d + 1 + 1 - ((hx.go d (u / 16)).length + 1) = d + 1 - (hx.go d (u / 16)).length by omega, ← List.append_assoc, hp]
theorem dg_is : ∀ k : Nat, k < 16 → hx.is.sp (hx.dg k) = true ∧ hx.hv (hx.dg k) = k ∧ 48 ≤ hx.dg k ∧ hx.dg k ≤ 102 := by decide
theorem full_mem : ∀ (d u : Nat), u < 16 ^ (d + 1) → ∀ c ∈ full d u, hx.is.sp c = true ∧ 48 ≤ c ∧ c ≤ 102
  | 0, u, h, c, hc => by
    have hc2 : c = hx.dg u := by simpa [full] using hc
    subst hc2
    have := dg_is u (by simpa using h)
    exact ⟨this.1, this.2.2⟩
  | d + 1, u, h, c, hc => by
    rw [full, List.mem_append, List.mem_singleton] at hc
    rcases hc with hc | rfl
    · exact full_mem d (u / 16) (by rw [Nat.pow_succ] at h; exact Nat.div_lt_of_lt_mul (by omega)) c hc
    · have := dg_is (u % 16) (by omega)
      exact ⟨this.1, this.2.2⟩
theorem rd_append : ∀ (xs ys : List Int) (v : Nat), hx.rd (xs ++ ys) v = hx.rd ys (hx.rd xs v)
  | [], ys, v => rfl
  | c :: r, ys, v => by rw [List.cons_append, hx.rd, hx.rd, rd_append r ys]
theorem rd_full : ∀ (d u v : Nat), u < 16 ^ (d + 1) → hx.rd (full d u) v = v * 16 ^ (d + 1) + u
  | 0, u, v, h => by
    have := (dg_is u (by simpa using h)).2.1
    simp [full, hx.rd, this]
  | d + 1, u, v, h => by
    have hq : u / 16 < 16 ^ (d + 1) := by rw [Nat.pow_succ] at h; exact Nat.div_lt_of_lt_mul (by omega)
    rw [full, rd_append, rd_full d _ _ hq]
    have := (dg_is (u % 16) (by omega)).2.1
    simp only [hx.rd, this]
    rw [Nat.pow_succ 16 (d + 1), ← Nat.mul_assoc]
    omega
theorem sby_bys {l : List Int} (h : ∀ c ∈ l, 0 ≤ c ∧ c ≤ 255) : sby.sv (bys.sv l) = l := by
  show ((l.map fun n => UInt8.ofNat n.toNat).toArray.toList.map fun b => (b.toNat : Int)) = l
  rw [List.toList_toArray, List.map_map]
  conv => rhs; rw [← List.map_id l]
  apply List.map_congr_left
  intro c hc
  have := h c hc
  simp only [Function.comp, id]
  have e : (UInt8.ofNat c.toNat).toNat = c.toNat := by
    rw [UInt8.toNat_ofNat']
    omega
  rw [e]; omega
theorem satn_bys (l : List Int) : satn.sv (bys.sv l) = (l.length : Int) := by
  show ((bys.sv l).data.size : Int) = _
  show (((l.map fun n => UInt8.ofNat n.toNat).toArray.size : Nat) : Int) = _
  simp
theorem u8 {x : Nat} (h : x < 4294967296) : (nw.bits.sv x).toNat < 16 ^ (7 + 1) := by
  have := bits_in h
  omega
theorem of_bytes {x : Nat} (h : x < 4294967296) : sby.sv (of.sv x) = full 7 (nw.bits.sv x).toNat :=
  sby_bys fun c hc => by have := full_mem 7 _ (u8 h) c hc; omega
theorem of_size (x : Nat) : satn.sv (of.sv x) = 8 := by unfold of.sv; rw [satn_bys, full_len]; rfl
theorem of_ok {x : Nat} (h : x < 4294967296) : pok.sp (of.sv x) = true := by
  unfold pok.sp hx.ok.sp
  rw [of_bytes h, full_len, of_size]
  simp only [Bool.and_eq_true, decide_eq_true_eq, List.all_eq_true, beq_iff_eq, and_true]
  exact ⟨by omega, fun c hc => (full_mem 7 _ (u8 h) c hc).1⟩
theorem of_read {x : Nat} (h : x < 4294967296) : hx.r.sv (of.sv x) = canon.sv x := by
  unfold hx.r.sv
  rw [of_bytes h, rd_full 7 _ _ (u8 h)]
  unfold canon.sv
  omega
/-- What hexOf makes: noughts ahead of the digits. -/
theorem hex_eq {x : Nat} (h : x < 4294967296) : sadd.sv (sx.rep.sv ⟨#[48]⟩ (8 - satn.sv (hx.s.sv (nw.bits.sv x).toNat)).toNat) (hx.s.sv (nw.bits.sv x).toNat) = of.sv x := by
  unfold hx.s.sv of.sv
  rw [satn_bys, ← pad 7 _ (u8 h)]
  have hl := go_len 7 (nw.bits.sv x).toNat
  generalize hx.go 7 (nw.bits.sv x).toNat = l at hl ⊢
  have e : (8 - (l.length : Int)).toNat = 7 + 1 - l.length := by omega
  rw [e]
  generalize 7 + 1 - l.length = n
  have e2 : sx.rep.sv ⟨#[48]⟩ n = bys.sv (List.replicate n 48) := by
    unfold sx.rep.sv bys.sv
    have := Lib.repeatL_replicate 48 1 n
    rw [show (⟨#[48]⟩ : ByteArray).data.toList = List.replicate 1 48 from rfl, this, Nat.mul_one, List.map_replicate]
    rfl
  rw [e2]
  unfold sadd.sv bys.sv
  rw [List.map_append]
  apply ByteArray.ext
  simp
theorem hex_len (x : Nat) : 0 ≤ 8 - satn.sv (hx.s.sv (nw.bits.sv x).toNat) ∧ 8 - satn.sv (hx.s.sv (nw.bits.sv x).toNat) ≤ 8 ∧ satn.sv (hx.s.sv (nw.bits.sv x).toNat) ≤ 8 := by
  unfold hx.s.sv
  rw [satn_bys]
  have := go_len 7 (nw.bits.sv x).toNat
  omega
theorem rep_len (n : Nat) : satn.sv (sx.rep.sv ⟨#[48]⟩ n) = (n : Int) := by
  show ((Lib.repeatL _ n).toArray.size : Int) = _
  rw [List.size_toArray, Lib.repeatL_length]
  simp

/-! Joined, and split. -/
theorem seq_eq {a b : ByteArray} : seq.sv a b = true ↔ a = b := by
  unfold seq.sv
  rw [beq_iff_eq, Lib.toList_data, Lib.toList_data]
  constructor
  · intro h
    apply ByteArray.ext
    exact Array.toList_inj.1 h
  · intro h; rw [h]
theorem index_none : ∀ l : List UInt8, (44 : UInt8) ∉ l → Lib.index l [44] = -1
  | [], _ => rfl
  | b :: r, h => by
    rw [List.mem_cons, not_or] at h
    rw [Lib.index, index_none r h.2]
    have e : ([44] : List UInt8).isPrefixOf (b :: r) = false := by simp [List.isPrefixOf, h.1]
    rw [e]; rfl
theorem index_at : ∀ (l r : List UInt8), (44 : UInt8) ∉ l → Lib.index (l ++ 44 :: r) [44] = (l.length : Int)
  | [], r, _ => by simp [Lib.index, List.isPrefixOf]
  | b :: l, r, h => by
    rw [List.mem_cons, not_or] at h
    rw [List.cons_append, Lib.index, index_at l r h.2]
    have e : ([44] : List UInt8).isPrefixOf (b :: (l ++ 44 :: r)) = false := by simp [List.isPrefixOf, h.1]
    rw [e]
    have e2 : ((l.length : Int) == -1) = false := by rw [beq_eq_false_iff_ne]; omega
    rw [if_neg (by decide), e2, if_neg (by decide), List.length_cons]
    omega
theorem splitK_join : ∀ (r : List (List UInt8)) (x : List UInt8), (44 : UInt8) ∉ x → (∀ y ∈ r, (44 : UInt8) ∉ y) → Lib.splitK [44] 0 r.length (x ++ Lib.joinTail [44] r) = x :: r
  | [], x, _, _ => by simp [Lib.joinTail, Lib.splitK]
  | y :: r, x, hx, hr => by
    have e : x ++ Lib.joinTail [44] (y :: r) = x ++ 44 :: (y ++ Lib.joinTail [44] r) := by simp [Lib.joinTail]
    rw [e, List.length_cons, Lib.splitK, index_at x _ hx]
    have e2 : ((x.length : Int) == -1) = false := by rw [beq_eq_false_iff_ne]; omega
    rw [e2, if_neg (by decide), Int.toNat_natCast, Nat.add_zero, List.take_left]
    have e3 : (x ++ 44 :: (y ++ Lib.joinTail [44] r)).drop (x.length + ([44] : List UInt8).length) = y ++ Lib.joinTail [44] r := by
      rw [List.length_singleton, ← List.drop_drop, List.drop_left]; rfl
    rw [e3, splitK_join r y (hr y List.mem_cons_self) (fun z hz => hr z (List.mem_cons_of_mem _ hz))]
theorem count_join : ∀ (r : List (List UInt8)) (x : List UInt8), (44 : UInt8) ∉ x → (∀ y ∈ r, (44 : UInt8) ∉ y) → Lib.count (x ++ Lib.joinTail [44] r) [44] = r.length
  | [], x, hx, _ => by
    rw [Lib.count_one]
    simp [Lib.joinTail, List.count_eq_zero.2 hx]
  | y :: r, x, hx, hr => by
    have h1 := count_join r y (hr y List.mem_cons_self) (fun z hz => hr z (List.mem_cons_of_mem _ hz))
    rw [Lib.count_one] at h1 ⊢
    have e : x ++ Lib.joinTail [44] (y :: r) = x ++ 44 :: (y ++ Lib.joinTail [44] r) := by simp [Lib.joinTail]
    rw [e, List.count_append, List.count_cons_self, h1, List.count_eq_zero.2 hx, List.length_cons]
    omega
theorem split_join {xs : List ByteArray} (h0 : xs ≠ []) (h : ∀ s ∈ xs, (44 : UInt8) ∉ s.data.toList) : sx.split.sv (sx.join.sv xs sx.comma) = xs := by
  obtain ⟨x, r, rfl⟩ : ∃ x r, xs = x :: r := by cases xs with
    | nil => exact absurd rfl h0
    | cons x r => exact ⟨x, r, rfl⟩
  have hd : (sx.join.sv (x :: r) sx.comma).data.toList = x.data.toList ++ Lib.joinTail [44] (r.map (·.data.toList)) := by
    unfold sx.join.sv
    rw [List.toList_toArray, List.map_cons, Lib.join_cons]
    rfl
  have hr : ∀ y ∈ r.map (·.data.toList), (44 : UInt8) ∉ y := by
    intro y hy
    obtain ⟨s, hs, rfl⟩ := List.mem_map.1 hy
    exact h s (List.mem_cons_of_mem _ hs)
  have hx := h x List.mem_cons_self
  have hc : Lib.countB (sx.join.sv (x :: r) sx.comma) sx.comma = r.length := by
    have := count_join _ _ hx hr
    rw [← hd, List.length_map] at this
    exact this
  have hs := Lib.splitB_data sx.comma 0 r.length (sx.join.sv (x :: r) sx.comma)
  have hk := splitK_join _ _ hx hr
  rw [List.length_map, ← hd] at hk
  have hmap : (sx.split.sv (sx.join.sv (x :: r) sx.comma)).map (·.data.toList) = (x :: r).map (·.data.toList) := by
    unfold sx.split.sv
    rw [hc, hs]
    exact hk
  have inj : ∀ (l m : List ByteArray), l.map (·.data.toList) = m.map (·.data.toList) → l = m := by
    intro l
    induction l with
    | nil => intro m hm; cases m with
      | nil => rfl
      | cons _ _ => simp at hm
    | cons a l ih => intro m hm; cases m with
      | nil => simp at hm
      | cons b m =>
        simp only [List.map_cons, List.cons.injEq] at hm
        rw [ih m hm.2, show a = b from ByteArray.ext (Array.toList_inj.1 hm.1)]
  exact inj _ _ hmap
theorem of_comma {x : Nat} (h : x < 4294967296) : (44 : UInt8) ∉ (of.sv x).data.toList := by
  intro hm
  have : (44 : Int) ∈ sby.sv (of.sv x) := by
    unfold sby.sv
    exact List.mem_map.2 ⟨44, hm, rfl⟩
  rw [of_bytes h] at this
  have := (full_mem 7 _ (u8 h) _ this).2
  omega
theorem of_len (x : Nat) : (of.sv x).data.toList.length = 8 := by
  have := of_size x
  unfold satn.sv at this
  rw [Lib.size_eq] at this
  omega
theorem lens_of : ∀ xs : List Nat, Lib.lens ((xs.map of.sv).map (·.data.toList)) = 8 * xs.length
  | [] => rfl
  | x :: r => by
    have := lens_of r
    unfold Lib.lens at this ⊢
    simp only [List.map_cons, List.sum_cons, List.length_cons, of_len]
    rw [this]; omega
theorem join_len {xs : List Nat} (h : xs ≠ []) : (Lib.join ((xs.map of.sv).map (·.data.toList)) [44]).length = 9 * xs.length - 1 := by
  obtain ⟨x, r, rfl⟩ : ∃ x r, xs = x :: r := by cases xs with
    | nil => exact absurd rfl h
    | cons x r => exact ⟨x, r, rfl⟩
  have hl := lens_of (x :: r)
  rw [List.map_cons, List.map_cons] at hl ⊢
  rw [Lib.join_length, hl]
  simp
  omega
theorem jok {xs : List Nat} (h : xs.length ≤ 1000) : sx.jok.sp (xs.map of.sv) sx.comma = true := by
  unfold sx.jok.sp
  rw [decide_eq_true_eq]
  by_cases h0 : xs = []
  · subst h0; decide
  · have := join_len h0
    rw [show sx.comma.data.toList = [44] from rfl, this]
    omega
theorem tx_size {xs : List Nat} (h : xs ≠ []) : satn.sv (tx.sv xs) = 9 * (xs.length : Int) - 1 := by
  have hp : 1 ≤ xs.length := by cases xs with
    | nil => exact absurd rfl h
    | cons _ _ => simp
  unfold tx.sv j.sv
  rw [List.length_map, decide_eq_false (by omega), cond_false]
  show ((Lib.join _ _).toArray.size : Int) = _
  rw [List.size_toArray, show sx.comma.data.toList = [44] from rfl, join_len h]
  omega
theorem tx_nil : tx.sv [] = none := rfl
theorem tx_none {xs : List Nat} (h : xs ≠ []) : seq.sv (tx.sv xs) none = false := by
  cases hs : seq.sv (tx.sv xs) none with
  | false => rfl
  | true =>
    have := congrArg satn.sv (seq_eq.1 hs)
    rw [tx_size h, show satn.sv none = 4 from rfl] at this
    omega
theorem tx_split {xs : List Nat} (h : xs ≠ []) (hw : ∀ x ∈ xs, x < 4294967296) : sx.split.sv (tx.sv xs) = xs.map of.sv := by
  have hp : 1 ≤ xs.length := by cases xs with
    | nil => exact absurd rfl h
    | cons _ _ => simp
  unfold tx.sv j.sv
  rw [List.length_map, decide_eq_false (by omega), cond_false]
  refine split_join (by simpa using h) fun s hs => ?_
  obtain ⟨x, hx, rfl⟩ := List.mem_map.1 hs
  exact of_comma (hw x hx)
theorem rd_tx {xs : List Nat} (hw : ∀ x ∈ xs, x < 4294967296) : rd.sv (tx.sv xs) = xs.map canon.sv := by
  by_cases h : xs = []
  · subst h
    unfold rd.sv
    rw [tx_nil, seq_eq.2 rfl]; rfl
  · unfold rd.sv
    rw [tx_none h, cond_false, tx_split h hw, List.map_map]
    apply List.map_congr_left
    intro x hx
    exact of_read (hw x hx)
theorem tx_canon {xs : List Nat} (hw : ∀ x ∈ xs, x < 4294967296) : tx.sv (xs.map canon.sv) = tx.sv xs := by
  unfold tx.sv
  rw [List.map_map]
  congr 1
  apply List.map_congr_left
  intro x hx
  exact canon_of (hw x hx)
/-- What is written of numbers can be read. -/
theorem tx_ok {xs : List Nat} (hw : ∀ x ∈ xs, x < 4294967296) (hl : xs.length ≤ 256) : rdok.sp (tx.sv xs) = true := by
  unfold rdok.sp
  rw [rd_tx hw, tx_canon hw, show seq.sv (tx.sv xs) (tx.sv xs) = true from seq_eq.2 rfl, Bool.and_true]
  by_cases h : xs = []
  · subst h; decide +kernel
  · rw [tx_size h, tx_split h hw, tx_none h, Bool.false_or, List.length_map]
    simp only [Bool.and_eq_true, decide_eq_true_eq, List.all_eq_true]
    refine ⟨by omega, hl, fun p hp => ?_⟩
    obtain ⟨x, hx, rfl⟩ := List.mem_map.1 hp
    exact of_ok (hw x hx)
end nt

end Go.Proofs.YtjhofofieiiplaaGreatDoor.Ab
