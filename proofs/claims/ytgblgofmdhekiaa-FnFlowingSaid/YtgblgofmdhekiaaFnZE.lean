/-
  Functions: tolled flows.
-/
import Derived.Test.YtgblgofmdhekiaaFnZC
namespace Go.Proofs.Ytgblgofmdhekiaa.Ab
open Go
set_option linter.unusedVariables false
set_option linter.unusedSimpArgs false
set_option maxRecDepth 100000

namespace td
def two (x : Nat) : Nat := fmul .f32 1073741824 x
def sv (az : List Nat) : List Nat := az.map td.two
theorem sv_length (az : List Nat) : (sv az).length = az.length := by simp [sv]
theorem sv_take {az : List Nat} {i : Nat} (h : i < az.length) : (sv az).take i ++ [td.two az[i]] = (sv az).take (i + 1) := by
  rw [List.take_add_one, List.getElem?_eq_getElem (by rw [sv_length]; exact h)]
  simp [sv]
theorem product_comm (a b : Ieee.Datum) : a.product b = b.product a := by
  cases a with
  | nan s f => cases b <;> rfl
  | infinity s => cases b with
    | nan t f => rfl
    | infinity t => cases s <;> cases t <;> rfl
    | number t n j => rfl
  | number s m i => cases b with
    | nan t f => rfl
    | infinity t => rfl
    | number t n j =>
      simp only [Ieee.Datum.product, Nat.mul_comm m n, Int.add_comm i j]
      cases s <;> cases t <;> rfl
theorem mul_comm (x : Nat) : fmul .f32 x 1073741824 = td.two x := by
  unfold td.two fmul Ieee.Format.mul
  rw [product_comm]
/-- A word with a sign is not above zero. -/
theorem neg_order {rung : Nat} (h : rung < 2147483648) : FloatKind.f32.format.order (2147483648 + rung) 0 ≠ some Ordering.gt := by
  have h1 : (2147483648 + rung) / FloatKind.f32.format.signWeight % 2 = 1 := by
    have e : FloatKind.f32.format.signWeight = 2147483648 := by decide
    rw [e]; omega
  have h2 : FloatKind.f32.format.read 0 = .number false 0 FloatKind.f32.format.leastPlace := by decide
  unfold Ieee.Format.order
  rw [h2]
  have key : (FloatKind.f32.format.read (2147483648 + rung)).neg = true := by
    unfold Ieee.Format.read
    simp only [h1]
    split
    · rfl
    · split
      · rfl
      · split <;> rfl
  generalize FloatKind.f32.format.read (2147483648 + rung) = d at key
  cases d with
  | nan s f => simp [Ieee.Datum.order]
  | infinity s =>
    simp only [Ieee.Datum.neg] at key
    subst key
    simp [Ieee.Datum.order]
  | number s m i =>
    simp only [Ieee.Datum.neg] at key
    subst key
    simp only [Ieee.Datum.order, ne_eq, Option.some.injEq, Ieee.signed, if_true]
    intro hc
    have hx := Int.compare_eq_gt.1 hc
    generalize m <<< (i - min i FloatKind.f32.format.leastPlace).toNat = q at hx
    simp at hx
    omega
theorem nearest_neg (mag : Nat) (place : Int) : ∃ rung, rung < 2147483648 ∧ FloatKind.f32.format.nearest true mag place = 2147483648 + rung := by
  have e : FloatKind.f32.format.signWeight = 2147483648 := by decide
  have e2 : FloatKind.f32.format.infRung = 2139095040 := by decide
  unfold Ieee.Format.nearest Ieee.Format.word
  split
  · exact ⟨0, by omega, by simp only [if_true, e]⟩
  · refine ⟨min _ FloatKind.f32.format.infRung, ?_, by simp only [if_true, e]; rfl⟩
    rw [e2]; omega
/-- What doubled is above zero is above zero. -/
theorem above {x : Nat} (h : flo.above.sp (td.two x) = true) : flo.above.sp x = true := by
  have h2 : FloatKind.f32.format.read 1073741824 = .number false 8388608 (-22) := by decide
  have h0 : FloatKind.f32.format.read 0 = .number false 0 FloatKind.f32.format.leastPlace := by decide
  unfold td.two fmul Ieee.Format.mul at h
  rw [h2] at h
  unfold flo.above.sp flo.fin.sp fsub Ieee.Format.sub Ieee.Format.order
  rw [h0]
  generalize FloatKind.f32.format.read x = d at h
  cases d with
  | nan s f =>
    exfalso
    have : flo.above.sp (qnan .f32) = false := by decide
    simp only [Ieee.Datum.product, Option.map_none, Option.getD_none, this] at h
    cases h
  | infinity s =>
    exfalso
    have k : ∀ s, flo.above.sp (FloatKind.f32.format.write (.infinity (false ^^ s))) = false := by decide
    have e : (Ieee.Datum.product (.number false 8388608 (-22)) (.infinity s)) = some (.infinity (s ^^ false)) := rfl
    rw [e] at h
    simp only [Option.map_some, Option.getD_some] at h
    have := k s
    rw [Bool.xor_comm] at h
    rw [this] at h
    cases h
  | number s m i =>
    simp only [Ieee.Datum.product, Option.map_some, Option.getD_some, Ieee.Format.write, Bool.false_xor] at h
    have hm : m ≠ 0 := by
      intro hm
      subst hm
      have k : ∀ s, flo.above.sp (FloatKind.f32.format.word s 0) = false := by decide
      simp only [Nat.mul_zero, Ieee.Format.nearest, if_true, k s] at h
      cases h
    have hs : s = false := by
      cases s with
      | false => rfl
      | true =>
        exfalso
        obtain ⟨rung, hr, e⟩ := nearest_neg (8388608 * m) (-22 + i)
        rw [e] at h
        have := neg_order hr
        simp only [flo.above.sp, Bool.and_eq_true, beq_iff_eq] at h
        exact this h.2
    subst hs
    have e1 : (Ieee.Datum.sum (.number false m i) (Ieee.Datum.opposite (.number false m i))) = some (.number false 0 i) := by
      simp only [Ieee.Datum.opposite, Ieee.Datum.sum, Ieee.signed, Int.min_self, Int.sub_self, Int.toNat_zero, Nat.shiftLeft_zero, if_true, Bool.not_false]
      have : (if (false : Bool) = true then -(m : Int) else (m : Int)) + -(m : Int) = 0 := by simp; omega
      rw [this]
      simp
    rw [e1]
    simp only [Option.map_some, Option.getD_some, Ieee.Format.write, Ieee.Format.nearest, if_true]
    have e2 : FloatKind.f32.format.read (FloatKind.f32.format.word false 0) = .number false 0 FloatKind.f32.format.leastPlace := by decide
    rw [e2]
    have e3 : Ieee.Datum.order (.number false 0 FloatKind.f32.format.leastPlace) (.number false 0 FloatKind.f32.format.leastPlace) = some Ordering.eq := by decide
    rw [e3]
    have e4 : Ieee.Datum.order (.number false m i) (.number false 0 FloatKind.f32.format.leastPlace) = some Ordering.gt := by
      simp only [Ieee.Datum.order, Ieee.signed, Option.some.injEq, Nat.zero_shiftLeft]
      refine Int.compare_eq_gt.2 ?_
      have : 0 < m <<< (i - min i FloatKind.f32.format.leastPlace).toNat := by
        rw [Nat.shiftLeft_eq]; exact Nat.mul_pos (Nat.pos_of_ne_zero hm) (Nat.two_pow_pos _)
      generalize m <<< (i - min i FloatKind.f32.format.leastPlace).toNat = q at this
      simp
      omega
    rw [e4]
    rfl
theorem lines {az ys : List Nat} (h : rdl.sp (td.sv az) ys = true) : rdl.sp az ys = true := by
  simp only [rdl.sp, Bool.and_eq_true, decide_eq_true_eq, sv_length, List.all_eq_true] at h ⊢
  refine ⟨h.1, fun x hx => td.above (h.2.1 _ ?_), h.2.2⟩
  simp only [sv, List.mem_map]
  exact ⟨x, hx, rfl⟩
theorem one_set (v : Nat) : (List.replicate 1 (0 : Nat)).set 0 v = [v] := rfl
end td


namespace iTolledFlow_t
def R : List AVal → Option (Bool × AVal × List Blk)
  | [.ro (.flts .f32 az) m 1, .ro (.flts .f32 ys) k 1, .flt .f32 T] => some (decide (m = az.length ∧ k = ys.length ∧ m ≤ 1048576 ∧ k ≤ 1048576) && ev.sp (td.sv az) ys T, .tup [.own 0 0 (ev.o.sv (td.sv az) ys T).length 0 1, .bool true], [⟨.typ (.flts .f32 (ev.o.sv (td.sv az) ys T)), 0⟩])
  | _ => none
def hd : Nat → Head := fun _ => ⟨[0, 1, 2, 8, 15, 16, 17], some 1⟩
noncomputable def L (f n : Nat) (s : State) := loopAt Try.prog (orc [⟨59, areSlopes.R⟩, ⟨23, iEvenFlow_t.R⟩]) hd Dr.std 0 f (bodyOf Try.f24) 0 [true, true, false, true] (retK Try.prog [6, 7] 0 none) n s
theorem start (az ys : List Nat) (T : Nat) (f : Nat) :
  runFn Try.prog (orc [⟨59, areSlopes.R⟩, ⟨23, iEvenFlow_t.R⟩]) hd Dr.std none f (bodyOf Try.f24) 41 [6, 7] [.ro (.flts .f32 az) az.length 1, .ro (.flts .f32 ys) ys.length 1, .flt .f32 T] []
  = (L f f (mkS (41 : Nat) [((0 : Nat), AVal.ro (Cont.flts FloatKind.f32 az) az.length (1 : Nat)), ((1 : Nat), AVal.ro (Cont.flts FloatKind.f32 ys) ys.length (1 : Nat)), ((2 : Nat), AVal.flt FloatKind.f32 T), ((8 : Nat), AVal.own (0 : Nat) (0 : Nat) (0 : Nat) (0 : Nat) (1 : Nat)), ((15 : Nat), AVal.ro (Cont.flts FloatKind.f32 az) az.length (1 : Nat)), ((16 : Nat), AVal.int IntKind.i64 (↑az.length : Int)), ((17 : Nat), AVal.int IntKind.i64 (0 : Int))] [{ c := BC.typ (Cont.flts FloatKind.f32 (List.replicate (0 : Nat) (0 : Nat))), ver := (0 : Nat) }])) := by kernel_rfl
theorem round (az ys : List Nat) (T : Nat) (zs : List Nat) (i f n : Nat) :
  L f (n + 1) (mkS 41 [(0, .ro (.flts .f32 az) az.length 1), (1, .ro (.flts .f32 ys) ys.length 1), (2, .flt .f32 T), (8, .own 0 0 i 0 1), (15, .ro (.flts .f32 az) az.length 1), (16, .int .i64 az.length), (17, .int .i64 i)] [⟨.typ (.flts .f32 zs), 0⟩])
  = (bif decide ((↑i : Int) < (↑az.length : Int)) then bif true && (decide ((0 : Int) ≤ (↑i : Int)) && decide ((↑i : Int) < (↑az.length : Int))) then bif decide ((↑i : Int).toNat < az.length) then bif (1 : Nat) == (1 : Nat) && (1 : Nat) == (1 : Nat) && (true && (true && true) && (true && true && (decide (i + (List.take (1 : Nat) (List.drop (0 : Nat) ((List.replicate (1 : Nat) (0 : Nat)).set (0 : Nat) (fmul FloatKind.f32 (gn az (↑i : Int).toNat) (1073741824 : Nat))))).length ≤ (4611686018427387904 : Nat)) && decide ((i + (List.take (1 : Nat) (List.drop (0 : Nat) ((List.replicate (1 : Nat) (0 : Nat)).set (0 : Nat) (fmul FloatKind.f32 (gn az (↑i : Int).toNat) (1073741824 : Nat))))).length) * (4 : Nat) ≤ (140737488355328 : Nat))))) then L f n (mkS (41 : Nat) [((0 : Nat), AVal.ro (Cont.flts FloatKind.f32 az) az.length (1 : Nat)), ((1 : Nat), AVal.ro (Cont.flts FloatKind.f32 ys) ys.length (1 : Nat)), ((2 : Nat), AVal.flt FloatKind.f32 T), ((8 : Nat), AVal.own (0 : Nat) (0 : Nat) (i + (List.take (1 : Nat) (List.drop (0 : Nat) ((List.replicate (1 : Nat) (0 : Nat)).set (0 : Nat) (fmul FloatKind.f32 (gn az (↑i : Int).toNat) (1073741824 : Nat))))).length) (0 : Nat) (1 : Nat)), ((15 : Nat), AVal.ro (Cont.flts FloatKind.f32 az) az.length (1 : Nat)), ((16 : Nat), AVal.int IntKind.i64 (↑az.length : Int)), ((17 : Nat), AVal.int IntKind.i64 (IntKind.i64.wrap ((↑i : Int) + (1 : Int))))] [{ c := BC.typ (Cont.flts FloatKind.f32 (List.take i zs ++ List.take (1 : Nat) (List.drop (0 : Nat) ((List.replicate (1 : Nat) (0 : Nat)).set (0 : Nat) (fmul FloatKind.f32 (gn az (↑i : Int).toNat) (1073741824 : Nat)))))), ver := (0 : Nat) }]) else none else none else none else bif decide (az.length ≤ az.length ∧ az.length ≤ (4611686018427387904 : Nat) ∧ ys.length ≤ ys.length ∧ ys.length ≤ (4611686018427387904 : Nat)) && (true && (true && true) || true && true) then bif !rdl.sp (List.take az.length az) (List.take ys.length ys) then some (AVal.tup [AVal.nils, AVal.bool false], [{ c := BC.typ (Cont.flts FloatKind.f32 zs), ver := (0 : Nat) }]) else bif decide (i = zs.length ∧ ys.length = ys.length ∧ i ≤ (4611686018427387904 : Nat) ∧ ys.length ≤ (4611686018427387904 : Nat)) && ev.sp zs ys T && (false && (true && (true && true)) || true && (true && true) && (true && true)) then some (AVal.tup [AVal.own (1 : Nat) (0 : Nat) (ev.o.sv zs ys T).length (0 : Nat) (1 : Nat), AVal.bool true], [{ c := BC.typ (Cont.flts FloatKind.f32 zs), ver := (0 : Nat) }, { c := BC.typ (Cont.flts FloatKind.f32 (ev.o.sv zs ys T)), ver := (0 : Nat) }]) else none else none) := by kernel_rfl
theorem loop (az ys : List Nat) (T : Nat) (f : Nat) (hm : az.length ≤ 1048576) (hk : ys.length ≤ 1048576) (hs : ev.sp (td.sv az) ys T = true) : ∀ (d i n : Nat), i + d = az.length → d < n →
    L f n (mkS 41 [(0, .ro (.flts .f32 az) az.length 1), (1, .ro (.flts .f32 ys) ys.length 1), (2, .flt .f32 T), (8, .own 0 0 i 0 1), (15, .ro (.flts .f32 az) az.length 1), (16, .int .i64 az.length), (17, .int .i64 i)] [⟨.typ (.flts .f32 ((td.sv az).take i)), 0⟩]) = some (.tup [.own 1 0 (ev.o.sv (td.sv az) ys T).length 0 1, .bool true], [⟨.typ (.flts .f32 (td.sv az)), 0⟩, ⟨.typ (.flts .f32 (ev.o.sv (td.sv az) ys T)), 0⟩]) := by
  intro d
  induction d with
  | zero =>
    intro i n hi hn
    obtain ⟨n, rfl⟩ : ∃ k, n = k + 1 := ⟨n - 1, by omega⟩
    obtain rfl : i = az.length := by omega
    have tk : (td.sv az).take az.length = td.sv az := List.take_of_length_le (by rw [td.sv_length]; exact Nat.le_refl _)
    have tl : (td.sv az).length = az.length := td.sv_length _
    have g1 : az.length ≤ 4611686018427387904 := by omega
    have g2 : ys.length ≤ 4611686018427387904 := by omega
    rw [round]
    have hl : rdl.sp az ys = true := by
      simp only [ev.sp, Bool.and_eq_true] at hs
      exact td.lines hs.1.1
    simp -implicitDefEqProofs only [Int.lt_irrefl, tk, tl, g1, g2, hl, hs, List.take_length, Nat.le_refl, and_self, eq_self, decide_true, decide_false, Bool.and_self, Bool.or_self, Bool.and_true, Bool.true_and, Bool.and_false, Bool.false_and, Bool.or_true, Bool.true_or, Bool.or_false, Bool.false_or, Bool.not_true, Bool.not_false, cond_true, cond_false]
    try rfl
  | succ d ih =>
    intro i n hi hn
    obtain ⟨n, rfl⟩ : ∃ k, n = k + 1 := ⟨n - 1, by omega⟩
    have h5 : (i : Int) < (az.length : Int) := by omega
    have h4 : (0 : Int) ≤ (i : Int) := Int.natCast_nonneg _
    have h2 : i < az.length := by omega
    have k0 : i + 1 ≤ 4611686018427387904 := by omega
    have k1 : (i + 1) * 4 ≤ 140737488355328 := by omega
    have ht : ((td.sv az).take i).take i = (td.sv az).take i := by rw [List.take_take, Nat.min_self]
    have e1 : fmul .f32 1073741824 az[i] = td.two az[i] := rfl
    have e2 : fmul .f32 az[i] 1073741824 = td.two az[i] := td.mul_comm _
    have hih := ih (i + 1) n (by omega) (by omega)
    rw [← td.sv_take h2] at hih
    rw [round]
    simp -implicitDefEqProofs only [h2, h4, h5, k0, k1, ht, gn_eq h2, e1, e2, td.one_set, List.drop_zero, List.take_length, List.length_singleton, List.take_succ_cons, List.take_zero, Nat.reduceBEq, Int.toNat_natCast, wrap_nat i (by omega), decide_true, decide_false, Bool.and_self, Bool.or_self, Bool.and_true, Bool.true_and, Bool.and_false, Bool.false_and, Bool.or_true, Bool.true_or, Bool.or_false, Bool.false_or, Bool.not_true, Bool.not_false, cond_true, cond_false]
    exact hih
theorem run : ∀ args v new, R args = some (true, v, new) → ∃ fuel, regc [1] (runFn Try.prog (orc [⟨59, areSlopes.R⟩, ⟨23, iEvenFlow_t.R⟩]) hd Dr.std none fuel (bodyOf Try.f24) 41 [6, 7] args []) = some (v, new) := by
  intro args v new h
  unfold R at h
  split at h
  · rename_i az m ys k T
    simp only [Option.some.injEq, Prod.mk.injEq, Bool.and_eq_true, decide_eq_true_eq, Bool.not_eq_true'] at h
    obtain ⟨⟨⟨rfl, rfl, h3, h4⟩, hs⟩, rfl, rfl⟩ := h
    refine ⟨az.length + 1, ?_⟩
    rw [start]
    have hl := loop az ys T (az.length + 1) h3 h4 hs az.length 0 (az.length + 1) (by omega) (by omega)
    rw [List.take_zero] at hl
    exact (congrArg (regc [1]) hl).trans rfl
  · cases h
theorem ok : EntOk Try.prog ⟨24, R⟩ :=
  ent_okAG (ks := [1]) mixed (A := (orc [⟨59, areSlopes.R⟩, ⟨23, iEvenFlow_t.R⟩])) (orc_ok (by simp only [List.mem_cons, List.not_mem_nil, or_false, forall_eq_or_imp, forall_eq]; exact ⟨areSlopes.ok, iEvenFlow_t.ok⟩)) Try.func24 (by kernel_rfl) (by kernel_rfl) (n := 41) (ts := [6, 7]) (hd := hd) (dr := Dr.std) (cut := none) (by kernel_rfl) (by kernel_rfl) (by kernel_rfl) run
end iTolledFlow_t


namespace iTolledFlow_f
def R : List AVal → Option (Bool × AVal × List Blk)
  | [.ro (.flts .f32 az) m 1, .ro (.flts .f32 ys) k 1, .flt .f32 T] => some (decide (m = az.length ∧ k = ys.length ∧ m ≤ 1048576 ∧ k ≤ 1048576) && !ev.sp (td.sv az) ys T, .tup [.nils, .bool false], [])
  | _ => none
def hd : Nat → Head := fun _ => ⟨[0, 1, 2, 8, 15, 16, 17], some 1⟩
noncomputable def L (f n : Nat) (s : State) := loopAt Try.prog (orc [⟨59, areSlopes.R⟩, ⟨23, iEvenFlow_f.R⟩]) hd Dr.std 0 f (bodyOf Try.f24) 0 [true, true, false, true] (retK Try.prog [6, 7] 0 (some 0)) n s
theorem start (az ys : List Nat) (T : Nat) (f : Nat) :
  runFn Try.prog (orc [⟨59, areSlopes.R⟩, ⟨23, iEvenFlow_f.R⟩]) hd Dr.std (some 0) f (bodyOf Try.f24) 41 [6, 7] [.ro (.flts .f32 az) az.length 1, .ro (.flts .f32 ys) ys.length 1, .flt .f32 T] []
  = (L f f (mkS (41 : Nat) [((0 : Nat), AVal.ro (Cont.flts FloatKind.f32 az) az.length (1 : Nat)), ((1 : Nat), AVal.ro (Cont.flts FloatKind.f32 ys) ys.length (1 : Nat)), ((2 : Nat), AVal.flt FloatKind.f32 T), ((8 : Nat), AVal.own (0 : Nat) (0 : Nat) (0 : Nat) (0 : Nat) (1 : Nat)), ((15 : Nat), AVal.ro (Cont.flts FloatKind.f32 az) az.length (1 : Nat)), ((16 : Nat), AVal.int IntKind.i64 (↑az.length : Int)), ((17 : Nat), AVal.int IntKind.i64 (0 : Int))] [{ c := BC.typ (Cont.flts FloatKind.f32 (List.replicate (0 : Nat) (0 : Nat))), ver := (0 : Nat) }])) := by kernel_rfl
theorem round (az ys : List Nat) (T : Nat) (zs : List Nat) (i f n : Nat) :
  L f (n + 1) (mkS 41 [(0, .ro (.flts .f32 az) az.length 1), (1, .ro (.flts .f32 ys) ys.length 1), (2, .flt .f32 T), (8, .own 0 0 i 0 1), (15, .ro (.flts .f32 az) az.length 1), (16, .int .i64 az.length), (17, .int .i64 i)] [⟨.typ (.flts .f32 zs), 0⟩])
  = (bif decide ((↑i : Int) < (↑az.length : Int)) then bif true && (decide ((0 : Int) ≤ (↑i : Int)) && decide ((↑i : Int) < (↑az.length : Int))) then bif decide ((↑i : Int).toNat < az.length) then bif (1 : Nat) == (1 : Nat) && (1 : Nat) == (1 : Nat) && (true && (true && true) && (true && true && (decide (i + (List.take (1 : Nat) (List.drop (0 : Nat) ((List.replicate (1 : Nat) (0 : Nat)).set (0 : Nat) (fmul FloatKind.f32 (gn az (↑i : Int).toNat) (1073741824 : Nat))))).length ≤ (4611686018427387904 : Nat)) && decide ((i + (List.take (1 : Nat) (List.drop (0 : Nat) ((List.replicate (1 : Nat) (0 : Nat)).set (0 : Nat) (fmul FloatKind.f32 (gn az (↑i : Int).toNat) (1073741824 : Nat))))).length) * (4 : Nat) ≤ (140737488355328 : Nat))))) then L f n (mkS (41 : Nat) [((0 : Nat), AVal.ro (Cont.flts FloatKind.f32 az) az.length (1 : Nat)), ((1 : Nat), AVal.ro (Cont.flts FloatKind.f32 ys) ys.length (1 : Nat)), ((2 : Nat), AVal.flt FloatKind.f32 T), ((8 : Nat), AVal.own (0 : Nat) (0 : Nat) (i + (List.take (1 : Nat) (List.drop (0 : Nat) ((List.replicate (1 : Nat) (0 : Nat)).set (0 : Nat) (fmul FloatKind.f32 (gn az (↑i : Int).toNat) (1073741824 : Nat))))).length) (0 : Nat) (1 : Nat)), ((15 : Nat), AVal.ro (Cont.flts FloatKind.f32 az) az.length (1 : Nat)), ((16 : Nat), AVal.int IntKind.i64 (↑az.length : Int)), ((17 : Nat), AVal.int IntKind.i64 (IntKind.i64.wrap ((↑i : Int) + (1 : Int))))] [{ c := BC.typ (Cont.flts FloatKind.f32 (List.take i zs ++ List.take (1 : Nat) (List.drop (0 : Nat) ((List.replicate (1 : Nat) (0 : Nat)).set (0 : Nat) (fmul FloatKind.f32 (gn az (↑i : Int).toNat) (1073741824 : Nat)))))), ver := (0 : Nat) }]) else none else none else none else bif decide (az.length ≤ az.length ∧ az.length ≤ (4611686018427387904 : Nat) ∧ ys.length ≤ ys.length ∧ ys.length ≤ (4611686018427387904 : Nat)) && (true && (true && true) || true && true) then bif !rdl.sp (List.take az.length az) (List.take ys.length ys) then some (AVal.tup [AVal.nils, AVal.bool false], []) else bif decide (i = zs.length ∧ ys.length = ys.length ∧ i ≤ (4611686018427387904 : Nat) ∧ ys.length ≤ (4611686018427387904 : Nat)) && !ev.sp zs ys T && (false && (true && (true && true)) || true && true) then some (AVal.tup [AVal.nils, AVal.bool false], []) else none else none) := by kernel_rfl
theorem loop (az ys : List Nat) (T : Nat) (f : Nat) (hm : az.length ≤ 1048576) (hk : ys.length ≤ 1048576) (hs : ev.sp (td.sv az) ys T = false) : ∀ (d i n : Nat), i + d = az.length → d < n →
    L f n (mkS 41 [(0, .ro (.flts .f32 az) az.length 1), (1, .ro (.flts .f32 ys) ys.length 1), (2, .flt .f32 T), (8, .own 0 0 i 0 1), (15, .ro (.flts .f32 az) az.length 1), (16, .int .i64 az.length), (17, .int .i64 i)] [⟨.typ (.flts .f32 ((td.sv az).take i)), 0⟩]) = some (.tup [.nils, .bool false], []) := by
  intro d
  induction d with
  | zero =>
    intro i n hi hn
    obtain ⟨n, rfl⟩ : ∃ k, n = k + 1 := ⟨n - 1, by omega⟩
    obtain rfl : i = az.length := by omega
    have tk : (td.sv az).take az.length = td.sv az := List.take_of_length_le (by rw [td.sv_length]; exact Nat.le_refl _)
    have tl : (td.sv az).length = az.length := td.sv_length _
    have g1 : az.length ≤ 4611686018427387904 := by omega
    have g2 : ys.length ≤ 4611686018427387904 := by omega
    rw [round]
    cases hl : rdl.sp az ys
    · simp -implicitDefEqProofs only [Int.lt_irrefl, tk, tl, g1, g2, hl, List.take_length, Nat.le_refl, and_self, eq_self, decide_true, decide_false, Bool.and_self, Bool.or_self, Bool.and_true, Bool.true_and, Bool.and_false, Bool.false_and, Bool.or_true, Bool.true_or, Bool.or_false, Bool.false_or, Bool.not_true, Bool.not_false, cond_true, cond_false]
      try rfl
    · simp -implicitDefEqProofs only [Int.lt_irrefl, tk, tl, g1, g2, hl, hs, List.take_length, Nat.le_refl, and_self, eq_self, decide_true, decide_false, Bool.and_self, Bool.or_self, Bool.and_true, Bool.true_and, Bool.and_false, Bool.false_and, Bool.or_true, Bool.true_or, Bool.or_false, Bool.false_or, Bool.not_true, Bool.not_false, cond_true, cond_false]
      try rfl
  | succ d ih =>
    intro i n hi hn
    obtain ⟨n, rfl⟩ : ∃ k, n = k + 1 := ⟨n - 1, by omega⟩
    have h5 : (i : Int) < (az.length : Int) := by omega
    have h4 : (0 : Int) ≤ (i : Int) := Int.natCast_nonneg _
    have h2 : i < az.length := by omega
    have k0 : i + 1 ≤ 4611686018427387904 := by omega
    have k1 : (i + 1) * 4 ≤ 140737488355328 := by omega
    have ht : ((td.sv az).take i).take i = (td.sv az).take i := by rw [List.take_take, Nat.min_self]
    have e1 : fmul .f32 1073741824 az[i] = td.two az[i] := rfl
    have e2 : fmul .f32 az[i] 1073741824 = td.two az[i] := td.mul_comm _
    have hih := ih (i + 1) n (by omega) (by omega)
    rw [← td.sv_take h2] at hih
    rw [round]
    simp -implicitDefEqProofs only [h2, h4, h5, k0, k1, ht, gn_eq h2, e1, e2, td.one_set, List.drop_zero, List.take_length, List.length_singleton, List.take_succ_cons, List.take_zero, Nat.reduceBEq, Int.toNat_natCast, wrap_nat i (by omega), decide_true, decide_false, Bool.and_self, Bool.or_self, Bool.and_true, Bool.true_and, Bool.and_false, Bool.false_and, Bool.or_true, Bool.true_or, Bool.or_false, Bool.false_or, Bool.not_true, Bool.not_false, cond_true, cond_false]
    exact hih
theorem run : ∀ args v new, R args = some (true, v, new) → ∃ fuel, runFn Try.prog (orc [⟨59, areSlopes.R⟩, ⟨23, iEvenFlow_f.R⟩]) hd Dr.std (some 0) fuel (bodyOf Try.f24) 41 [6, 7] args [] = some (v, new) := by
  intro args v new h
  unfold R at h
  split at h
  · rename_i az m ys k T
    simp only [Option.some.injEq, Prod.mk.injEq, Bool.and_eq_true, decide_eq_true_eq, Bool.not_eq_true'] at h
    obtain ⟨⟨⟨rfl, rfl, h3, h4⟩, hs⟩, rfl, rfl⟩ := h
    refine ⟨az.length + 1, ?_⟩
    rw [start]
    have hl := loop az ys T (az.length + 1) h3 h4 hs az.length 0 (az.length + 1) (by omega) (by omega)
    rw [List.take_zero] at hl
    exact hl
  · cases h
theorem ok : EntOk Try.prog ⟨24, R⟩ :=
  ent_okA mixed (A := (orc [⟨59, areSlopes.R⟩, ⟨23, iEvenFlow_f.R⟩])) (orc_ok (by simp only [List.mem_cons, List.not_mem_nil, or_false, forall_eq_or_imp, forall_eq]; exact ⟨areSlopes.ok, iEvenFlow_f.ok⟩)) Try.func24 (by kernel_rfl) (by kernel_rfl) (n := 41) (ts := [6, 7]) (hd := hd) (dr := Dr.std) (cut := some 0) (by kernel_rfl) (by kernel_rfl) (by kernel_rfl) run
end iTolledFlow_f


namespace iTolledFlow
def Rt := iTolledFlow_t.R
def Rf := iTolledFlow_f.R
theorem okt : EntOk Try.prog ⟨24, Rt⟩ := iTolledFlow_t.ok
theorem okf : EntOk Try.prog ⟨24, Rf⟩ := iTolledFlow_f.ok
end iTolledFlow

end Go.Proofs.Ytgblgofmdhekiaa.Ab
