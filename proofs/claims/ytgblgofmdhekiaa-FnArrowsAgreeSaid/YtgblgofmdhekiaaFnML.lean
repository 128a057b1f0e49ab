/-
  Functions: turns come nearer to one another, in rounds.
-/
import Derived.Test.YtgblgofmdhekiaaFnMK
namespace Go.Proofs.Ytgblgofmdhekiaa.Ab
open Go
set_option linter.unusedVariables false
set_option linter.unusedSimpArgs false
set_option maxRecDepth 100000


namespace ag
def rsp.sp (xs : List Nat) (b e : Nat) (c : Int) : Bool := t.sp xs && (flo.fin.sp b && (flo.least.sp e && ((decide (1 ≤ c) && decide (c ≤ 256)) && (rs.sv b e c.toNat xs 1).isSome)))
def ro.sv (xs : List Nat) (b e : Nat) (c : Int) : List Nat := ((rs.sv b e c.toNat xs 1).getD ([], 0)).1
def rn.sv (xs : List Nat) (b e : Nat) (c : Int) : Int := ((rs.sv b e c.toNat xs 1).getD ([], 0)).2
theorem rs_length (b near : Nat) : ∀ (d : Nat) (ys : List Nat) (k : Int) (o : List Nat) (m : Int), rs.sv b near d ys k = some (o, m) → o.length = ys.length := by
  intro d
  induction d with
  | zero => intro ys k o m h; cases h
  | succ d ih =>
    intro ys k o m h
    simp only [rs.sv] at h
    cases h1 : (ag.o.sv ys b).any areFinite_1.sp
    · rw [h1, cond_false] at h
      cases h2 : le.sp (far.sv (ag.o.sv ys b) ys 0) near
      · rw [h2, cond_false] at h
        rw [ih _ _ _ _ h, o_length]
      · rw [h2, cond_true] at h
        simp only [Option.some.injEq, Prod.mk.injEq] at h
        rw [← h.1, o_length]
    · rw [h1, cond_true] at h; cases h
end ag
theorem EntOk.weak {P : Program} {f : FuncId} {R R' : List AVal → Option (Bool × AVal × List Blk)} (h : EntOk P ⟨f, R⟩)
    (hR : ∀ args v new, R' args = some (true, v, new) → ∃ v0, R args = some (true, v0, new) ∧ ∀ [Fb : Forb] (ρ : List Nat) (H : Heap) (w : World) (c : Value), VR ρ H w v0 c → VR ρ H w v c) : EntOk P ⟨f, R'⟩ :=
  ⟨h.1, fun args v new hr => by
    obtain ⟨v0, h1, h2⟩ := hR args v new hr
    intro Fb ρ w cargs S hargs
    refine (h.2 args v0 new h1 ρ w cargs S hargs).mono fun e w' ⟨c, he, hG⟩ => ⟨c, he, ?_⟩
    obtain ⟨ρ', g1, g2⟩ := hG
    exact ⟨ρ', h2 ρ' _ w' c g1, g2⟩⟩
/-- Nothing, or an empty list to read. -/
theorem nil_ro [Fb : Forb] (ρ : List Nat) (H : Heap) (w : World) (b : Bool) (c : Value) (h : VR ρ H w (.tup [.nils, .bool b]) c) : VR ρ H w (.tup [.ro (.flts .f32 []) 0 1, .bool b]) c := by
  cases h
  rename_i cs hl hh
  refine .tup _ _ (by simpa using hl) fun i v hv => ?_
  match i, hv with
  | 0, hv =>
    simp only [List.getElem?_cons_zero, Option.some.injEq] at hv
    subst hv
    have h0 := hh 0 .nils rfl
    generalize cs.getD 0 Go.undef = x at h0
    cases h0
    exact .ro _ _ _ _ _ (fun _ => rfl) (fun p hp => by cases hp) (Nat.le_refl _) (by simp)
  | 1, hv =>
    simp only [List.getElem?_cons_succ, List.getElem?_cons_zero, Option.some.injEq] at hv
    subst hv
    exact hh 1 _ rfl
  | i + 2, hv => simp at hv
namespace jAgreeOnce
/-- What comes is read alone, and there may be nothing. -/
def o.sv (xs : List Nat) (b : Nat) : List Nat := bif ag.sp xs b then ag.o.sv xs b else []
def R : List AVal → Option (Bool × AVal × List Blk)
  | [.ro (.flts .f32 xs) m 1, .flt .f32 b] => some (decide (m = xs.length ∧ m ≤ 4611686018427387904), .tup [.ro (.flts .f32 (jAgreeOnce.o.sv xs b)) (jAgreeOnce.o.sv xs b).length 1, .bool (ag.sp xs b)], [])
  | _ => none
theorem ok : EntOk Try.prog ⟨32, R⟩ := by
  have h1 := iAgreeOnce.okt.lay
  have h2 : EntOk Try.prog ⟨32, fun args => match args with
      | [.ro (.flts .f32 xs) m 1, .flt .f32 b] => some (decide (m = xs.length ∧ m ≤ 4611686018427387904) && !ag.sp xs b, .tup [.ro (.flts .f32 []) 0 1, .bool false], [])
      | _ => none⟩ := iAgreeOnce.okf.weak fun args v new h => by
    split at h
    · simp only [Option.some.injEq, Prod.mk.injEq] at h
      obtain ⟨h1, rfl, rfl⟩ := h
      exact ⟨_, by simp only [iAgreeOnce.Rf, iAgreeOnce_f.R, h1], fun ρ H w c hv => nil_ro ρ H w false c hv⟩
    · cases h
  refine EntOk.cases h1 h2 fun args v new h => ?_
  unfold R at h
  split at h
  · rename_i xs m b
    simp only [Option.some.injEq, Prod.mk.injEq, decide_eq_true_eq] at h
    obtain ⟨⟨rfl, h⟩, rfl, rfl⟩ := h
    cases hc : ag.sp xs b
    · right
      simp only [hc, h, o.sv, eq_self, true_and, and_self, decide_true, Bool.not_false, Bool.and_self, cond_false, List.length_nil]
    · left
      have e : jAgreeOnce.o.sv xs b = ag.o.sv xs b := by unfold jAgreeOnce.o.sv; rw [hc]; rfl
      rw [e]
      simp only [layR, iAgreeOnce.Rt, iAgreeOnce_t.R, hc, h, eq_self, true_and, and_self, decide_true, Bool.and_self]
      rfl
  · cases h
end jAgreeOnce




namespace iAgreeRounds_t
def R : List AVal → Option (Bool × AVal × List Blk)
  | [.ro (.flts .f32 xs) m 1, .flt .f32 b, .flt .f32 e, .int .i64 c] => some (decide (m = xs.length ∧ m ≤ 4611686018427387904) && ag.rsp.sp xs b e c, .tup [.own 0 0 (ag.ro.sv xs b e c).length 0 1, .int .i64 (ag.rn.sv xs b e c), .bool true], [⟨.typ (.flts .f32 (ag.ro.sv xs b e c)), 0⟩])
  | _ => none
def hd : Nat → Head := fun i => bif eqN i 2 then ⟨[0, 1, 2, 8, 9, 10, 11, 12, 14, 31, 32, 43, 44, 45], some 1⟩ else ⟨[999, 0, 1, 2, 8, 9, 10, 31, 32], some 0⟩
noncomputable def L1 (f n : Nat) (s : State) := loopAt Try.prog (orc [⟨50, iIsFinite.R⟩, ⟨40, within.R⟩, ⟨32, iAgreeOnce.Rt⟩]) hd Dr.std 0 f (bodyOf Try.f33) 0 [true, true, false, true] (retK Try.prog [8, 9, 10] 0 none) n s
noncomputable def L2 (f n n2 : Nat) (s : State) := loopAt Try.prog (orc [⟨50, iIsFinite.R⟩, ⟨40, within.R⟩, ⟨32, iAgreeOnce.Rt⟩]) hd Dr.std 0 f (bodyAt (bodyOf Try.f33) [true, true, false, true]) (curAt (bodyOf Try.f33) 0 [true, true, false, true]) [true, true, false, true, true, true, true, false, true] (iterK (normE 0 (hd (curAt (bodyOf Try.f33) 0 [true, true, false, true]))) (L1 f n) (contAt Try.prog (orc [⟨50, iIsFinite.R⟩, ⟨40, within.R⟩, ⟨32, iAgreeOnce.Rt⟩]) hd Dr.std 0 f (bodyOf Try.f33) 0 [true, true, false, true] (retK Try.prog [8, 9, 10] 0 none))) n2 s
theorem start (xs : List Nat) (b e : Nat) (c : Int) (f : Nat) :
  runFn Try.prog (orc [⟨50, iIsFinite.R⟩, ⟨40, within.R⟩, ⟨32, iAgreeOnce.Rt⟩]) hd Dr.std none f (bodyOf Try.f33) 70 [8, 9, 10] [.ro (.flts .f32 xs) xs.length 1, .flt .f32 b, .flt .f32 e, .int .i64 c] []
  = (bif true && (true && true || true && true) then bif !flo.fin.sp e then some (AVal.tup [AVal.nils, AVal.int IntKind.i64 (0 : Int), AVal.bool false], []) else bif !(FloatKind.f32.format.order e (0 : Nat) == some Ordering.gt || FloatKind.f32.format.order e (0 : Nat) == some Ordering.eq) then some (AVal.tup [AVal.nils, AVal.int IntKind.i64 (0 : Int), AVal.bool false], []) else bif true && (true && true || true && true) then bif !(decide ((1 : Int) ≤ c) && decide (c ≤ (256 : Int))) then some (AVal.tup [AVal.nils, AVal.int IntKind.i64 (0 : Int), AVal.bool false], []) else L1 f f (mkS (70 : Nat) [((0 : Nat), AVal.ro (Cont.flts FloatKind.f32 xs) xs.length (1 : Nat)), ((1 : Nat), AVal.flt FloatKind.f32 b), ((2 : Nat), AVal.flt FloatKind.f32 e), ((8 : Nat), AVal.nils), ((9 : Nat), AVal.int IntKind.i64 (0 : Int)), ((10 : Nat), AVal.bool false), ((31 : Nat), AVal.int IntKind.i64 c), ((32 : Nat), AVal.int IntKind.i64 (0 : Int))] []) else none else none) := by kernel_rfl
theorem round1 (ys : List Nat) (b e : Nat) (c k : Int) (f n : Nat) :
  L1 f (n + 1) (mkS 70 [(0, .ro (.flts .f32 ys) ys.length 1), (1, .flt .f32 b), (2, .flt .f32 e), (8, .nils), (9, .int .i64 0), (10, .bool false), (31, .int .i64 c), (32, .int .i64 k)] [])
  = (bif decide (k < c) then bif decide (ys.length = ys.length ∧ ys.length ≤ (4611686018427387904 : Nat)) && ag.sp ys b && (true && (true && true) || true && true && (true && true)) then L2 f n f (mkS (70 : Nat) [((0 : Nat), AVal.ro (Cont.flts FloatKind.f32 ys) ys.length (1 : Nat)), ((1 : Nat), AVal.flt FloatKind.f32 b), ((2 : Nat), AVal.flt FloatKind.f32 e), ((8 : Nat), AVal.nils), ((9 : Nat), AVal.int IntKind.i64 (0 : Int)), ((10 : Nat), AVal.bool false), ((11 : Nat), AVal.int IntKind.i64 k), ((12 : Nat), AVal.own (0 : Nat) (0 : Nat) (ag.o.sv ys b).length (0 : Nat) (1 : Nat)), ((14 : Nat), AVal.flt FloatKind.f32 (0 : Nat)), ((31 : Nat), AVal.int IntKind.i64 c), ((32 : Nat), AVal.int IntKind.i64 k), ((43 : Nat), AVal.own (0 : Nat) (0 : Nat) (ag.o.sv ys b).length (0 : Nat) (1 : Nat)), ((44 : Nat), AVal.int IntKind.i64 (↑(ag.o.sv ys b).length : Int)), ((45 : Nat), AVal.int IntKind.i64 (0 : Int))] [{ c := BC.typ (Cont.flts FloatKind.f32 (ag.o.sv ys b)), ver := (0 : Nat) }]) else none else some (AVal.tup [AVal.nils, AVal.int IntKind.i64 (0 : Int), AVal.bool false], [])) := by kernel_rfl
theorem round2 (ys zs : List Nat) (b e g i : Nat) (c k : Int) (f n n2 : Nat) :
  L2 f n (n2 + 1) (mkS 70 [(0, .ro (.flts .f32 ys) ys.length 1), (1, .flt .f32 b), (2, .flt .f32 e), (8, .nils), (9, .int .i64 0), (10, .bool false), (11, .int .i64 k), (12, .own 0 0 zs.length 0 1), (14, .flt .f32 g), (31, .int .i64 c), (32, .int .i64 k), (43, .own 0 0 zs.length 0 1), (44, .int .i64 (zs.length : Int)), (45, .int .i64 (i : Int))] [⟨.typ (.flts .f32 zs), 0⟩])
  = (bif decide ((↑i : Int) < (↑zs.length : Int)) then bif true && (decide ((0 : Int) ≤ (↑i : Int)) && decide ((↑i : Int) < (↑zs.length : Int))) then bif true && decide ((↑i : Int).toNat < zs.length) then bif true && (decide ((0 : Int) ≤ (↑i : Int)) && decide ((↑i : Int) < (↑ys.length : Int))) then bif decide ((↑i : Int).toNat < ys.length) then bif true && ord.sp FloatKind.f32 g (fsub FloatKind.f32 (gn zs (↑i : Int).toNat) (gn ys (↑i : Int).toNat)) && ord.sp FloatKind.f32 (fmax.sv FloatKind.f32 g (fsub FloatKind.f32 (gn zs (↑i : Int).toNat) (gn ys (↑i : Int).toNat))) (Op.negFloat FloatKind.f32 (fsub FloatKind.f32 (gn zs (↑i : Int).toNat) (gn ys (↑i : Int).toNat))) then L2 f n n2 (mkS (70 : Nat) [((0 : Nat), AVal.ro (Cont.flts FloatKind.f32 ys) ys.length (1 : Nat)), ((1 : Nat), AVal.flt FloatKind.f32 b), ((2 : Nat), AVal.flt FloatKind.f32 e), ((8 : Nat), AVal.nils), ((9 : Nat), AVal.int IntKind.i64 (0 : Int)), ((10 : Nat), AVal.bool false), ((11 : Nat), AVal.int IntKind.i64 k), ((12 : Nat), AVal.own (0 : Nat) (0 : Nat) zs.length (0 : Nat) (1 : Nat)), ((14 : Nat), AVal.flt FloatKind.f32 (fmax.sv FloatKind.f32 (fmax.sv FloatKind.f32 g (fsub FloatKind.f32 (gn zs (↑i : Int).toNat) (gn ys (↑i : Int).toNat))) (Op.negFloat FloatKind.f32 (fsub FloatKind.f32 (gn zs (↑i : Int).toNat) (gn ys (↑i : Int).toNat))))), ((31 : Nat), AVal.int IntKind.i64 c), ((32 : Nat), AVal.int IntKind.i64 k), ((43 : Nat), AVal.own (0 : Nat) (0 : Nat) zs.length (0 : Nat) (1 : Nat)), ((44 : Nat), AVal.int IntKind.i64 (↑zs.length : Int)), ((45 : Nat), AVal.int IntKind.i64 (IntKind.i64.wrap ((↑i : Int) + (1 : Int))))] [{ c := BC.typ (Cont.flts FloatKind.f32 zs), ver := (0 : Nat) }]) else none else none else none else none else none else bif FloatKind.f32.format.order g e == some Ordering.lt || FloatKind.f32.format.order g e == some Ordering.eq then some (AVal.tup [AVal.own (0 : Nat) (0 : Nat) zs.length (0 : Nat) (1 : Nat), AVal.int IntKind.i64 (IntKind.i64.wrap (k + (1 : Int))), AVal.bool true], [{ c := BC.typ (Cont.flts FloatKind.f32 zs), ver := (0 : Nat) }]) else L1 f n (mkS (70 : Nat) [((0 : Nat), AVal.ro (Cont.flts FloatKind.f32 zs) zs.length (1 : Nat)), ((1 : Nat), AVal.flt FloatKind.f32 b), ((2 : Nat), AVal.flt FloatKind.f32 e), ((8 : Nat), AVal.nils), ((9 : Nat), AVal.int IntKind.i64 (0 : Int)), ((10 : Nat), AVal.bool false), ((31 : Nat), AVal.int IntKind.i64 c), ((32 : Nat), AVal.int IntKind.i64 (IntKind.i64.wrap (k + (1 : Int))))] [])) := by kernel_rfl
theorem inner (ys zs : List Nat) (b e f n : Nat) (c k : Int) (hl : zs.length = ys.length) (hy : ys.length ≤ 64) (hyf : ∀ x ∈ ys, fl.fin .f32 x) (hzf : ∀ x ∈ zs, fl.fin .f32 x) : ∀ (d i n2 g : Nat), i + d = ys.length → d < n2 → fl.nn g →
    L2 f n n2 (mkS 70 [(0, .ro (.flts .f32 ys) ys.length 1), (1, .flt .f32 b), (2, .flt .f32 e), (8, .nils), (9, .int .i64 0), (10, .bool false), (11, .int .i64 k), (12, .own 0 0 zs.length 0 1), (14, .flt .f32 g), (31, .int .i64 c), (32, .int .i64 k), (43, .own 0 0 zs.length 0 1), (44, .int .i64 (zs.length : Int)), (45, .int .i64 ((i : Nat) : Int))] [⟨.typ (.flts .f32 zs), 0⟩]) = bif ag.le.sp (ag.farI.sv (zs.drop i) (ys.drop i) g) e then some (.tup [.own 0 0 zs.length 0 1, .int .i64 (IntKind.i64.wrap (k + 1)), .bool true], [⟨.typ (.flts .f32 zs), 0⟩]) else L1 f n (mkS 70 [(0, .ro (.flts .f32 zs) (zs).length 1), (1, .flt .f32 b), (2, .flt .f32 e), (8, .nils), (9, .int .i64 0), (10, .bool false), (31, .int .i64 c), (32, .int .i64 (IntKind.i64.wrap (k + 1)))] []) := by
  intro d
  induction d with
  | zero =>
    intro i n2 g hi hn hg
    obtain ⟨n2, rfl⟩ : ∃ k, n2 = k + 1 := ⟨n2 - 1, by omega⟩
    have e1 : zs.drop i = [] := List.drop_of_length_le (by omega)
    have e2 : ys.drop i = [] := List.drop_of_length_le (by omega)
    have c1 : ¬ ((i : Int) < (ys.length : Int)) := by omega
    have c2 : ¬ ((i : Int) < (zs.length : Int)) := by omega
    rw [e1, e2, round2]
    unfold ag.le.sp
    simp -implicitDefEqProofs only [c1, c2, ag.farI.sv, decide_true, decide_false, Bool.and_self, Bool.or_self, Bool.and_true, Bool.true_and, Bool.and_false, Bool.false_and, Bool.or_true, Bool.true_or, Bool.or_false, Bool.false_or, Bool.not_true, Bool.not_false, cond_true, cond_false]
  | succ d ih =>
    intro i n2 g hi hn hg
    obtain ⟨n2, rfl⟩ : ∃ k, n2 = k + 1 := ⟨n2 - 1, by omega⟩
    have h1 : i < ys.length := by omega
    have h2 : i < zs.length := by omega
    have h4 : (0 : Int) ≤ (i : Int) := Int.natCast_nonneg _
    have h5 : (i : Int) < (ys.length : Int) := by omega
    have h6 : (i : Int) < (zs.length : Int) := by omega
    have wi : IntKind.i64.wrap ((i : Int) + 1) = ((i + 1 : Nat) : Int) := wrap_nat i (by omega)
    rw [List.drop_eq_getElem_cons h1, List.drop_eq_getElem_cons h2]
    simp only [ag.farI.sv]
    obtain ⟨m1, m2, _⟩ := ag.mx_xv hg (fl.sub_nn (hzf _ (List.getElem_mem h2)) (hyf _ (List.getElem_mem h1)))
    have em : fmax.sv .f32 (fmax.sv .f32 g (fsub .f32 zs[i] ys[i])) (Op.negFloat .f32 (fsub .f32 zs[i] ys[i])) = ag.mx.sv g (fsub .f32 zs[i] ys[i]) := rfl
    rw [Bool.and_eq_true] at m1
    have hih := ih (i + 1) n2 (ag.mx.sv g (fsub .f32 zs[i] ys[i])) (by omega) (by omega) m2
    rw [round2]
    simp -implicitDefEqProofs only [h1, h2, h4, h5, h6, wi, gn_eq h1, gn_eq h2, m1.1, m1.2, em,  Int.toNat_natCast, decide_true, decide_false, Bool.and_self, Bool.or_self, Bool.and_true, Bool.true_and, Bool.and_false, Bool.false_and, Bool.or_true, Bool.true_or, Bool.or_false, Bool.false_or, Bool.not_true, Bool.not_false, cond_true, cond_false]
    exact hih
theorem outer (b e f c : Nat) (o : List Nat) (m : Int) (hc : c ≤ 256) (hf : 64 < f) (hb : flo.fin.sp b = true) (he : fl.nn e) : ∀ (d k n : Nat) (ys : List Nat), k + d = c → d < n → ag.t.sp ys = true → ag.rs.sv b e d ys ((k : Int) + 1) = some (o, m) →
    L1 f n (mkS 70 [(0, .ro (.flts .f32 ys) ys.length 1), (1, .flt .f32 b), (2, .flt .f32 e), (8, .nils), (9, .int .i64 0), (10, .bool false), (31, .int .i64 ((c : Nat) : Int)), (32, .int .i64 ((k : Nat) : Int))] []) = some (.tup [.own 0 0 o.length 0 1, .int .i64 m, .bool true], [⟨.typ (.flts .f32 o), 0⟩]) := by
  intro d
  induction d with
  | zero => intro k n ys hk hn ht hr; cases hr
  | succ d ih =>
    intro k n ys hk hn ht hr
    obtain ⟨n, rfl⟩ : ∃ k, n = k + 1 := ⟨n - 1, by omega⟩
    simp only [ag.rs.sv] at hr
    have ht2 := ht
    simp only [ag.t.sp, Bool.and_eq_true, decide_eq_true_eq, Bool.not_eq_true'] at ht2
    have hlen := ag.o_length ys b
    have c0 : ys.length ≤ 4611686018427387904 := by omega
    have c0' : (ag.o.sv ys b).length ≤ 4611686018427387904 := by omega
    have wk : IntKind.i64.wrap ((k : Int) + 1) = ((k + 1 : Nat) : Int) := wrap_nat k (by omega)
    have en : ∀ l : List Nat, l.take l.length = l := fun l => List.take_length
    have c1 : (k : Int) < (c : Int) := by omega
    cases h1 : (ag.o.sv ys b).any areFinite_1.sp
    case true => rw [h1, cond_true] at hr; cases hr
    have hsp : ag.sp ys b = true := by unfold ag.sp; rw [ht, hb, h1]; rfl
    rw [h1, cond_false] at hr
    have hin := inner ys (ag.o.sv ys b) b e f n (c : Int) (k : Int) hlen (by omega) (fun x hx => ag.fin_of ht2.2 hx) (fun x hx => ag.fin_of h1 hx) ys.length 0 f 0 (by omega) (by omega) ag.zero_nn.1
    rw [List.drop_zero, List.drop_zero, ag.near_eq ht2.2 h1 he, wk] at hin
    cases h2 : ag.le.sp (ag.far.sv (ag.o.sv ys b) ys 0) e
    · rw [h2, cond_false] at hr
      rw [h2, cond_false] at hin
      have hih := ih (k + 1) n (ag.o.sv ys b) (by omega) (by omega) (ag.t_next ht h1) hr
      rw [round1]
      simp -implicitDefEqProofs only [c0, c0', c1, hsp, List.take_length, Nat.le_refl, and_self, eq_self, decide_true, decide_false, Bool.and_self, Bool.or_self, Bool.and_true, Bool.true_and, Bool.and_false, Bool.false_and, Bool.or_true, Bool.true_or, Bool.or_false, Bool.false_or, Bool.not_true, Bool.not_false, cond_true, cond_false]
      exact hin.trans hih
    · rw [h2, cond_true] at hr
      rw [h2, cond_true] at hin
      simp only [Option.some.injEq, Prod.mk.injEq] at hr
      obtain ⟨rfl, rfl⟩ := hr
      rw [round1]
      simp -implicitDefEqProofs only [c0, c0', c1, hsp, List.take_length, Nat.le_refl, and_self, eq_self, decide_true, decide_false, Bool.and_self, Bool.or_self, Bool.and_true, Bool.true_and, Bool.and_false, Bool.false_and, Bool.or_true, Bool.true_or, Bool.or_false, Bool.false_or, Bool.not_true, Bool.not_false, cond_true, cond_false]
      exact hin
theorem run : ∀ args v new, R args = some (true, v, new) → ∃ fuel, runFn Try.prog (orc [⟨50, iIsFinite.R⟩, ⟨40, within.R⟩, ⟨32, iAgreeOnce.Rt⟩]) hd Dr.std none fuel (bodyOf Try.f33) 70 [8, 9, 10] args [] = some (v, new) := by
  intro args v new h
  unfold R at h
  split at h
  · rename_i xs m b e c
    simp only [Option.some.injEq, Prod.mk.injEq, Bool.and_eq_true, decide_eq_true_eq, Bool.not_eq_true'] at h
    obtain ⟨⟨⟨rfl, h3⟩, hs⟩, rfl, rfl⟩ := h
    simp only [ag.rsp.sp, Bool.and_eq_true, decide_eq_true_eq] at hs
    obtain ⟨b1, b2, b3, ⟨b4, b5⟩, b6⟩ := hs
    obtain ⟨⟨o, m⟩, hr⟩ := Option.isSome_iff_exists.1 b6
    have eo : ag.ro.sv xs b e c = o := by unfold ag.ro.sv; rw [hr]; rfl
    have em : ag.rn.sv xs b e c = m := by unfold ag.rn.sv; rw [hr]; rfl
    obtain ⟨c, rfl⟩ : ∃ k : Nat, c = k := ⟨c.toNat, by omega⟩
    rw [Int.toNat_natCast] at hr
    obtain ⟨F, hF⟩ : ∃ F : Nat, F = 1000 := ⟨1000, rfl⟩
    refine ⟨F, ?_⟩
    have el : flo.least.sp e = (flo.fin.sp e && (FloatKind.f32.format.order e 0 == some Ordering.gt || FloatKind.f32.format.order e 0 == some Ordering.eq)) := rfl
    have b3' := b3
    rw [el, Bool.and_eq_true] at b3'
    have ho := outer b e F c o m (by omega) (by omega) b2 (fl.fin_nn (fl.fin_flo b3'.1)) c 0 F xs (by omega) (by omega) b1 hr
    rw [start, eo, em]
    simp -implicitDefEqProofs only [h3, b3'.1, b3'.2, b4, b5, and_self, eq_self, decide_true, decide_false, Bool.and_self, Bool.or_self, Bool.and_true, Bool.true_and, Bool.and_false, Bool.false_and, Bool.or_true, Bool.true_or, Bool.or_false, Bool.false_or, Bool.not_true, Bool.not_false, cond_true, cond_false]
    exact ho
  · cases h
theorem ok : EntOk Try.prog ⟨33, R⟩ :=
  ent_okA mixed (A := (orc [⟨50, iIsFinite.R⟩, ⟨40, within.R⟩, ⟨32, iAgreeOnce.Rt⟩])) (orc_ok (by simp only [List.mem_cons, List.not_mem_nil, or_false, forall_eq_or_imp, forall_eq]; exact ⟨iIsFinite.ok, within.ok, iAgreeOnce.okt⟩)) Try.func33 (by kernel_rfl) (by kernel_rfl) (n := 70) (ts := [8, 9, 10]) (hd := hd) (dr := Dr.std) (cut := none) (by kernel_rfl) (by kernel_rfl) (by kernel_rfl) run
end iAgreeRounds_t

namespace iAgreeRounds_f
def R : List AVal → Option (Bool × AVal × List Blk)
  | [.ro (.flts .f32 xs) m 1, .flt .f32 b, .flt .f32 e, .int .i64 c] => some (decide (m = xs.length ∧ m ≤ 4611686018427387904) && !ag.rsp.sp xs b e c, .tup [.nils, .int .i64 0, .bool false], [])
  | _ => none
def hd : Nat → Head := fun i => bif eqN i 2 then ⟨[0, 1, 2, 8, 9, 10, 11, 12, 14, 31, 32, 43, 44, 45], some 1⟩ else ⟨[999, 0, 1, 2, 8, 9, 10, 31, 32], some 0⟩
noncomputable def L1 (f n : Nat) (s : State) := loopAt Try.prog (orc [⟨50, iIsFinite.R⟩, ⟨40, within.R⟩, ⟨32, jAgreeOnce.R⟩]) hd Dr.std 0 f (bodyOf Try.f33) 0 [true, true, false, true] (retK Try.prog [8, 9, 10] 0 none) n s
noncomputable def L2 (f n n2 : Nat) (s : State) := loopAt Try.prog (orc [⟨50, iIsFinite.R⟩, ⟨40, within.R⟩, ⟨32, jAgreeOnce.R⟩]) hd Dr.std 0 f (bodyAt (bodyOf Try.f33) [true, true, false, true]) (curAt (bodyOf Try.f33) 0 [true, true, false, true]) [true, true, false, true, true, true, true, false, true] (iterK (normE 0 (hd (curAt (bodyOf Try.f33) 0 [true, true, false, true]))) (L1 f n) (contAt Try.prog (orc [⟨50, iIsFinite.R⟩, ⟨40, within.R⟩, ⟨32, jAgreeOnce.R⟩]) hd Dr.std 0 f (bodyOf Try.f33) 0 [true, true, false, true] (retK Try.prog [8, 9, 10] 0 none))) n2 s
theorem start (xs : List Nat) (b e : Nat) (c : Int) (f : Nat) :
  runFn Try.prog (orc [⟨50, iIsFinite.R⟩, ⟨40, within.R⟩, ⟨32, jAgreeOnce.R⟩]) hd Dr.std none f (bodyOf Try.f33) 70 [8, 9, 10] [.ro (.flts .f32 xs) xs.length 1, .flt .f32 b, .flt .f32 e, .int .i64 c] []
  = (bif true && (true && true || true && true) then bif !flo.fin.sp e then some (AVal.tup [AVal.nils, AVal.int IntKind.i64 (0 : Int), AVal.bool false], []) else bif !(FloatKind.f32.format.order e (0 : Nat) == some Ordering.gt || FloatKind.f32.format.order e (0 : Nat) == some Ordering.eq) then some (AVal.tup [AVal.nils, AVal.int IntKind.i64 (0 : Int), AVal.bool false], []) else bif true && (true && true || true && true) then bif !(decide ((1 : Int) ≤ c) && decide (c ≤ (256 : Int))) then some (AVal.tup [AVal.nils, AVal.int IntKind.i64 (0 : Int), AVal.bool false], []) else L1 f f (mkS (70 : Nat) [((0 : Nat), AVal.ro (Cont.flts FloatKind.f32 xs) xs.length (1 : Nat)), ((1 : Nat), AVal.flt FloatKind.f32 b), ((2 : Nat), AVal.flt FloatKind.f32 e), ((8 : Nat), AVal.nils), ((9 : Nat), AVal.int IntKind.i64 (0 : Int)), ((10 : Nat), AVal.bool false), ((31 : Nat), AVal.int IntKind.i64 c), ((32 : Nat), AVal.int IntKind.i64 (0 : Int))] []) else none else none) := by kernel_rfl
theorem round1 (ys : List Nat) (b e : Nat) (c k : Int) (f n : Nat) :
  L1 f (n + 1) (mkS 70 [(0, .ro (.flts .f32 ys) ys.length 1), (1, .flt .f32 b), (2, .flt .f32 e), (8, .nils), (9, .int .i64 0), (10, .bool false), (31, .int .i64 c), (32, .int .i64 k)] [])
  = (bif decide (k < c) then bif decide (ys.length = ys.length ∧ ys.length ≤ (4611686018427387904 : Nat)) && (true && (true && true) || false && (true && true) && true) then bif !ag.sp ys b then some (AVal.tup [AVal.nils, AVal.int IntKind.i64 (0 : Int), AVal.bool false], []) else L2 f n f (mkS (70 : Nat) [((0 : Nat), AVal.ro (Cont.flts FloatKind.f32 ys) ys.length (1 : Nat)), ((1 : Nat), AVal.flt FloatKind.f32 b), ((2 : Nat), AVal.flt FloatKind.f32 e), ((8 : Nat), AVal.nils), ((9 : Nat), AVal.int IntKind.i64 (0 : Int)), ((10 : Nat), AVal.bool false), ((11 : Nat), AVal.int IntKind.i64 k), ((12 : Nat), AVal.ro (Cont.flts FloatKind.f32 (jAgreeOnce.o.sv ys b)) (jAgreeOnce.o.sv ys b).length (1 : Nat)), ((14 : Nat), AVal.flt FloatKind.f32 (0 : Nat)), ((31 : Nat), AVal.int IntKind.i64 c), ((32 : Nat), AVal.int IntKind.i64 k), ((43 : Nat), AVal.ro (Cont.flts FloatKind.f32 (jAgreeOnce.o.sv ys b)) (jAgreeOnce.o.sv ys b).length (1 : Nat)), ((44 : Nat), AVal.int IntKind.i64 (↑(jAgreeOnce.o.sv ys b).length : Int)), ((45 : Nat), AVal.int IntKind.i64 (0 : Int))] []) else none else some (AVal.tup [AVal.nils, AVal.int IntKind.i64 (0 : Int), AVal.bool false], [])) := by kernel_rfl
theorem round2 (ys zs : List Nat) (b e g i : Nat) (c k : Int) (f n n2 : Nat) :
  L2 f n (n2 + 1) (mkS 70 [(0, .ro (.flts .f32 ys) ys.length 1), (1, .flt .f32 b), (2, .flt .f32 e), (8, .nils), (9, .int .i64 0), (10, .bool false), (11, .int .i64 k), (12, .ro (.flts .f32 zs) zs.length 1), (14, .flt .f32 g), (31, .int .i64 c), (32, .int .i64 k), (43, .ro (.flts .f32 zs) zs.length 1), (44, .int .i64 (zs.length : Int)), (45, .int .i64 (i : Int))] [])
  = (bif decide ((↑i : Int) < (↑zs.length : Int)) then bif true && (decide ((0 : Int) ≤ (↑i : Int)) && decide ((↑i : Int) < (↑zs.length : Int))) then bif decide ((↑i : Int).toNat < zs.length) then bif true && (decide ((0 : Int) ≤ (↑i : Int)) && decide ((↑i : Int) < (↑ys.length : Int))) then bif decide ((↑i : Int).toNat < ys.length) then bif true && ord.sp FloatKind.f32 g (fsub FloatKind.f32 (gn zs (↑i : Int).toNat) (gn ys (↑i : Int).toNat)) && ord.sp FloatKind.f32 (fmax.sv FloatKind.f32 g (fsub FloatKind.f32 (gn zs (↑i : Int).toNat) (gn ys (↑i : Int).toNat))) (Op.negFloat FloatKind.f32 (fsub FloatKind.f32 (gn zs (↑i : Int).toNat) (gn ys (↑i : Int).toNat))) then L2 f n n2 (mkS (70 : Nat) [((0 : Nat), AVal.ro (Cont.flts FloatKind.f32 ys) ys.length (1 : Nat)), ((1 : Nat), AVal.flt FloatKind.f32 b), ((2 : Nat), AVal.flt FloatKind.f32 e), ((8 : Nat), AVal.nils), ((9 : Nat), AVal.int IntKind.i64 (0 : Int)), ((10 : Nat), AVal.bool false), ((11 : Nat), AVal.int IntKind.i64 k), ((12 : Nat), AVal.ro (Cont.flts FloatKind.f32 zs) zs.length (1 : Nat)), ((14 : Nat), AVal.flt FloatKind.f32 (fmax.sv FloatKind.f32 (fmax.sv FloatKind.f32 g (fsub FloatKind.f32 (gn zs (↑i : Int).toNat) (gn ys (↑i : Int).toNat))) (Op.negFloat FloatKind.f32 (fsub FloatKind.f32 (gn zs (↑i : Int).toNat) (gn ys (↑i : Int).toNat))))), ((31 : Nat), AVal.int IntKind.i64 c), ((32 : Nat), AVal.int IntKind.i64 k), ((43 : Nat), AVal.ro (Cont.flts FloatKind.f32 zs) zs.length (1 : Nat)), ((44 : Nat), AVal.int IntKind.i64 (↑zs.length : Int)), ((45 : Nat), AVal.int IntKind.i64 (IntKind.i64.wrap ((↑i : Int) + (1 : Int))))] []) else none else none else none else none else none else bif FloatKind.f32.format.order g e == some Ordering.lt || FloatKind.f32.format.order g e == some Ordering.eq then some (AVal.tup [AVal.ro (Cont.flts FloatKind.f32 zs) zs.length (1 : Nat), AVal.int IntKind.i64 (IntKind.i64.wrap (k + (1 : Int))), AVal.bool true], []) else L1 f n (mkS (70 : Nat) [((0 : Nat), AVal.ro (Cont.flts FloatKind.f32 zs) zs.length (1 : Nat)), ((1 : Nat), AVal.flt FloatKind.f32 b), ((2 : Nat), AVal.flt FloatKind.f32 e), ((8 : Nat), AVal.nils), ((9 : Nat), AVal.int IntKind.i64 (0 : Int)), ((10 : Nat), AVal.bool false), ((31 : Nat), AVal.int IntKind.i64 c), ((32 : Nat), AVal.int IntKind.i64 (IntKind.i64.wrap (k + (1 : Int))))] [])) := by kernel_rfl
theorem inner (ys zs : List Nat) (b e f n : Nat) (c k : Int) (hl : zs.length = ys.length) (hy : ys.length ≤ 64) (hyf : ∀ x ∈ ys, fl.fin .f32 x) (hzf : ∀ x ∈ zs, fl.fin .f32 x) : ∀ (d i n2 g : Nat), i + d = ys.length → d < n2 → fl.nn g →
    L2 f n n2 (mkS 70 [(0, .ro (.flts .f32 ys) ys.length 1), (1, .flt .f32 b), (2, .flt .f32 e), (8, .nils), (9, .int .i64 0), (10, .bool false), (11, .int .i64 k), (12, .ro (.flts .f32 zs) zs.length 1), (14, .flt .f32 g), (31, .int .i64 c), (32, .int .i64 k), (43, .ro (.flts .f32 zs) zs.length 1), (44, .int .i64 (zs.length : Int)), (45, .int .i64 ((i : Nat) : Int))] []) = bif ag.le.sp (ag.farI.sv (zs.drop i) (ys.drop i) g) e then some (.tup [.ro (.flts .f32 zs) zs.length 1, .int .i64 (IntKind.i64.wrap (k + 1)), .bool true], []) else L1 f n (mkS 70 [(0, .ro (.flts .f32 zs) (zs).length 1), (1, .flt .f32 b), (2, .flt .f32 e), (8, .nils), (9, .int .i64 0), (10, .bool false), (31, .int .i64 c), (32, .int .i64 (IntKind.i64.wrap (k + 1)))] []) := by
  intro d
  induction d with
  | zero =>
    intro i n2 g hi hn hg
    obtain ⟨n2, rfl⟩ : ∃ k, n2 = k + 1 := ⟨n2 - 1, by omega⟩
    have e1 : zs.drop i = [] := List.drop_of_length_le (by omega)
    have e2 : ys.drop i = [] := List.drop_of_length_le (by omega)
    have c1 : ¬ ((i : Int) < (ys.length : Int)) := by omega
    have c2 : ¬ ((i : Int) < (zs.length : Int)) := by omega
    rw [e1, e2, round2]
    unfold ag.le.sp
    simp -implicitDefEqProofs only [c1, c2, ag.farI.sv, decide_true, decide_false, Bool.and_self, Bool.or_self, Bool.and_true, Bool.true_and, Bool.and_false, Bool.false_and, Bool.or_true, Bool.true_or, Bool.or_false, Bool.false_or, Bool.not_true, Bool.not_false, cond_true, cond_false]
  | succ d ih =>
    intro i n2 g hi hn hg
    obtain ⟨n2, rfl⟩ : ∃ k, n2 = k + 1 := ⟨n2 - 1, by omega⟩
    have h1 : i < ys.length := by omega
    have h2 : i < zs.length := by omega
    have h4 : (0 : Int) ≤ (i : Int) := Int.natCast_nonneg _
    have h5 : (i : Int) < (ys.length : Int) := by omega
    have h6 : (i : Int) < (zs.length : Int) := by omega
    have wi : IntKind.i64.wrap ((i : Int) + 1) = ((i + 1 : Nat) : Int) := wrap_nat i (by omega)
    rw [List.drop_eq_getElem_cons h1, List.drop_eq_getElem_cons h2]
    simp only [ag.farI.sv]
    obtain ⟨m1, m2, _⟩ := ag.mx_xv hg (fl.sub_nn (hzf _ (List.getElem_mem h2)) (hyf _ (List.getElem_mem h1)))
    have em : fmax.sv .f32 (fmax.sv .f32 g (fsub .f32 zs[i] ys[i])) (Op.negFloat .f32 (fsub .f32 zs[i] ys[i])) = ag.mx.sv g (fsub .f32 zs[i] ys[i]) := rfl
    rw [Bool.and_eq_true] at m1
    have hih := ih (i + 1) n2 (ag.mx.sv g (fsub .f32 zs[i] ys[i])) (by omega) (by omega) m2
    rw [round2]
    simp -implicitDefEqProofs only [h1, h2, h4, h5, h6, wi, gn_eq h1, gn_eq h2, m1.1, m1.2, em,  Int.toNat_natCast, decide_true, decide_false, Bool.and_self, Bool.or_self, Bool.and_true, Bool.true_and, Bool.and_false, Bool.false_and, Bool.or_true, Bool.true_or, Bool.or_false, Bool.false_or, Bool.not_true, Bool.not_false, cond_true, cond_false]
    exact hih
theorem outer (b e f c : Nat) (hc : c ≤ 256) (hf : 64 < f) (hb : flo.fin.sp b = true) (he : fl.nn e) : ∀ (d k n : Nat) (ys : List Nat), k + d = c → d < n → ag.t.sp ys = true → ag.rs.sv b e d ys ((k : Int) + 1) = none →
    ∃ H, L1 f n (mkS 70 [(0, .ro (.flts .f32 ys) ys.length 1), (1, .flt .f32 b), (2, .flt .f32 e), (8, .nils), (9, .int .i64 0), (10, .bool false), (31, .int .i64 ((c : Nat) : Int)), (32, .int .i64 ((k : Nat) : Int))] []) = some (.tup [.nils, .int .i64 0, .bool false], H) := by
  intro d
  induction d with
  | zero => 
    intro k n ys hk hn ht hr
    obtain ⟨n, rfl⟩ : ∃ k, n = k + 1 := ⟨n - 1, by omega⟩
    have c1 : ¬ ((k : Int) < (c : Int)) := by omega
    refine ⟨[], ?_⟩
    rw [round1]
    simp -implicitDefEqProofs only [c1, decide_true, decide_false, Bool.and_self, Bool.or_self, Bool.and_true, Bool.true_and, Bool.and_false, Bool.false_and, Bool.or_true, Bool.true_or, Bool.or_false, Bool.false_or, Bool.not_true, Bool.not_false, cond_true, cond_false]
  | succ d ih =>
    intro k n ys hk hn ht hr
    obtain ⟨n, rfl⟩ : ∃ k, n = k + 1 := ⟨n - 1, by omega⟩
    simp only [ag.rs.sv] at hr
    have ht2 := ht
    simp only [ag.t.sp, Bool.and_eq_true, decide_eq_true_eq, Bool.not_eq_true'] at ht2
    have hlen := ag.o_length ys b
    have c0 : ys.length ≤ 4611686018427387904 := by omega
    have c0' : (ag.o.sv ys b).length ≤ 4611686018427387904 := by omega
    have wk : IntKind.i64.wrap ((k : Int) + 1) = ((k + 1 : Nat) : Int) := wrap_nat k (by omega)
    have en : ∀ l : List Nat, l.take l.length = l := fun l => List.take_length
    have c1 : (k : Int) < (c : Int) := by omega
    cases h1 : (ag.o.sv ys b).any areFinite_1.sp
    case true => 
      have hsp : ag.sp ys b = false := by unfold ag.sp; rw [h1, Bool.not_true, Bool.and_false]
      refine ⟨[], ?_⟩
      rw [round1]
      simp -implicitDefEqProofs only [c0, c1, hsp, Nat.le_refl, and_self, eq_self, decide_true, decide_false, Bool.and_self, Bool.or_self, Bool.and_true, Bool.true_and, Bool.and_false, Bool.false_and, Bool.or_true, Bool.true_or, Bool.or_false, Bool.false_or, Bool.not_true, Bool.not_false, cond_true, cond_false]
    have hsp : ag.sp ys b = true := by unfold ag.sp; rw [ht, hb, h1]; rfl
    rw [h1, cond_false] at hr
    have hin := inner ys (ag.o.sv ys b) b e f n (c : Int) (k : Int) hlen (by omega) (fun x hx => ag.fin_of ht2.2 hx) (fun x hx => ag.fin_of h1 hx) ys.length 0 f 0 (by omega) (by omega) ag.zero_nn.1
    rw [List.drop_zero, List.drop_zero, ag.near_eq ht2.2 h1 he, wk] at hin
    cases h2 : ag.le.sp (ag.far.sv (ag.o.sv ys b) ys 0) e
    · rw [h2, cond_false] at hr
      rw [h2, cond_false] at hin
      have ej : jAgreeOnce.o.sv ys b = ag.o.sv ys b := by unfold jAgreeOnce.o.sv; rw [hsp]; rfl
      obtain ⟨H, hih⟩ := ih (k + 1) n (ag.o.sv ys b) (by omega) (by omega) (ag.t_next ht h1) hr
      refine ⟨H, ?_⟩
      rw [round1]
      simp -implicitDefEqProofs only [c0, c0', c1, hsp, ej, List.take_length, Nat.le_refl, and_self, eq_self, decide_true, decide_false, Bool.and_self, Bool.or_self, Bool.and_true, Bool.true_and, Bool.and_false, Bool.false_and, Bool.or_true, Bool.true_or, Bool.or_false, Bool.false_or, Bool.not_true, Bool.not_false, cond_true, cond_false]
      exact hin.trans hih
    · rw [h2, cond_true] at hr
      rw [h2, cond_true] at hin
      cases hr
theorem run : ∀ args v new, R args = some (true, v, new) → ∃ fuel, regc [] (runFn Try.prog (orc [⟨50, iIsFinite.R⟩, ⟨40, within.R⟩, ⟨32, jAgreeOnce.R⟩]) hd Dr.std none fuel (bodyOf Try.f33) 70 [8, 9, 10] args []) = some (v, new) := by
  intro args v new h
  unfold R at h
  split at h
  · rename_i xs m b e c
    simp only [Option.some.injEq, Prod.mk.injEq, Bool.and_eq_true, decide_eq_true_eq, Bool.not_eq_true'] at h
    obtain ⟨⟨⟨rfl, h3⟩, hs⟩, rfl, rfl⟩ := h
    have el : flo.least.sp e = (flo.fin.sp e && (FloatKind.f32.format.order e 0 == some Ordering.gt || FloatKind.f32.format.order e 0 == some Ordering.eq)) := rfl
    obtain ⟨F, hF⟩ : ∃ F : Nat, F = 1000 := ⟨1000, rfl⟩
    refine ⟨F, ?_⟩
    rw [start]
    cases b3 : flo.fin.sp e
    · simp -implicitDefEqProofs only [b3, decide_true, decide_false, Bool.and_self, Bool.or_self, Bool.and_true, Bool.true_and, Bool.and_false, Bool.false_and, Bool.or_true, Bool.true_or, Bool.or_false, Bool.false_or, Bool.not_true, Bool.not_false, cond_true, cond_false]
      try rfl
    cases b3' : (FloatKind.f32.format.order e 0 == some Ordering.gt || FloatKind.f32.format.order e 0 == some Ordering.eq)
    · simp -implicitDefEqProofs only [b3, b3', decide_true, decide_false, Bool.and_self, Bool.or_self, Bool.and_true, Bool.true_and, Bool.and_false, Bool.false_and, Bool.or_true, Bool.true_or, Bool.or_false, Bool.false_or, Bool.not_true, Bool.not_false, cond_true, cond_false]
      try rfl
    cases b4 : (decide (1 ≤ c) && decide (c ≤ 256))
    · simp -implicitDefEqProofs only [b3, b3', b4, decide_true, decide_false, Bool.and_self, Bool.or_self, Bool.and_true, Bool.true_and, Bool.and_false, Bool.false_and, Bool.or_true, Bool.true_or, Bool.or_false, Bool.false_or, Bool.not_true, Bool.not_false, cond_true, cond_false]
      try rfl
    have b5 := b4
    simp only [Bool.and_eq_true, decide_eq_true_eq] at b5
    obtain ⟨c, rfl⟩ : ∃ k : Nat, c = k := ⟨c.toNat, by omega⟩
    cases b1 : (ag.t.sp xs && flo.fin.sp b)
    · obtain ⟨G, rfl⟩ : ∃ G, F = G + 1 := ⟨F - 1, by omega⟩
      have hsp : ag.sp xs b = false := by unfold ag.sp; rw [b1]; rfl
      have c1 : (0 : Int) < (c : Int) := by omega
      simp -implicitDefEqProofs only [b3, b3', b4, decide_true, decide_false, Bool.and_self, Bool.or_self, Bool.and_true, Bool.true_and, Bool.and_false, Bool.false_and, Bool.or_true, Bool.true_or, Bool.or_false, Bool.false_or, Bool.not_true, Bool.not_false, cond_true, cond_false]
      rw [round1]
      simp -implicitDefEqProofs only [h3, c1, hsp, and_self, eq_self, decide_true, decide_false, Bool.and_self, Bool.or_self, Bool.and_true, Bool.true_and, Bool.and_false, Bool.false_and, Bool.or_true, Bool.true_or, Bool.or_false, Bool.false_or, Bool.not_true, Bool.not_false, cond_true, cond_false]
      try rfl
    simp only [Bool.and_eq_true] at b1
    simp only [ag.rsp.sp, el, b1.1, b1.2, b3, b3', b4, Bool.and_self, Bool.true_and, Option.isSome_eq_false_iff, Option.isNone_iff_eq_none] at hs
    rw [Int.toNat_natCast] at hs
    obtain ⟨H, ho⟩ := outer b e F c (by omega) (by omega) b1.2 (fl.fin_nn (fl.fin_flo b3)) c 0 F xs (by omega) (by omega) b1.1 hs
    simp -implicitDefEqProofs only [b3, b3', b4, decide_true, decide_false, Bool.and_self, Bool.or_self, Bool.and_true, Bool.true_and, Bool.and_false, Bool.false_and, Bool.or_true, Bool.true_or, Bool.or_false, Bool.false_or, Bool.not_true, Bool.not_false, cond_true, cond_false]
    exact (congrArg (regc []) ho).trans rfl
  · cases h
theorem ok : EntOk Try.prog ⟨33, R⟩ :=
  ent_okAG (ks := []) mixed (A := (orc [⟨50, iIsFinite.R⟩, ⟨40, within.R⟩, ⟨32, jAgreeOnce.R⟩])) (orc_ok (by simp only [List.mem_cons, List.not_mem_nil, or_false, forall_eq_or_imp, forall_eq]; exact ⟨iIsFinite.ok, within.ok, jAgreeOnce.ok⟩)) Try.func33 (by kernel_rfl) (by kernel_rfl) (n := 70) (ts := [8, 9, 10]) (hd := hd) (dr := Dr.std) (cut := none) (by kernel_rfl) (by kernel_rfl) (by kernel_rfl) run
end iAgreeRounds_f

namespace iAgreeRounds
def Rt := iAgreeRounds_t.R
def Rf := iAgreeRounds_f.R
theorem okt : EntOk Try.prog ⟨33, Rt⟩ := iAgreeRounds_t.ok
theorem okf : EntOk Try.prog ⟨33, Rf⟩ := iAgreeRounds_f.ok
end iAgreeRounds

theorem ag.ro_len {xs : List Nat} {b e : Nat} {c : Int} (h : ag.rsp.sp xs b e c = true) : (ag.ro.sv xs b e c).length = xs.length := by
  simp only [ag.rsp.sp, Bool.and_eq_true] at h
  obtain ⟨⟨o, m⟩, hr⟩ := Option.isSome_iff_exists.1 h.2.2.2.2
  unfold ag.ro.sv
  rw [hr]
  exact ag.rs_length b e _ _ _ _ _ hr




end Go.Proofs.Ytgblgofmdhekiaa.Ab
