/-
  Functions: what flows cost.
-/
import Derived.Test.YtgblgofmdhekiaaFnL
namespace Go.Proofs.Ytgblgofmdhekiaa.Ab
open Go
set_option linter.unusedVariables false
set_option linter.unusedSimpArgs false
set_option maxRecDepth 100000

namespace flow
def step (s a b x : Nat) : Nat := fadd .f32 s (fmul .f32 x (fadd .f32 (fmul .f32 a x) b))
def cost : List Nat → List Nat → List Nat → Nat → Nat
  | a :: A, b :: B, x :: X, s => cost A B X (step s a b x)
  | _, _, _, s => s
def sp (az bs xs : List Nat) : Bool := (rdl.sp az bs && decide (xs.length = az.length)) && xs.all flo.least.sp
def sv (az bs xs : List Nat) : Nat := cost az bs xs 0
def sq (az bs xs : List Nat) : Bool := sp az bs xs && flo.fin.sp (sv az bs xs)
def sw (az bs xs : List Nat) : Nat := bif sq az bs xs then sv az bs xs else 0
theorem lines_len {az bs : List Nat} (h : rdl.sp az bs = true) : bs.length = az.length ∧ az.length ≤ 8 := by
  simp only [rdl.sp, Bool.and_eq_true, decide_eq_true_eq] at h
  exact ⟨h.1.2, h.1.1.2⟩
end flow


namespace iFlowCost
def R : List AVal → Option (Bool × AVal × List Blk)
  | [.ro (.flts .f32 az) m 1, .ro (.flts .f32 bs) k 1, .ro (.flts .f32 xs) l 1] => some (decide (m ≤ az.length ∧ m ≤ 4611686018427387904 ∧ k ≤ bs.length ∧ k ≤ 4611686018427387904 ∧ l ≤ xs.length ∧ l ≤ 4611686018427387904), .tup [.flt .f32 (flow.sw (az.take m) (bs.take k) (xs.take l)), .bool (flow.sq (az.take m) (bs.take k) (xs.take l))], [])
  | _ => none
def hd : Nat → Head := fun _ => ⟨[0, 1, 8, 27, 28, 29], none⟩
noncomputable def L (f n : Nat) (s : State) := loopAt Try.prog (orc [⟨59, areSlopes.R⟩, ⟨63, areNotLess.R⟩, ⟨50, iIsFinite.R⟩]) hd Dr.std 0 f (bodyOf Try.f25) 0 [true, true, true, false, true] (retK Try.prog [6, 7] 0 none) n s
theorem start (az bs xs : List Nat) (m k l : Nat) (f : Nat) :
  runFn Try.prog (orc [⟨59, areSlopes.R⟩, ⟨63, areNotLess.R⟩, ⟨50, iIsFinite.R⟩]) hd Dr.std none f (bodyOf Try.f25) 54 [6, 7] [.ro (.flts .f32 az) m 1, .ro (.flts .f32 bs) k 1, .ro (.flts .f32 xs) l 1] []
  = (bif decide (m ≤ az.length ∧ m ≤ (4611686018427387904 : Nat) ∧ k ≤ bs.length ∧ k ≤ (4611686018427387904 : Nat)) && (true && (true && true) || true && true) then bif !rdl.sp (List.take m az) (List.take k bs) then some (AVal.tup [AVal.flt FloatKind.f32 (0 : Nat), AVal.bool false], []) else bif (↑l : Int) != (↑m : Int) then some (AVal.tup [AVal.flt FloatKind.f32 (0 : Nat), AVal.bool false], []) else bif decide (l ≤ xs.length ∧ l ≤ (4611686018427387904 : Nat)) && (true && true || true && true) then bif !(List.take l xs).all flo.least.sp then some (AVal.tup [AVal.flt FloatKind.f32 (0 : Nat), AVal.bool false], []) else L f f (mkS (54 : Nat) [((0 : Nat), AVal.ro (Cont.flts FloatKind.f32 az) m (1 : Nat)), ((1 : Nat), AVal.ro (Cont.flts FloatKind.f32 bs) k (1 : Nat)), ((8 : Nat), AVal.flt FloatKind.f32 (0 : Nat)), ((27 : Nat), AVal.ro (Cont.flts FloatKind.f32 xs) l (1 : Nat)), ((28 : Nat), AVal.int IntKind.i64 (↑l : Int)), ((29 : Nat), AVal.int IntKind.i64 (0 : Int))] []) else none else none) := by kernel_rfl
theorem round (az bs xs : List Nat) (m k l : Nat) (s i : Nat) (f n : Nat) :
  L f (n + 1) (mkS 54 [(0, .ro (.flts .f32 az) m 1), (1, .ro (.flts .f32 bs) k 1), (8, .flt .f32 s), (27, .ro (.flts .f32 xs) l 1), (28, .int .i64 l), (29, .int .i64 i)] [])
  = (bif decide ((↑i : Int) < (↑l : Int)) then bif true && (decide ((0 : Int) ≤ (↑i : Int)) && decide ((↑i : Int) < (↑l : Int))) then bif decide ((↑i : Int).toNat < xs.length) then bif true && (decide ((0 : Int) ≤ (↑i : Int)) && decide ((↑i : Int) < (↑m : Int))) then bif decide ((↑i : Int).toNat < az.length) then bif true && (decide ((0 : Int) ≤ (↑i : Int)) && decide ((↑i : Int) < (↑k : Int))) then bif decide ((↑i : Int).toNat < bs.length) then L f n (mkS (54 : Nat) [((0 : Nat), AVal.ro (Cont.flts FloatKind.f32 az) m (1 : Nat)), ((1 : Nat), AVal.ro (Cont.flts FloatKind.f32 bs) k (1 : Nat)), ((8 : Nat), AVal.flt FloatKind.f32 (fadd FloatKind.f32 s (fmul FloatKind.f32 (gn xs (↑i : Int).toNat) (fadd FloatKind.f32 (fmul FloatKind.f32 (gn az (↑i : Int).toNat) (gn xs (↑i : Int).toNat)) (gn bs (↑i : Int).toNat))))), ((27 : Nat), AVal.ro (Cont.flts FloatKind.f32 xs) l (1 : Nat)), ((28 : Nat), AVal.int IntKind.i64 (↑l : Int)), ((29 : Nat), AVal.int IntKind.i64 (IntKind.i64.wrap ((↑i : Int) + (1 : Int))))] []) else none else none else none else none else none else none else bif true && (true && true || true && true) then bif !flo.fin.sp s then some (AVal.tup [AVal.flt FloatKind.f32 (0 : Nat), AVal.bool false], []) else some (AVal.tup [AVal.flt FloatKind.f32 s, AVal.bool true], []) else none) := by kernel_rfl
theorem loop (az bs xs : List Nat) (m : Nat) (f : Nat) (ha : m ≤ az.length) (hb : m ≤ bs.length) (hx : m ≤ xs.length) (hm : m ≤ 1048576) : ∀ (d i n : Nat) (s : Nat), i + d = m → d < n →
    L f n (mkS 54 [(0, .ro (.flts .f32 az) m 1), (1, .ro (.flts .f32 bs) m 1), (8, .flt .f32 s), (27, .ro (.flts .f32 xs) m 1), (28, .int .i64 m), (29, .int .i64 i)] []) = some (.tup [.flt .f32 (bif flo.fin.sp (flow.cost ((az.take m).drop i) ((bs.take m).drop i) ((xs.take m).drop i) s) then flow.cost ((az.take m).drop i) ((bs.take m).drop i) ((xs.take m).drop i) s else 0), .bool (flo.fin.sp (flow.cost ((az.take m).drop i) ((bs.take m).drop i) ((xs.take m).drop i) s))], []) := by
  intro d
  induction d with
  | zero =>
    intro i n s hi hn 
    obtain ⟨n, rfl⟩ : ∃ k, n = k + 1 := ⟨n - 1, by omega⟩
    obtain rfl : i = m := by omega
    rw [round]
    have e : (xs.take i).drop i = [] := by simp
    have e2 : (az.take i).drop i = [] := by simp
    rw [e, e2]
    simp only [flow.cost, Int.lt_irrefl, decide_false, cond_false, Bool.or_self, cond_true]
    cases flo.fin.sp s <;> rfl
  | succ d ih =>
    intro i n s hi hn 
    obtain ⟨n, rfl⟩ : ∃ k, n = k + 1 := ⟨n - 1, by omega⟩
    have h1 : i < m := by omega
    have h4 : (0 : Int) ≤ (i : Int) := Int.natCast_nonneg _
    have h5 : (i : Int) < (m : Int) := by omega
    have h2 : i < az.length := by omega
    have h3 : i < bs.length := by omega
    have h6 : i < xs.length := by omega
    rw [round]
    rw [drop_take_consN hx h1]
    have ea : (az.take m).drop i = az[i] :: (az.take m).drop (i + 1) := drop_take_consN ha h1
    have eb : (bs.take m).drop i = bs[i] :: (bs.take m).drop (i + 1) := drop_take_consN hb h1
    rw [ea, eb]
    simp only [flow.cost]
    have hr := ih (i + 1) n (flow.step s az[i] bs[i] xs[i]) (by omega) (by omega)
    simp only [flow.step] at hr ⊢
    simp only [h4, h5, h2, h3, h6, gn_eq h2, gn_eq h3, gn_eq h6, decide_true, Bool.and_self, Bool.or_self, Bool.and_true, Bool.true_and, cond_true, Int.toNat_natCast, wrap_nat i (by omega)]
    exact hr
theorem run : ∀ args v new, R args = some (true, v, new) → ∃ fuel, runFn Try.prog (orc [⟨59, areSlopes.R⟩, ⟨63, areNotLess.R⟩, ⟨50, iIsFinite.R⟩]) hd Dr.std none fuel (bodyOf Try.f25) 54 [6, 7] args [] = some (v, new) := by
  intro args v new h
  unfold R at h
  split at h
  · rename_i az m bs k xs l
    simp only [Option.some.injEq, Prod.mk.injEq, decide_eq_true_eq] at h
    obtain ⟨⟨h1, h2, h3, h4, h5, h6⟩, rfl, rfl⟩ := h
    have e1 : (az.take m).length = m := by simp; omega
    have e2 : (bs.take k).length = k := by simp; omega
    have e3 : (xs.take l).length = l := by simp; omega
    refine ⟨m + 1, ?_⟩
    rw [start]
    simp only [h1, h2, h3, h4, h5, h6, and_self, decide_true, Bool.and_self, Bool.or_self, Bool.and_true, Bool.or_true, cond_true]
    cases hl : rdl.sp (az.take m) (bs.take k)
    · simp [flow.sw, flow.sq, flow.sp, hl]
    obtain ⟨c1, c2⟩ := flow.lines_len hl
    rw [e1] at c2
    rw [e1, e2] at c1
    subst c1
    by_cases c3 : l = k
    case neg =>
      have c : ((l : Int) != (k : Int)) = true := by simp only [bne_iff_ne, ne_eq, Int.natCast_inj]; exact c3
      have c' : decide ((xs.take l).length = (az.take k).length) = false := by rw [e1, e3]; simpa using c3
      simp only [flow.sw, flow.sq, flow.sp, hl, c, c', Bool.and_false, Bool.false_and, Bool.not_true, cond_true, cond_false]
    subst c3
    have c' : decide ((xs.take l).length = (az.take l).length) = true := by rw [e1, e3]; simp
    have hgo := loop az bs xs l (l + 1) h1 h3 h5 (by omega) l 0 (l + 1) 0 (by omega) (by omega)
    simp only [flow.sw, flow.sq, flow.sp, flow.sv, hl, c', bne_self_eq_false, Bool.not_true, cond_false, Bool.true_and, Bool.and_self]
    cases hx : (xs.take l).all flo.least.sp
    · simp
    · simp only [Bool.not_true, cond_false, Bool.true_and]
      exact hgo
  · cases h
theorem ok : EntOk Try.prog ⟨25, R⟩ :=
  ent_okA mixed (A := (orc [⟨59, areSlopes.R⟩, ⟨63, areNotLess.R⟩, ⟨50, iIsFinite.R⟩])) (orc_ok (by simp only [List.mem_cons, List.not_mem_nil, or_false, forall_eq_or_imp, forall_eq]; exact ⟨areSlopes.ok, areNotLess.ok, iIsFinite.ok⟩)) Try.func25 (by kernel_rfl) (by kernel_rfl) (n := 54) (ts := [6, 7]) (hd := hd) (dr := Dr.std) (cut := none) (by kernel_rfl) (by kernel_rfl) (by kernel_rfl) run
end iFlowCost


end Go.Proofs.Ytgblgofmdhekiaa.Ab
