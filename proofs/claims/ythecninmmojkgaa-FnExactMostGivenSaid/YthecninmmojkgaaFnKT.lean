/-
  The law of MostGiven.
-/
import Derived.Test.YthecninmmojkgaaFnK7
import Derived.Test.YthecninmmojkgaaFnUB
import Derived.Test.YthecninmmojkgaaAbLaw
import Derived.Test.YthecninmmojkgaaFnE
namespace Go.Proofs.Ythecninmmojkgaa.Ab
open Go
set_option linter.unusedVariables false
set_option linter.unusedSimpArgs false
set_option maxRecDepth 100000

set_option maxHeartbeats 1000000
open Go.ChangeShapes Go.WideShapes Go.ChangeAt Go.RowKit
set_option maxRecDepth 100000
namespace eqSSb
/-- Lists alike, or both nil. -/
def R (args : List AVal) : Option (Bool × AVal × List Blk) := match args with
  | [.nils, .nils] => eqSSn.R [.nils, .nils]
  | args => eqInt64SS.R args
theorem ok : EntOk Try.prog ⟨19, R⟩ := by
  refine EntOk.cases eqSSn.ok eqInt64SS.ok fun args v new h => ?_
  unfold R at h
  split at h
  · exact .inl h
  · exact .inr h
end eqSSb
namespace FnExactMostGiven
instance giveMG : Give := ⟨[16]⟩
theorem short_mono {a b : Nat} (h : a ≤ b) {xs : List (List Int)} (hs : short.sp a xs = true) : short.sp b xs = true := by
  simp only [short.sp, List.all_eq_true, decide_eq_true_eq] at hs ⊢
  intro r hr
  have := hs r hr
  omega
/-- A law whose run is carried out where slices are held. -/
theorem law_callsX {P : Program} (hm : P.follows .mixedOrders = true) {A : OrcK} [hR : OrcRen A] [hL : OrcLoc A] (hA : OrcOk P A.plain) {C : XC} (hC : XCok P C) {hd : Nat → List Nat} {dr : Nat → Dr} {fuel : Nat} {f : FuncId} {fn : Func} {n : Nat} {ts : List ResultVar}
    (hf : P.funcs[f]? = some fn) (hbn : fn.body.isNone = false) (hn : fn.ntmps = n) (hr : fn.results = ts.toArray) (hc : drawChk dr (bodyOf fn) = true) {us : List AVal} {H' : Heap} {m' : Nat}
    (h : runFnX P A C hd dr fuel (bodyOf fn) n ts us [] 0 = some (.bool true, H', m')) {W : World} {args : Array Value} (hargs : @VRs noForb [] [] W us args.toList) :
    Calls P f args W fun e W' => e = .returned (.bool true) ∧ Below W.heap.size W W' := by
  have S : @Sim noForb [] [] W := @Sim.mk noForb [] [] W rfl List.nodup_nil (fun b hb => by cases hb) (fun l b blk h => by simp at h)
  have K : Kept [] W noForb [] 0 W := ⟨env_nil, rfl, MvX.refl _ _, fun b hb => (by cases hb), fun b hb => (by cases hb), List.nil_prefix⟩
  refine (fnX_sound (X := []) hm hA hC hf hbn hn hr hc h hargs S K).mono fun e W' ⟨c, he, F1, ρ, hv, S', k⟩ => ?_
  cases hv
  exact ⟨he, k.mv.os, k.mv.tape, k.mv.output, k.mv.size, fun b hb => k.mv.frame b hb (by simp)⟩
def Ct : XC := ⟨[⟨17, kInt64SS.R⟩, ⟨18, kMostGiven.R⟩], [], [⟨20, gInt64SS.R⟩]⟩
def Cf : XC := ⟨[⟨17, kInt64SS.R⟩], [⟨20, mInt64SS.ix, mInt64SSn.R⟩], []⟩
-- numbers
theorem got (fs : List (List Int)) (m : Nat) (w : Int) :
  runFnX Try.prog (orcWU [] [⟨15, szInt64SS.R⟩, ⟨16, sMostGiven.Rt⟩, ⟨19, eqInt64SS.R⟩, ⟨21, heldSS.R⟩]) Ct (fun _ => []) Dr.std 0 (bodyOf Try.f4) 122 [4] [.ro (.rows .i64 fs) m 1, .int .i64 w] [] 0
  = (bif decide (m ≤ fs.length ∧ m ≤ (9223372036854775807 : Nat) ∧ (0 : Int) ≤ (1048576 : Int) ∧ (1048576 : Int) ≤ (4611686018427387904 : Int)) && short.sp (9223372036854775807 : Nat) fs && (true && true || true && true) then bif decide ((bif decide ((1048576 : Int) - (↑m : Int) < (0 : Int)) then (-1 : Int) else szrows.sq (List.take m fs) ((1048576 : Int) - (↑m : Int))) < (0 : Int)) then some (AVal.bool true, [], (0 : Nat)) else bif decide (m ≤ fs.length ∧ m ≤ (1048576 : Nat)) && short.sp (1048576 : Nat) (List.take m fs) && true then bif decide (m = (List.take m fs).length) && (gvs.gv.sp (List.take m fs) w && gvs.mo.sp (List.take m fs) w.toNat) && (true && (true && true) || true && (false && true) && true) then bif decide (m ≤ fs.length ∧ m ≤ (1048576 : Nat)) && short.sp (1048576 : Nat) (List.take m fs) && true then bif decide (m = (List.take m fs).length) && (gvs.gv.sp (List.take m fs) w && gvs.mo.sp (List.take m fs) w.toNat) && (true && (true && true)) then bif (↑(gvs.mc.sv (List.take m fs) w.toNat) : Int) != (↑(gvs.mc.sv (List.take m fs) w.toNat) : Int) then some (AVal.bool false, [], (3 : Nat)) else bif decide ((gvs.mr.sv (List.take m fs) w.toNat).length ≤ (gvs.mr.sv (List.take m fs) w.toNat).length ∧ (gvs.mr.sv (List.take m fs) w.toNat).length ≤ (gvs.mr.sv (List.take m fs) w.toNat).length ∧ (gvs.mr.sv (List.take m fs) w.toNat).length ≤ (4611686018427387904 : Nat) ∧ (gvs.mr.sv (List.take m fs) w.toNat).length = (gvs.mr.sv (List.take m fs) w.toNat).length ∧ List.take (gvs.mr.sv (List.take m fs) w.toNat).length (gvs.mr.sv (List.take m fs) w.toNat) = List.take (gvs.mr.sv (List.take m fs) w.toNat).length (gvs.mr.sv (List.take m fs) w.toNat)) && short.sp (4611686018427387904 : Nat) (List.take (gvs.mr.sv (List.take m fs) w.toNat).length (gvs.mr.sv (List.take m fs) w.toNat)) && (false && (true && true) || true && true) then bif decide (m ≤ fs.length ∧ m ≤ (1048576 : Nat)) && short.sp (1048576 : Nat) (List.take m fs) && true then bif decide (m ≤ (List.take m fs).length ∧ m ≤ (List.take m fs).length ∧ m ≤ (4611686018427387904 : Nat) ∧ m = m ∧ List.take m (List.take m fs) = List.take m (List.take m fs)) && short.sp (4611686018427387904 : Nat) (List.take m (List.take m fs)) && (false && (false && true) || true && true) then bif decide (m = (List.take m fs).length ∧ m ≤ (1048576 : Nat) ∧ (0 : Int) ≤ (1 : Int) ∧ (1 : Int) + (↑(tot.sv (List.take m fs)) : Int) ≤ (1000000000 : Int)) then bif decide ((1 : Int) + (↑(tot.sv (List.take m fs)) : Int) < (0 : Int)) then some (AVal.bool false, [], (4 : Nat)) else bif (↑(gvs.mc.sv (List.take m fs) w.toNat) : Int) != (↑(gvs.mc.sv (List.take m fs) w.toNat) : Int) then some (AVal.bool false, [], (4 : Nat)) else bif decide ((gvs.mr.sv (List.take m fs) w.toNat).length ≤ (gvs.mr.sv (List.take m fs) w.toNat).length ∧ (gvs.mr.sv (List.take m fs) w.toNat).length ≤ (gvs.mr.sv (List.take m fs) w.toNat).length ∧ (gvs.mr.sv (List.take m fs) w.toNat).length ≤ (4611686018427387904 : Nat) ∧ (gvs.mr.sv (List.take m fs) w.toNat).length = (gvs.mr.sv (List.take m fs) w.toNat).length ∧ List.take (gvs.mr.sv (List.take m fs) w.toNat).length (gvs.mr.sv (List.take m fs) w.toNat) = List.take (gvs.mr.sv (List.take m fs) w.toNat).length (gvs.mr.sv (List.take m fs) w.toNat)) && short.sp (4611686018427387904 : Nat) (List.take (gvs.mr.sv (List.take m fs) w.toNat).length (gvs.mr.sv (List.take m fs) w.toNat)) && (false && (true && true) || true && true) then bif decide ((gvs.mr.sv (List.take m fs) w.toNat).length = (gvs.mr.sv (List.take m fs) w.toNat).length ∧ (gvs.mr.sv (List.take m fs) w.toNat).length ≤ (1048576 : Nat) ∧ (0 : Int) ≤ (1 : Int) ∧ (1 : Int) + (↑(tot.sv (gvs.mr.sv (List.take m fs) w.toNat)) : Int) ≤ (1000000000 : Int)) then bif decide ((gvs.mr.sv (List.take m fs) w.toNat).length = (mkr.sv (1 : Int) (gvs.mr.sv (List.take m fs) w.toNat)).length ∧ (gvs.mr.sv (List.take m fs) w.toNat).length ≤ (1048576 : Nat) ∧ (0 : Int) ≤ (1 : Int) ∧ (1 : Int) + (↑(tot.sv (mkr.sv (1 : Int) (gvs.mr.sv (List.take m fs) w.toNat))) : Int) ≤ (1000000000 : Int) ∧ mkr.sv (1 : Int) (gvs.mr.sv (List.take m fs) w.toNat) = mkr.sv (1 : Int) (mkr.sv (1 : Int) (gvs.mr.sv (List.take m fs) w.toNat))) && (false && true || true && true) then bif decide ((1 : Int) + (↑(tot.sv (mkr.sv (1 : Int) (gvs.mr.sv (List.take m fs) w.toNat))) : Int) < (0 : Int)) then some (AVal.bool false, [], (4 : Nat)) else bif (1 : Int) + (↑(tot.sv (mkr.sv (1 : Int) (gvs.mr.sv (List.take m fs) w.toNat))) : Int) != (1 : Int) + (↑(tot.sv (gvs.mr.sv (List.take m fs) w.toNat)) : Int) then some (AVal.bool false, [], (4 : Nat)) else bif decide (m ≤ fs.length ∧ m ≤ (1048576 : Nat)) && short.sp (1048576 : Nat) (List.take m fs) && true then bif decide (m = (List.take m fs).length) && (gvs.gv.sp (List.take m fs) w && gvs.mo.sp (List.take m fs) w.toNat) && (true && (true && true)) then bif (↑(gvs.mc.sv (List.take m fs) w.toNat) : Int) != (↑(gvs.mc.sv (List.take m fs) w.toNat) : Int) then some (AVal.bool false, [], (6 : Nat)) else bif decide ((gvs.mr.sv (List.take m fs) w.toNat).length ≤ (gvs.mr.sv (List.take m fs) w.toNat).length ∧ (gvs.mr.sv (List.take m fs) w.toNat).length ≤ (gvs.mr.sv (List.take m fs) w.toNat).length ∧ (gvs.mr.sv (List.take m fs) w.toNat).length ≤ (4611686018427387904 : Nat) ∧ (gvs.mr.sv (List.take m fs) w.toNat).length = (gvs.mr.sv (List.take m fs) w.toNat).length ∧ List.take (gvs.mr.sv (List.take m fs) w.toNat).length (gvs.mr.sv (List.take m fs) w.toNat) = List.take (gvs.mr.sv (List.take m fs) w.toNat).length (gvs.mr.sv (List.take m fs) w.toNat)) && short.sp (4611686018427387904 : Nat) (List.take (gvs.mr.sv (List.take m fs) w.toNat).length (gvs.mr.sv (List.take m fs) w.toNat)) && (false && (true && true) || true && true) then bif decide ((gvs.mr.sv (List.take m fs) w.toNat).length = (mkr.sv (1 : Int) (gvs.mr.sv (List.take m fs) w.toNat)).length ∧ (gvs.mr.sv (List.take m fs) w.toNat).length ≤ (1048576 : Nat) ∧ (0 : Int) ≤ (1 : Int) ∧ (1 : Int) + (↑(tot.sv (mkr.sv (1 : Int) (gvs.mr.sv (List.take m fs) w.toNat))) : Int) ≤ (1000000000 : Int) ∧ mkr.sv (1 : Int) (gvs.mr.sv (List.take m fs) w.toNat) = mkr.sv (1 : Int) (mkr.sv (1 : Int) (gvs.mr.sv (List.take m fs) w.toNat))) && (false && true || true && true) then bif decide ((1 : Int) + (↑(tot.sv (mkr.sv (1 : Int) (gvs.mr.sv (List.take m fs) w.toNat))) : Int) < (0 : Int)) then some (AVal.bool false, [], (6 : Nat)) else bif (1 : Int) + (↑(tot.sv (mkr.sv (1 : Int) (gvs.mr.sv (List.take m fs) w.toNat))) : Int) != (1 : Int) + (↑(tot.sv (gvs.mr.sv (List.take m fs) w.toNat)) : Int) then some (AVal.bool false, [], (6 : Nat)) else some (AVal.bool true, [], (6 : Nat)) else none else none else none else none else none else none else none else none else none else none else none else none else none else none else none else none) := by kernel_rfl
theorem gof (fs : List (List Int)) (m : Nat) (w : Int) :
  runFnX Try.prog (orcWU [] [⟨15, szInt64SS.R⟩, ⟨16, sMostGivenN.R⟩, ⟨18, iMostGivenN.R⟩, ⟨19, eqSSb.R⟩, ⟨21, heldSSn.R⟩]) Cf (fun _ => []) Dr.std 0 (bodyOf Try.f4) 122 [4] [.ro (.rows .i64 fs) m 1, .int .i64 w] [] 0
  = (bif decide (m ≤ fs.length ∧ m ≤ (9223372036854775807 : Nat) ∧ (0 : Int) ≤ (1048576 : Int) ∧ (1048576 : Int) ≤ (4611686018427387904 : Int)) && short.sp (9223372036854775807 : Nat) fs && (true && true || true && true) then bif decide ((bif decide ((1048576 : Int) - (↑m : Int) < (0 : Int)) then (-1 : Int) else szrows.sq (List.take m fs) ((1048576 : Int) - (↑m : Int))) < (0 : Int)) then some (AVal.bool true, [], (0 : Nat)) else bif decide (m ≤ fs.length ∧ m ≤ (1048576 : Nat)) && short.sp (1048576 : Nat) (List.take m fs) && true then bif decide (m = (List.take m fs).length ∧ m ≤ (4611686018427387903 : Nat)) && (short.sp (4611686018427387903 : Nat) (List.take m fs) && !(gvs.gv.sp (List.take m fs) w && gvs.mo.sp (List.take m fs) w.toNat)) && (true && (true && true) || true && true) then bif decide (m ≤ fs.length ∧ m ≤ (1048576 : Nat)) && short.sp (1048576 : Nat) (List.take m fs) && true then bif decide (m = (List.take m fs).length ∧ m ≤ (4611686018427387903 : Nat)) && (short.sp (4611686018427387903 : Nat) (List.take m fs) && !(gvs.gv.sp (List.take m fs) w && gvs.mo.sp (List.take m fs) w.toNat)) && (false && (true && true) || true && true) then bif decide (m ≤ fs.length ∧ m ≤ (1048576 : Nat)) && short.sp (1048576 : Nat) (List.take m fs) && true then bif decide (m ≤ (List.take m fs).length ∧ m ≤ (List.take m fs).length ∧ m ≤ (4611686018427387904 : Nat) ∧ m = m ∧ List.take m (List.take m fs) = List.take m (List.take m fs)) && short.sp (4611686018427387904 : Nat) (List.take m (List.take m fs)) && (false && (false && true) || true && true) then bif decide (m = (List.take m fs).length ∧ m ≤ (1048576 : Nat) ∧ (0 : Int) ≤ (1 : Int) ∧ (1 : Int) + (↑(tot.sv (List.take m fs)) : Int) ≤ (1000000000 : Int)) then bif decide ((1 : Int) + (↑(tot.sv (List.take m fs)) : Int) < (0 : Int)) then some (AVal.bool false, [], (3 : Nat)) else bif decide (m ≤ fs.length ∧ m ≤ (1048576 : Nat)) && short.sp (1048576 : Nat) (List.take m fs) && true then bif decide (m = (List.take m fs).length ∧ m ≤ (4611686018427387903 : Nat)) && (short.sp (4611686018427387903 : Nat) (List.take m fs) && !(gvs.gv.sp (List.take m fs) w && gvs.mo.sp (List.take m fs) w.toNat)) && (false && (true && true) || true && true) then some (AVal.bool true, [], (4 : Nat)) else none else none else none else none else none else none else none else none else none else none) := by kernel_rfl
theorem Cokt : XCok Try.prog Ct := ⟨by simp only [Ct, List.mem_cons, List.not_mem_nil, or_false, forall_eq_or_imp, forall_eq]; exact ⟨kInt64SS.ok, kMostGiven.ok⟩, by simp [Ct], by simp only [Ct, List.mem_cons, List.not_mem_nil, or_false, forall_eq]; exact gInt64SS.ok⟩
theorem Cokf : XCok Try.prog Cf := ⟨by simp only [Cf, List.mem_cons, List.not_mem_nil, or_false, forall_eq]; exact kInt64SS.ok, by simp only [Cf, List.mem_cons, List.not_mem_nil, or_false, forall_eq]; exact mInt64SSn.ok, by simp [Cf]⟩
theorem tot_mkr (k : Int) (xs : List (List Int)) : tot.sv (mkr.sv k xs) = tot.sv xs := by
  unfold tot.sv
  congr 1
  refine List.ext_getElem (by simp [mkr_len]) fun i h1 h2 => ?_
  have hi : i < xs.length := by simpa using h2
  have e := mkr_at k xs hi
  rw [List.getElem?_eq_getElem (by rw [mkr_len]; exact hi)] at e
  rw [List.getElem_map, List.getElem_map, Option.some.inj e, marks_length, gr_eq hi]
theorem gr_mkr (k : Int) (xs : List (List Int)) {i : Nat} (hi : i < xs.length) : gr (mkr.sv k xs) i = marks.sv (k + (tot.sv (xs.take i) : Int)) (gr xs i).length := by
  rw [gr_eq (by rw [mkr_len]; exact hi)]
  have e := mkr_at k xs hi
  rw [List.getElem?_eq_getElem (by rw [mkr_len]; exact hi)] at e
  exact Option.some.inj e
theorem tot_take_mkr (k : Int) (xs : List (List Int)) : ∀ i, i ≤ xs.length → tot.sv ((mkr.sv k xs).take i) = tot.sv (xs.take i) := by
  intro i
  induction i with
  | zero => intro _; rfl
  | succ i ih =>
    intro h
    rw [gInt64SS.tot_take (by rw [mkr_len]; omega), gInt64SS.tot_take (by omega), ih (by omega), gr_mkr k xs (by omega), marks_length]
theorem mkr_mkr (k : Int) (xs : List (List Int)) : mkr.sv k (mkr.sv k xs) = mkr.sv k xs := by
  refine List.ext_getElem? fun i => ?_
  by_cases hi : i < xs.length
  · rw [mkr_at k _ (by rw [mkr_len]; exact hi), mkr_at k xs hi, tot_take_mkr k xs i (by omega), gr_mkr k xs hi, marks_length]
  · rw [List.getElem?_eq_none (by rw [mkr_len, mkr_len]; omega), List.getElem?_eq_none (by rw [mkr_len]; omega)]
theorem few_tot : ∀ {Z : List (List Int)}, (∀ r ∈ Z, r.length ≤ 8) → tot.sv Z ≤ 8 * Z.length
  | [], _ => by simp [tot.sv]
  | r :: Z, h => by
    have h1 := h r List.mem_cons_self
    have h2 := few_tot (Z := Z) fun x hx => h x (List.mem_cons_of_mem _ hx)
    have e : tot.sv (r :: Z) = r.length + tot.sv Z := by simp [tot.sv]
    rw [e, List.length_cons]; omega
theorem mr_few {W : List (List Int)} {M : Nat} (hv : gvs.gv.sp W ((M : Nat) : Int) = true) (hmo : gvs.mo.sp W M = true) : (gvs.mr.sv W M).length ≤ 16 ∧ ∀ r ∈ gvs.mr.sv W M, r.length ≤ 8 := by
  obtain ⟨g, hM2, hM4⟩ := gvs.valid hv
  have h16 : (gvs.rs.sv W M).length ≤ 16 := of_decide_eq_true hmo
  have hq := gvs.rs_qok g (L := M) (by omega)
  have er : gvs.mr.sv W M = gvs.pk.sv (gvs.rs.sv W M) (gvs.mb.sv (gvs.best W M).1 (gvs.rs.sv W M).length) (gvs.mb.sv (gvs.best W M).1 (gvs.rs.sv W M).length).length := by unfold gvs.mr.sv; rw [hmo]; rfl
  have ml := gvs.mb_length (gvs.best W M).1 (gvs.rs.sv W M).length
  refine ⟨by rw [er, gvs.pk_length]; omega, fun r hr => ?_⟩
  obtain ⟨j, hj⟩ := List.getElem?_of_mem hr
  have hlt : j < (gvs.mb.sv (gvs.best W M).1 (gvs.rs.sv W M).length).length := by
    have := (List.getElem?_eq_some_iff.1 hj).1
    rwa [er, gvs.pk_length] at this
  rw [er, (gvs.pkB_at _ _ _ j hlt).2] at hj
  simp only [Option.some.injEq] at hj
  subst hj
  have hg := gvs.mb_ran _ (gz_mem hlt)
  exact hq.len _ (by omega)
theorem runt (fs : List (List Int)) (w : Int) (l1 : fs.length ≤ 9223372036854775807) (s1 : short.sp 9223372036854775807 fs = true) (ho : (gvs.gv.sp fs w && gvs.mo.sp fs w.toNat) = true) : ∃ H' m', runFnX Try.prog (orcWU [] [⟨15, szInt64SS.R⟩, ⟨16, sMostGiven.Rt⟩, ⟨19, eqInt64SS.R⟩, ⟨21, heldSS.R⟩]) Ct (fun _ => []) Dr.std 0 (bodyOf Try.f4) 122 [4] [.ro (.rows .i64 fs) fs.length 1, .int .i64 w] [] 0 = some (.bool true, H', m') := by
  rw [got]
  have i0 : (0 : Int) ≤ 1048576 := by omega
  have i1 : (1048576 : Int) ≤ 4611686018427387904 := by omega
  have el : (bif decide ((1048576 : Int) - (fs.length : Int) < 0) then (-1 : Int) else szrows.sq (fs.take fs.length) ((1048576 : Int) - (fs.length : Int))) = szs.sv fs 1048576 := by rw [List.take_length]; rfl
  rw [el]
  by_cases hb : szs.sv fs 1048576 < 0
  · simp -implicitDefEqProofs only [l1, s1, i0, i1, hb, Nat.le_refl, true_and, and_self, decide_true, decide_false, Bool.and_self, Bool.or_self, Bool.and_true, Bool.true_and, Bool.and_false, Bool.false_and, Bool.or_true, Bool.true_or, Bool.or_false, Bool.false_or, Bool.not_true, Bool.not_false, cond_true, cond_false]
    exact ⟨_, _, rfl⟩
  · obtain ⟨q1, q2, q3⟩ := szs_ok (xs := fs) (l := 1048576) (by omega) (by omega)
    have h1 : fs.length ≤ 1048576 := by omega
    have h4 : short.sp 1048576 fs = true := short_of (b := 1048576) (fun r hr => by have := q3 r hr; omega)
    have h6 : short.sp 4611686018427387904 fs = true := short_mono (by omega) h4
    have h7 : short.sp 4611686018427387903 fs = true := short_mono (by omega) h4
    have h8 : fs.length ≤ 4611686018427387904 := by omega
    have h9 : fs.length ≤ 4611686018427387903 := by omega
    have hc : (1 : Int) + (tot.sv fs : Int) ≤ 1000000000 := by omega
    have hd : ¬ ((1 : Int) + (tot.sv fs : Int) < 0) := by omega
    have j1 : (0 : Int) ≤ 1 := by omega
    obtain ⟨hv, hmo⟩ := (Bool.and_eq_true _ _).mp ho
    obtain ⟨M, rfl⟩ : ∃ x : Nat, w = x := ⟨w.toNat, by have := (gvs.valid hv).2.1; omega⟩
    rw [Int.toNat_natCast] at hmo ho
    rw [Int.toNat_natCast]
    obtain ⟨z1, z2⟩ := mr_few hv hmo
    have zt := few_tot z2
    have t2 : short.sp 8 (gvs.mr.sv fs M) = true := short_of (b := 8) fun r hr => by have := z2 r hr; omega
    have t3 : short.sp 4611686018427387904 (gvs.mr.sv fs M) = true := short_mono (by omega) t2
    have t4 : (1 : Int) + (tot.sv (gvs.mr.sv fs M) : Int) ≤ 1000000000 := by omega
    have t5 : ¬ ((1 : Int) + (tot.sv (gvs.mr.sv fs M) : Int) < 0) := by omega
    have t6 : (gvs.mr.sv fs M).length ≤ 1048576 := by omega
    have t7 : (gvs.mr.sv fs M).length ≤ 4611686018427387904 := by omega
    simp -implicitDefEqProofs only [l1, s1, i0, i1, hb, h1, h4, h6, h7, h8, h9, hc, hd, ho, j1, hv, hmo, t3, t4, t5, t6, t7, mkr_len, tot_mkr, mkr_mkr, ne_eq, not_false_eq_true, eq_self, List.take_take, Nat.min_self, Nat.le_refl, List.take_length, marks_length, take_marks, one_neg, i0_1, i1_b, true_and, and_true, and_self, decide_true, decide_false, Bool.and_self, Bool.or_self, Bool.and_true, Bool.true_and, Bool.and_false, Bool.false_and, Bool.or_true, Bool.true_or, Bool.or_false, Bool.false_or, Bool.not_true, Bool.not_false, cond_true, cond_false, bne_self_eq_false, beq_self_eq_true, and_self, decide_true, decide_false, Bool.and_self, Bool.or_self, Bool.and_true, Bool.true_and, Bool.and_false, Bool.false_and, Bool.or_true, Bool.true_or, Bool.or_false, Bool.false_or, Bool.not_true, Bool.not_false, cond_true, cond_false]
    exact ⟨_, _, rfl⟩
theorem runf (fs : List (List Int)) (w : Int) (l1 : fs.length ≤ 9223372036854775807) (s1 : short.sp 9223372036854775807 fs = true) (ho : (gvs.gv.sp fs w && gvs.mo.sp fs w.toNat) = false) : ∃ H' m', runFnX Try.prog (orcWU [] [⟨15, szInt64SS.R⟩, ⟨16, sMostGivenN.R⟩, ⟨18, iMostGivenN.R⟩, ⟨19, eqSSb.R⟩, ⟨21, heldSSn.R⟩]) Cf (fun _ => []) Dr.std 0 (bodyOf Try.f4) 122 [4] [.ro (.rows .i64 fs) fs.length 1, .int .i64 w] [] 0 = some (.bool true, H', m') := by
  rw [gof]
  have i0 : (0 : Int) ≤ 1048576 := by omega
  have i1 : (1048576 : Int) ≤ 4611686018427387904 := by omega
  have el : (bif decide ((1048576 : Int) - (fs.length : Int) < 0) then (-1 : Int) else szrows.sq (fs.take fs.length) ((1048576 : Int) - (fs.length : Int))) = szs.sv fs 1048576 := by rw [List.take_length]; rfl
  rw [el]
  by_cases hb : szs.sv fs 1048576 < 0
  · simp -implicitDefEqProofs only [l1, s1, i0, i1, hb, Nat.le_refl, true_and, and_self, decide_true, decide_false, Bool.and_self, Bool.or_self, Bool.and_true, Bool.true_and, Bool.and_false, Bool.false_and, Bool.or_true, Bool.true_or, Bool.or_false, Bool.false_or, Bool.not_true, Bool.not_false, cond_true, cond_false]
    exact ⟨_, _, rfl⟩
  · obtain ⟨q1, q2, q3⟩ := szs_ok (xs := fs) (l := 1048576) (by omega) (by omega)
    have h1 : fs.length ≤ 1048576 := by omega
    have h4 : short.sp 1048576 fs = true := short_of (b := 1048576) (fun r hr => by have := q3 r hr; omega)
    have h6 : short.sp 4611686018427387904 fs = true := short_mono (by omega) h4
    have h7 : short.sp 4611686018427387903 fs = true := short_mono (by omega) h4
    have h8 : fs.length ≤ 4611686018427387904 := by omega
    have h9 : fs.length ≤ 4611686018427387903 := by omega
    have hc : (1 : Int) + (tot.sv fs : Int) ≤ 1000000000 := by omega
    have hd : ¬ ((1 : Int) + (tot.sv fs : Int) < 0) := by omega
    have j1 : (0 : Int) ≤ 1 := by omega
    simp -implicitDefEqProofs only [l1, s1, i0, i1, hb, h1, h4, h6, h7, h8, h9, hc, hd, ho, j1,  ne_eq, not_false_eq_true, eq_self, List.take_take, Nat.min_self, Nat.le_refl, List.take_length, marks_length, take_marks, one_neg, i0_1, i1_b, true_and, and_true, and_self, decide_true, decide_false, Bool.and_self, Bool.or_self, Bool.and_true, Bool.true_and, Bool.and_false, Bool.false_and, Bool.or_true, Bool.true_or, Bool.or_false, Bool.false_or, Bool.not_true, Bool.not_false, cond_true, cond_false, bne_self_eq_false, beq_self_eq_true, and_self, decide_true, decide_false, Bool.and_self, Bool.or_self, Bool.and_true, Bool.true_and, Bool.and_false, Bool.false_and, Bool.or_true, Bool.true_or, Bool.or_false, Bool.false_or, Bool.not_true, Bool.not_false, cond_true, cond_false]
    exact ⟨_, _, rfl⟩
theorem calls {W : World} {args : Array Value} (fs : List (List Int)) (l1 : fs.length ≤ 9223372036854775807) (s1 : short.sp 9223372036854775807 fs = true) (w : Int) (h : @VRs noForb [] [] W [.ro (.rows .i64 fs) fs.length 1, .int .i64 w] args.toList) :
    Calls Try.prog 4 args W fun e W' => e = .returned (.bool true) ∧ Below W.heap.size W W' := by
  rcases Bool.eq_false_or_eq_true (gvs.gv.sp fs w && gvs.mo.sp fs w.toNat) with ho | ho
  · obtain ⟨H', m', hrun⟩ := runt fs w l1 s1 ho
    exact law_callsX mixed (orcWU_ok (by simp) (by simp only [List.mem_cons, List.not_mem_nil, or_false, forall_eq_or_imp, forall_eq]; exact ⟨szInt64SS.ok, sMostGiven.okt, eqInt64SS.ok, heldSS.ok⟩)) Cokt Try.func4 (by kernel_rfl) (n := 122) (ts := [4]) (by kernel_rfl) (by kernel_rfl) (by kernel_rfl) hrun h
  · obtain ⟨H', m', hrun⟩ := runf fs w l1 s1 ho
    exact law_callsX mixed (orcWU_ok (by simp) (by simp only [List.mem_cons, List.not_mem_nil, or_false, forall_eq_or_imp, forall_eq]; exact ⟨szInt64SS.ok, sMostGivenN.ok, iMostGivenN.ok, eqSSb.ok, heldSSn.ok⟩)) Cokf Try.func4 (by kernel_rfl) (n := 122) (ts := [4]) (by kernel_rfl) (by kernel_rfl) (by kernel_rfl) hrun h
end FnExactMostGiven
end Go.Proofs.Ythecninmmojkgaa.Ab
