/-
  The law of WishesShared.
-/
import Derived.Test.YthecninmmojkgaaFnIH
import Derived.Test.YthecninmmojkgaaFnIJ
import Derived.Test.YthecninmmojkgaaFnIL
namespace Go.Proofs.Ythecninmmojkgaa.Ab
open Go
set_option linter.unusedVariables false
set_option linter.unusedSimpArgs false
set_option maxRecDepth 100000

set_option maxHeartbeats 1000000
open Go.ChangeShapes Go.WideShapes Go.ChangeAt Go.RowKit
set_option maxRecDepth 100000
namespace FnExactWishesShared
theorem short_mono {a b : Nat} (h : a ≤ b) {xs : List (List Int)} (hs : short.sp a xs = true) : short.sp b xs = true := by
  simp only [short.sp, List.all_eq_true, decide_eq_true_eq] at hs ⊢
  intro r hr
  have := hs r hr
  omega
/-- A law whose run is carried out where slices are held. -/
theorem law_callsX {P : Program} (hm : P.follows .mixedOrders = true) {A : OrcK} [hR : OrcRen A] [hL : OrcLoc A] (hA : OrcOk P A.plain) {C : XC} (hC : XCok P C) {hd : Nat → List Nat} {dr : Nat → Dr} {fuel : Nat} {f : FuncId} {fn : Func} {n : Nat} {ts : List ResultVar}
    (hf : P.funcs[f]? = some fn) (hbn : fn.body.isNone = false) (hn : fn.ntmps = n) (hr : fn.results = ts.toArray) (hc : drawChk dr (bodyOf fn) = true) {us : List AVal} {H' : Heap} {m' : Nat}
    (h : runFnX P A C hd dr fuel (bodyOf fn) n ts us [] 0 = some (.bool true, H', m')) {W : World} {args : Array Value} (hargs : @VRs noForb [] [] W us args.toList) :
    Calls P f args W fun e W' => e = .returned (.bool true) ∧ Below W.heap.size W W' := by
  have S : @Sim noForb [] [] W := @Sim.mk noForb [] [] W rfl List.nodup_nil (fun b hb => by cases hb) (fun l b blk h => by simp at h)
  have K : Kept [] W noForb [] 0 W := ⟨env_nil, rfl, MvX.refl _ _, fun b hb => (by cases hb), fun b hb => (by cases hb), List.nil_prefix⟩
  refine (fnX_sound (X := []) hm hA hC hf hbn hn hr hc h hargs S K).mono fun e W' ⟨c, he, F1, ρ, hv, S', k⟩ => ?_
  cases hv
  exact ⟨he, k.mv.os, k.mv.tape, k.mv.output, k.mv.size, fun b hb => k.mv.frame b hb (by simp)⟩
def Ct : XC := ⟨[⟨24, kWishesS.R⟩, ⟨23, kWishesR.R⟩, ⟨25, kWishesI.R⟩], [⟨27, mWishesS.ix, mWishesS.R⟩], [⟨20, gInt64SS.R⟩]⟩
def Cf : XC := ⟨[⟨24, kWishesS.R⟩], [⟨27, mWishesS.ix, mWishesS.R⟩], []⟩
-- numbers
theorem got (fs : List Fld) (m : Nat) (w : Int) :
  runFnX Try.prog (orcWU [] [⟨22, szWishesS.R⟩, ⟨19, eqInt64SS.R⟩, ⟨26, eqWishesS.R⟩, ⟨21, heldSS.R⟩]) Ct (fun _ => []) Dr.std 0 (bodyOf Try.f5) 101 [4] [.ro (.recs [2, 2] fs) m 2, .int .i64 w] [] 0
  = (bif decide (fs.length = m * (2 : Nat)) && (wsh.sp fs && wss.short.sp (9223372036854775807 : Nat) (wof.sv fs)) && decide (m ≤ (9223372036854775807 : Nat) ∧ (0 : Int) ≤ (1048576 : Int) ∧ (1048576 : Int) ≤ (4611686018427387904 : Int)) && (true && true || true && true) then bif decide (wss.sz.sv (wof.sv fs) (1048576 : Int) < (0 : Int)) then some (AVal.bool true, [], (0 : Nat)) else bif decide (fs.length = m * (2 : Nat)) && (wsh.sp fs && wss.short.sp (1048576 : Nat) (wof.sv fs)) && decide (m ≤ (1048576 : Nat)) && true then bif decide (fs.length = m * (2 : Nat)) && (wsh.sp fs && (wss.short.sp (4611686018427387904 : Nat) (wof.sv fs) && (wss.few.sp (wof.sv fs) && wss.sp (wof.sv fs) w))) && (true && true) then bif decide (fs.length = m * (2 : Nat)) && (wsh.sp fs && wss.short.sp (1048576 : Nat) (wof.sv fs)) && decide (m ≤ (1048576 : Nat)) && true then bif decide (fs.length = m * (2 : Nat)) && (wsh.sp fs && (wss.short.sp (4611686018427387904 : Nat) (wof.sv fs) && (wss.few.sp (wof.sv fs) && wss.sp (wof.sv fs) w))) && (true && true) then bif decide (m ≤ (wss.o.sv (wof.sv fs)).length ∧ m ≤ (wss.o.sv (wof.sv fs)).length ∧ m ≤ (4611686018427387904 : Nat) ∧ m = m ∧ List.take m (wss.o.sv (wof.sv fs)) = List.take m (wss.o.sv (wof.sv fs))) && short.sp (4611686018427387904 : Nat) (List.take m (wss.o.sv (wof.sv fs))) && (false && (false && true) || true && true) then bif decide (fs.length = m * (2 : Nat)) && (wsh.sp fs && wss.short.sp (1048576 : Nat) (wof.sv fs)) && decide (m ≤ (1048576 : Nat)) && true then bif decide (fs.length = m * (2 : Nat)) && (wsh.sp fs && wss.short.sp (4611686018427387904 : Nat) (wof.sv fs)) && decide (m ≤ (4611686018427387904 : Nat) ∧ m = m ∧ [(2 : Nat), (2 : Nat)] = [(2 : Nat), (2 : Nat)] ∧ wof.sv fs = wof.sv fs ∧ fs.length = m * (2 : Nat) ∧ wsh.sp fs = true) && (false && (false && true) || true && true) then bif decide ([(2 : Nat), (2 : Nat)] = [(2 : Nat), (2 : Nat)] ∧ fs.length = m * (2 : Nat) ∧ m ≤ (1048576 : Nat) ∧ (0 : Int) ≤ (1 : Int) ∧ (1 : Int) + (↑(wss.tt.sv (wof.sv fs)) : Int) ≤ (1000000000 : Int)) && (wsh.sp fs && wss.short.sp (1048576 : Nat) (wof.sv fs)) then bif decide ((1 : Int) + (↑(wss.tt.sv (wof.sv fs)) : Int) < (0 : Int)) then some (AVal.bool false, [], (5 : Nat)) else bif decide (m ≤ (wss.o.sv (wof.sv fs)).length ∧ m ≤ (wss.o.sv (wof.sv fs)).length ∧ m ≤ (4611686018427387904 : Nat) ∧ m = m ∧ List.take m (wss.o.sv (wof.sv fs)) = List.take m (wss.o.sv (wof.sv fs))) && short.sp (4611686018427387904 : Nat) (List.take m (wss.o.sv (wof.sv fs))) && (false && (false && true) || true && true) then bif decide (m = (wss.o.sv (wof.sv fs)).length ∧ m ≤ (1048576 : Nat) ∧ (0 : Int) ≤ (1 : Int) ∧ (1 : Int) + (↑(tot.sv (wss.o.sv (wof.sv fs))) : Int) ≤ (1000000000 : Int)) then bif decide (m = (mkr.sv (1 : Int) (wss.o.sv (wof.sv fs))).length ∧ m ≤ (1048576 : Nat) ∧ (0 : Int) ≤ (1 : Int) ∧ (1 : Int) + (↑(tot.sv (mkr.sv (1 : Int) (wss.o.sv (wof.sv fs)))) : Int) ≤ (1000000000 : Int) ∧ mkr.sv (1 : Int) (wss.o.sv (wof.sv fs)) = mkr.sv (1 : Int) (mkr.sv (1 : Int) (wss.o.sv (wof.sv fs)))) && (false && true || true && true) then bif decide ((1 : Int) + (↑(tot.sv (mkr.sv (1 : Int) (wss.o.sv (wof.sv fs)))) : Int) < (0 : Int)) then some (AVal.bool false, [], (5 : Nat)) else bif (1 : Int) + (↑(tot.sv (mkr.sv (1 : Int) (wss.o.sv (wof.sv fs)))) : Int) != (1 : Int) + (↑(tot.sv (wss.o.sv (wof.sv fs))) : Int) then some (AVal.bool false, [], (5 : Nat)) else bif decide (fs.length = m * (2 : Nat)) && (wsh.sp fs && wss.short.sp (1048576 : Nat) (wof.sv fs)) && decide (m ≤ (1048576 : Nat)) && true then bif decide (fs.length = m * (2 : Nat)) && (wsh.sp fs && (wss.short.sp (4611686018427387904 : Nat) (wof.sv fs) && (wss.few.sp (wof.sv fs) && wss.sp (wof.sv fs) w))) && (true && true) then bif decide (m ≤ (wss.o.sv (wof.sv fs)).length ∧ m ≤ (wss.o.sv (wof.sv fs)).length ∧ m ≤ (4611686018427387904 : Nat) ∧ m = m ∧ List.take m (wss.o.sv (wof.sv fs)) = List.take m (wss.o.sv (wof.sv fs))) && short.sp (4611686018427387904 : Nat) (List.take m (wss.o.sv (wof.sv fs))) && (false && (false && true) || true && true) then bif decide (m = (mkr.sv (1 : Int) (wss.o.sv (wof.sv fs))).length ∧ m ≤ (1048576 : Nat) ∧ (0 : Int) ≤ (1 : Int) ∧ (1 : Int) + (↑(tot.sv (mkr.sv (1 : Int) (wss.o.sv (wof.sv fs)))) : Int) ≤ (1000000000 : Int) ∧ mkr.sv (1 : Int) (wss.o.sv (wof.sv fs)) = mkr.sv (1 : Int) (mkr.sv (1 : Int) (wss.o.sv (wof.sv fs)))) && (false && true || true && true) then bif decide ((1 : Int) + (↑(tot.sv (mkr.sv (1 : Int) (wss.o.sv (wof.sv fs)))) : Int) < (0 : Int)) then some (AVal.bool false, [], (7 : Nat)) else bif (1 : Int) + (↑(tot.sv (mkr.sv (1 : Int) (wss.o.sv (wof.sv fs)))) : Int) != (1 : Int) + (↑(tot.sv (wss.o.sv (wof.sv fs))) : Int) then some (AVal.bool false, [], (7 : Nat)) else some (AVal.bool true, [], (7 : Nat)) else none else none else none else none else none else none else none else none else none else none else none else none else none else none else none else none) := by kernel_rfl
theorem gof (fs : List Fld) (m : Nat) (w : Int) :
  runFnX Try.prog (orcWU [] [⟨22, szWishesS.R⟩, ⟨23, sWishesShared.Rf⟩, ⟨25, iWishesShared.Rf⟩, ⟨19, eqSSn.R⟩, ⟨26, eqWishesS.R⟩, ⟨21, heldSSn.R⟩, ⟨20, markSSn.R⟩]) Cf (fun _ => []) Dr.std 0 (bodyOf Try.f5) 101 [4] [.ro (.recs [2, 2] fs) m 2, .int .i64 w] [] 0
  = (bif decide (fs.length = m * (2 : Nat)) && (wsh.sp fs && wss.short.sp (9223372036854775807 : Nat) (wof.sv fs)) && decide (m ≤ (9223372036854775807 : Nat) ∧ (0 : Int) ≤ (1048576 : Int) ∧ (1048576 : Int) ≤ (4611686018427387904 : Int)) && (true && true || true && true) then bif decide (wss.sz.sv (wof.sv fs) (1048576 : Int) < (0 : Int)) then some (AVal.bool true, [], (0 : Nat)) else bif decide (fs.length = m * (2 : Nat)) && (wsh.sp fs && wss.short.sp (1048576 : Nat) (wof.sv fs)) && decide (m ≤ (1048576 : Nat)) && true then bif decide (fs.length = m * (2 : Nat)) && (wsh.sp fs && (wss.short.sp (4611686018427387904 : Nat) (wof.sv fs) && (wss.few.sp (wof.sv fs) && !wss.sp (wof.sv fs) w))) && (false && (true && true) || true && true) then bif decide (fs.length = m * (2 : Nat)) && (wsh.sp fs && wss.short.sp (1048576 : Nat) (wof.sv fs)) && decide (m ≤ (1048576 : Nat)) && true then bif decide (fs.length = m * (2 : Nat)) && (wsh.sp fs && (wss.short.sp (4611686018427387904 : Nat) (wof.sv fs) && (wss.few.sp (wof.sv fs) && !wss.sp (wof.sv fs) w))) && (false && (true && true) || true && true) then bif decide (fs.length = m * (2 : Nat)) && (wsh.sp fs && wss.short.sp (1048576 : Nat) (wof.sv fs)) && decide (m ≤ (1048576 : Nat)) && true then bif decide (fs.length = m * (2 : Nat)) && (wsh.sp fs && wss.short.sp (4611686018427387904 : Nat) (wof.sv fs)) && decide (m ≤ (4611686018427387904 : Nat) ∧ m = m ∧ [(2 : Nat), (2 : Nat)] = [(2 : Nat), (2 : Nat)] ∧ wof.sv fs = wof.sv fs ∧ fs.length = m * (2 : Nat) ∧ wsh.sp fs = true) && (false && (false && true) || true && true) then bif decide ([(2 : Nat), (2 : Nat)] = [(2 : Nat), (2 : Nat)] ∧ fs.length = m * (2 : Nat) ∧ m ≤ (1048576 : Nat) ∧ (0 : Int) ≤ (1 : Int) ∧ (1 : Int) + (↑(wss.tt.sv (wof.sv fs)) : Int) ≤ (1000000000 : Int)) && (wsh.sp fs && wss.short.sp (1048576 : Nat) (wof.sv fs)) then bif decide ((1 : Int) + (↑(wss.tt.sv (wof.sv fs)) : Int) < (0 : Int)) then some (AVal.bool false, [], (3 : Nat)) else bif decide (fs.length = m * (2 : Nat)) && (wsh.sp fs && wss.short.sp (1048576 : Nat) (wof.sv fs)) && decide (m ≤ (1048576 : Nat)) && true then bif decide (fs.length = m * (2 : Nat)) && (wsh.sp fs && (wss.short.sp (4611686018427387904 : Nat) (wof.sv fs) && (wss.few.sp (wof.sv fs) && !wss.sp (wof.sv fs) w))) && (false && (true && true) || true && true) then some (AVal.bool true, [], (4 : Nat)) else none else none else none else none else none else none else none else none else none else none) := by kernel_rfl
theorem Cokt : XCok Try.prog Ct := ⟨by simp only [Ct, List.mem_cons, List.not_mem_nil, or_false, forall_eq_or_imp, forall_eq]; exact ⟨kWishesS.ok, kWishesR.ok, kWishesI.ok⟩, by simp only [Ct, List.mem_cons, List.not_mem_nil, or_false, forall_eq]; exact mWishesS.ok, by simp only [Ct, List.mem_cons, List.not_mem_nil, or_false, forall_eq]; exact gInt64SS.ok⟩
theorem Cokf : XCok Try.prog Cf := ⟨by simp only [Cf, List.mem_cons, List.not_mem_nil, or_false, forall_eq]; exact kWishesS.ok, by simp only [Cf, List.mem_cons, List.not_mem_nil, or_false, forall_eq]; exact mWishesS.ok, by simp [Cf]⟩
theorem sw_ok {ls rs : List (List Int)} {l : Int} (hl : 0 ≤ l) (h : 0 ≤ sw.sv ls rs l) : (ls.length : Int) ≤ l ∧ (rs.length : Int) ≤ l ∧ sw.sv ls rs l + (tot.sv ls : Int) + (tot.sv rs : Int) ≤ l ∧ (∀ r ∈ ls, (r.length : Int) ≤ l) ∧ ∀ r ∈ rs, (r.length : Int) ≤ l := by
  unfold sw.sv at h ⊢
  by_cases c1 : szs.sv ls l < 0
  · rw [decide_eq_true c1, cond_true] at h; omega
  · rw [decide_eq_false c1, cond_false] at h ⊢
    by_cases c2 : szs.sv rs (szs.sv ls l) < 0
    · rw [decide_eq_true c2, cond_true] at h; omega
    · rw [decide_eq_false c2, cond_false] at h ⊢
      obtain ⟨p1, p2, p3⟩ := szs_ok (xs := ls) (by omega) hl
      obtain ⟨q1, q2, q3⟩ := szs_ok (xs := rs) (l := szs.sv ls l) (by omega) (by omega)
      exact ⟨by omega, by omega, by omega, p3, fun r hr => by have := q3 r hr; omega⟩
theorem szl_ok : ∀ {xs : List WsT} {l : Int}, 0 ≤ l → 0 ≤ wss.szl.sv xs l → (wss.tt.sv xs : Int) ≤ l ∧ wss.short.sp l.toNat xs = true ∧ ∀ g ∈ xs, (tot.sv g.1 : Int) ≤ l
  | [], l, h, _ => ⟨by simp [wss.tt.sv]; omega, rfl, fun g hg => by cases hg⟩
  | g :: r, l, h, hz => by
    rw [wss.szl.sv] at hz
    by_cases c : sw.sv g.1 g.2 l < 0
    · rw [decide_eq_true c, cond_true] at hz; omega
    · rw [decide_eq_false c, cond_false] at hz
      obtain ⟨k1, k2, k3⟩ := szl_ok (xs := r) (l := sw.sv g.1 g.2 l) (by omega) hz
      obtain ⟨p1, p2, p3, p4, p5⟩ := sw_ok h (by omega : 0 ≤ sw.sv g.1 g.2 l)
      refine ⟨by rw [wss.tt.sv]; omega, ?_, fun x hx => ?_⟩
      · have k4 := wss.short_mono (k := l.toNat) (by omega) k2
        have sl : short.sp l.toNat g.1 = true := by
          simp only [short.sp, List.all_eq_true, decide_eq_true_eq]; exact fun r hr => by have := p4 r hr; omega
        have sr : short.sp l.toNat g.2 = true := by
          simp only [short.sp, List.all_eq_true, decide_eq_true_eq]; exact fun r hr => by have := p5 r hr; omega
        unfold wss.short.sp at k4 ⊢
        rw [List.all_cons, k4, decide_eq_true (show g.1.length ≤ l.toNat by omega), decide_eq_true (show g.2.length ≤ l.toNat by omega), sl, sr]; rfl
      · rcases List.mem_cons.1 hx with rfl | hx
        · omega
        · have := k3 x hx; omega
theorem sz_ok {xs : List WsT} {l : Int} (h : 0 ≤ l) (hz : 0 ≤ wss.sz.sv xs l) : (xs.length : Int) ≤ l ∧ (wss.tt.sv xs : Int) ≤ l ∧ wss.short.sp l.toNat xs = true ∧ ∀ g ∈ xs, (tot.sv g.1 : Int) ≤ l := by
  unfold wss.sz.sv at hz
  by_cases c : l - (xs.length : Int) < 0
  · rw [decide_eq_true c, cond_true] at hz; omega
  · rw [decide_eq_false c, cond_false] at hz
    obtain ⟨k1, k2, k3⟩ := szl_ok (xs := xs) (by omega) hz
    exact ⟨by omega, by omega, wss.short_mono (by omega) k2, fun g hg => by have := k3 g hg; omega⟩
theorem tot_mkr (k : Int) (xs : List (List Int)) : tot.sv (mkr.sv k xs) = tot.sv xs := by
  unfold tot.sv
  congr 1
  refine List.ext_getElem (by simp [mkr_len]) fun i h1 h2 => ?_
  have hi : i < xs.length := by simpa using h2
  have e := mkr_at k xs hi
  rw [List.getElem?_eq_getElem (by rw [mkr_len]; exact hi)] at e
  rw [List.getElem_map, List.getElem_map, Option.some.inj e, marks_length, gr_eq hi]
theorem gr_mkr (k : Int) (xs : List (List Int)) {i : Nat} (hi : i < xs.length) : gr (mkr.sv k xs) i = marks.sv (k + (tot.sv (xs.take i) : Int)) (gr xs i).length := by
  rw [gr_eq (by rw [mkr_len]; exact hi)]
  have e := mkr_at k xs hi
  rw [List.getElem?_eq_getElem (by rw [mkr_len]; exact hi)] at e
  exact Option.some.inj e
theorem tot_take_mkr (k : Int) (xs : List (List Int)) : ∀ i, i ≤ xs.length → tot.sv ((mkr.sv k xs).take i) = tot.sv (xs.take i) := by
  intro i
  induction i with
  | zero => intro _; rfl
  | succ i ih =>
    intro h
    rw [gInt64SS.tot_take (by rw [mkr_len]; omega), gInt64SS.tot_take (by omega), ih (by omega), gr_mkr k xs (by omega), marks_length]
theorem mkr_mkr (k : Int) (xs : List (List Int)) : mkr.sv k (mkr.sv k xs) = mkr.sv k xs := by
  refine List.ext_getElem? fun i => ?_
  by_cases hi : i < xs.length
  · rw [mkr_at k _ (by rw [mkr_len]; exact hi), mkr_at k xs hi, tot_take_mkr k xs i (by omega), gr_mkr k xs hi, marks_length]
  · rw [List.getElem?_eq_none (by rw [mkr_len, mkr_len]; omega), List.getElem?_eq_none (by rw [mkr_len]; omega)]
theorem o_tot : ∀ {xs : List WsT}, xs.all wss.v.sp = true → tot.sv (wss.o.sv xs) ≤ 8 * xs.length ∧ short.sp 8 (wss.o.sv xs) = true
  | [], _ => ⟨by simp [tot.sv, wss.o.sv], rfl⟩
  | g :: r, h => by
    rw [List.all_cons, Bool.and_eq_true] at h
    obtain ⟨k1, k2⟩ := o_tot h.2
    have hl := vw_len (show vw.sp g.1 g.2 = true from h.1)
    have e : (wss.m.sv g.1 g.2).length = g.1.length := ask.om_len _ _ _
    have l8 : g.1.length ≤ 8 := by
      have hv : vw.sp g.1 g.2 = true := h.1
      simp only [vw.sp, Bool.and_eq_true, decide_eq_true_eq] at hv
      omega
    refine ⟨?_, ?_⟩
    · have : tot.sv (wss.o.sv (g :: r)) = (wss.m.sv g.1 g.2).length + tot.sv (wss.o.sv r) := by simp [tot.sv, wss.o.sv]
      rw [this, e, List.length_cons]; omega
    · have : wss.o.sv (g :: r) = wss.m.sv g.1 g.2 :: wss.o.sv r := rfl
      unfold short.sp at k2 ⊢
      rw [this, List.all_cons, k2, decide_eq_true (show (wss.m.sv g.1 g.2).length ≤ 8 by omega)]; rfl
theorem runt (xs : List WsT) (w : Int) (l1 : xs.length ≤ 9223372036854775807) (s1 : wss.short.sp 9223372036854775807 xs = true) (ho : wss.sp xs w = true) : ∃ H' m', runFnX Try.prog (orcWU [] [⟨22, szWishesS.R⟩, ⟨19, eqInt64SS.R⟩, ⟨26, eqWishesS.R⟩, ⟨21, heldSS.R⟩]) Ct (fun _ => []) Dr.std 0 (bodyOf Try.f5) 101 [4] [.ro (.recs [2, 2] (wfs.sv xs)) xs.length 2, .int .i64 w] [] 0 = some (.bool true, H', m') := by
  rw [got]
  have i0 : (0 : Int) ≤ 1048576 := by omega
  have i1 : (1048576 : Int) ≤ 4611686018427387904 := by omega
  have hlen := wfs_len xs
  obtain ⟨hsh, hof⟩ := wsh_of xs
  by_cases hb : wss.sz.sv xs 1048576 < 0
  · simp -implicitDefEqProofs only [hlen, hsh, hof, l1, s1, i0, i1, hb, Nat.le_refl, true_and, and_true, and_self, decide_true, decide_false, Bool.and_self, Bool.or_self, Bool.and_true, Bool.true_and, Bool.and_false, Bool.false_and, Bool.or_true, Bool.true_or, Bool.or_false, Bool.false_or, Bool.not_true, Bool.not_false, cond_true, cond_false]
    exact ⟨_, _, rfl⟩
  · obtain ⟨q1, q2, q3, q4⟩ := sz_ok (xs := xs) (l := 1048576) (by omega) (by omega)
    have h1 : xs.length ≤ 1048576 := by omega
    have h4 : wss.short.sp 1048576 xs = true := q3
    have h6 : wss.short.sp 4611686018427387904 xs = true := wss.short_mono (by omega) h4
    have h8 : xs.length ≤ 4611686018427387904 := by omega
    have hf : wss.few.sp xs = true := by
      unfold wss.few.sp
      rw [List.all_eq_true]
      intro g hg
      have := q4 g hg
      rw [decide_eq_true_eq]; omega
    have hc : (1 : Int) + (wss.tt.sv xs : Int) ≤ 1000000000 := by omega
    have hd : ¬ ((1 : Int) + (wss.tt.sv xs : Int) < 0) := by omega
    have j1 : (0 : Int) ≤ 1 := by omega
    have ol : (wss.o.sv xs).length = xs.length := by simp [wss.o.sv]
    have hall : xs.all wss.v.sp = true := by
      have := ho
      unfold wss.sp at this
      exact ((Bool.and_eq_true _ _).mp this).2
    obtain ⟨t1, t2⟩ := o_tot hall
    have t3 : short.sp 4611686018427387904 (wss.o.sv xs) = true := short_mono (by omega) t2
    have hx8 : xs.length ≤ 8 := by
      have := ho
      unfold wss.sp at this
      have := ((Bool.and_eq_true _ _).mp ((Bool.and_eq_true _ _).mp this).1).1
      simpa using this
    have t4 : (1 : Int) + (tot.sv (wss.o.sv xs) : Int) ≤ 1000000000 := by omega
    have t5 : ¬ ((1 : Int) + (tot.sv (wss.o.sv xs) : Int) < 0) := by omega
    have t6 : (wss.o.sv xs).take xs.length = wss.o.sv xs := List.take_of_length_le (by omega)
    simp -implicitDefEqProofs only [hlen, hsh, hof, l1, s1, i0, i1, hb, h1, h4, h6, h8, hf, hc, hd, ho, j1, ol, t3, t4, t5, t6, mkr_len, tot_mkr, mkr_mkr, ne_eq, not_false_eq_true, eq_self, List.take_take, Nat.min_self, Nat.le_refl, List.take_length, marks_length, take_marks, one_neg, i0_1, i1_b, true_and, and_true, and_self, decide_true, decide_false, Bool.and_self, Bool.or_self, Bool.and_true, Bool.true_and, Bool.and_false, Bool.false_and, Bool.or_true, Bool.true_or, Bool.or_false, Bool.false_or, Bool.not_true, Bool.not_false, cond_true, cond_false, bne_self_eq_false, beq_self_eq_true, and_self, decide_true, decide_false, Bool.and_self, Bool.or_self, Bool.and_true, Bool.true_and, Bool.and_false, Bool.false_and, Bool.or_true, Bool.true_or, Bool.or_false, Bool.false_or, Bool.not_true, Bool.not_false, cond_true, cond_false]
    exact ⟨_, _, rfl⟩
theorem runf (xs : List WsT) (w : Int) (l1 : xs.length ≤ 9223372036854775807) (s1 : wss.short.sp 9223372036854775807 xs = true) (ho : wss.sp xs w = false) : ∃ H' m', runFnX Try.prog (orcWU [] [⟨22, szWishesS.R⟩, ⟨23, sWishesShared.Rf⟩, ⟨25, iWishesShared.Rf⟩, ⟨19, eqSSn.R⟩, ⟨26, eqWishesS.R⟩, ⟨21, heldSSn.R⟩, ⟨20, markSSn.R⟩]) Cf (fun _ => []) Dr.std 0 (bodyOf Try.f5) 101 [4] [.ro (.recs [2, 2] (wfs.sv xs)) xs.length 2, .int .i64 w] [] 0 = some (.bool true, H', m') := by
  rw [gof]
  have i0 : (0 : Int) ≤ 1048576 := by omega
  have i1 : (1048576 : Int) ≤ 4611686018427387904 := by omega
  have hlen := wfs_len xs
  obtain ⟨hsh, hof⟩ := wsh_of xs
  by_cases hb : wss.sz.sv xs 1048576 < 0
  · simp -implicitDefEqProofs only [hlen, hsh, hof, l1, s1, i0, i1, hb, Nat.le_refl, true_and, and_true, and_self, decide_true, decide_false, Bool.and_self, Bool.or_self, Bool.and_true, Bool.true_and, Bool.and_false, Bool.false_and, Bool.or_true, Bool.true_or, Bool.or_false, Bool.false_or, Bool.not_true, Bool.not_false, cond_true, cond_false]
    exact ⟨_, _, rfl⟩
  · obtain ⟨q1, q2, q3, q4⟩ := sz_ok (xs := xs) (l := 1048576) (by omega) (by omega)
    have h1 : xs.length ≤ 1048576 := by omega
    have h4 : wss.short.sp 1048576 xs = true := q3
    have h6 : wss.short.sp 4611686018427387904 xs = true := wss.short_mono (by omega) h4
    have h8 : xs.length ≤ 4611686018427387904 := by omega
    have hf : wss.few.sp xs = true := by
      unfold wss.few.sp
      rw [List.all_eq_true]
      intro g hg
      have := q4 g hg
      rw [decide_eq_true_eq]; omega
    have hc : (1 : Int) + (wss.tt.sv xs : Int) ≤ 1000000000 := by omega
    have hd : ¬ ((1 : Int) + (wss.tt.sv xs : Int) < 0) := by omega
    have j1 : (0 : Int) ≤ 1 := by omega
    simp -implicitDefEqProofs only [hlen, hsh, hof, l1, s1, i0, i1, hb, h1, h4, h6, h8, hf, hc, hd, ho, j1,  ne_eq, not_false_eq_true, eq_self, List.take_take, Nat.min_self, Nat.le_refl, List.take_length, marks_length, take_marks, one_neg, i0_1, i1_b, true_and, and_true, and_self, decide_true, decide_false, Bool.and_self, Bool.or_self, Bool.and_true, Bool.true_and, Bool.and_false, Bool.false_and, Bool.or_true, Bool.true_or, Bool.or_false, Bool.false_or, Bool.not_true, Bool.not_false, cond_true, cond_false, bne_self_eq_false, beq_self_eq_true, and_self, decide_true, decide_false, Bool.and_self, Bool.or_self, Bool.and_true, Bool.true_and, Bool.and_false, Bool.false_and, Bool.or_true, Bool.true_or, Bool.or_false, Bool.false_or, Bool.not_true, Bool.not_false, cond_true, cond_false]
    exact ⟨_, _, rfl⟩
theorem calls {W : World} {args : Array Value} (xs : List WsT) (l1 : xs.length ≤ 9223372036854775807) (s1 : wss.short.sp 9223372036854775807 xs = true) (w : Int) (h : @VRs noForb [] [] W [.ro (.recs [2, 2] (wfs.sv xs)) xs.length 2, .int .i64 w] args.toList) :
    Calls Try.prog 5 args W fun e W' => e = .returned (.bool true) ∧ Below W.heap.size W W' := by
  rcases Bool.eq_false_or_eq_true (wss.sp xs w) with ho | ho
  · obtain ⟨H', m', hrun⟩ := runt xs w l1 s1 ho
    exact law_callsX mixed (orcWU_ok (by simp) (by simp only [List.mem_cons, List.not_mem_nil, or_false, forall_eq_or_imp, forall_eq]; exact ⟨szWishesS.ok, eqInt64SS.ok, eqWishesS.ok, heldSS.ok⟩)) Cokt Try.func5 (by kernel_rfl) (n := 101) (ts := [4]) (by kernel_rfl) (by kernel_rfl) (by kernel_rfl) hrun h
  · obtain ⟨H', m', hrun⟩ := runf xs w l1 s1 ho
    exact law_callsX mixed (orcWU_ok (by simp) (by simp only [List.mem_cons, List.not_mem_nil, or_false, forall_eq_or_imp, forall_eq]; exact ⟨szWishesS.ok, sWishesShared.okf, iWishesShared.okf, eqSSn.ok, eqWishesS.ok, heldSSn.ok, markSSn.ok⟩)) Cokf Try.func5 (by kernel_rfl) (n := 101) (ts := [4]) (by kernel_rfl) (by kernel_rfl) (by kernel_rfl) hrun h
end FnExactWishesShared
end Go.Proofs.Ythecninmmojkgaa.Ab
