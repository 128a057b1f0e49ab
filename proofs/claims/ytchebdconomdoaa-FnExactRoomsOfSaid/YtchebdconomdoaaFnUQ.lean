/-
  Rooms of friends: the closure as the program calls it, both sides, and the law.
-/
import Derived.Test.YtchebdconomdoaaFnUP
import Derived.Test.YtchebdconomdoaaFnUA
import Derived.Test.YtchebdconomdoaaAbLaw
namespace Go.Proofs.Ytchebdconomdoaa.Ab
open Go
set_option linter.unusedVariables false
set_option linter.unusedSimpArgs false
set_option maxRecDepth 100000

open Go.ChangeShapes Go.WideShapes Go.ChangeAt Go.RowKit
set_option maxRecDepth 100000
namespace iRoomsP
def R (N : Nat) : List AVal → Heap → Option (Bool × AVal × Heap)
  | [.ptr 0 0 0, .ptr 2 0 0, .ptr 3 0 0], [⟨.cells [.own 1 0 p 0 1], 0⟩, ⟨.typ (.ints .i64 rm), 0⟩, ⟨.cells [.ro (.rows .i64 fs) m 1], 0⟩, ⟨.cells [.fn ff [.ptr 0 0 0, .ptr 2 0 0, .ptr 3 0 0]], 0⟩] => some (decide (m = fs.length ∧ p = m ∧ rms.ng.sv rm < N ∧ ff = 58) && (rms.va.sp fs && rms.rg.sp m (-1) rm), .bool (rms.rf.sp fs N rm), [⟨.cells [.own 1 0 p 0 1], 0⟩, ⟨.typ (.ints .i64 (rms.ro.sv fs N rm)), 0⟩, ⟨.cells [.top], 0⟩, ⟨.cells [.top], 0⟩])
  | _, _ => none
theorem ok (N : Nat) : EntWOk Try.prog ⟨58, R N⟩ := by
  refine ⟨(iRooms.ok N).1, fun args H v H' h0 => ?_⟩
  have h : R N args H = some (true, v, H') := h0
  unfold R at h
  split at h
  case h_2 => cases h
  rename_i p rm fs m ff
  simp only [Option.some.injEq, Prod.mk.injEq, decide_eq_true_eq, Bool.and_eq_true] at h
  obtain ⟨⟨⟨g1, g2, hN, g3⟩, hv, hg⟩, rfl, rfl⟩ := h
  subst g3 p
  obtain ⟨hl, _⟩ := rms.rg_get hg
  have hc : ACalls Try.prog 58 [.rom [.own 0 0 m 0 1] 0, .rom [.ro (.rows .i64 fs) m 1] 0, .ptr 1 0 0] [⟨.typ (.ints .i64 rm), 0⟩, ⟨.cells [.fn 58 [.rom [.own 0 0 m 0 1] 0, .rom [.ro (.rows .i64 fs) m 1] 0, .ptr 1 0 0]], 0⟩] (.bool (rms.rf.sp fs N rm)) [⟨.typ (.ints .i64 (rms.ro.sv fs N rm)), 0⟩, ⟨.cells [.fn 58 [.rom [.own 0 0 m 0 1] 0, .rom [.ro (.rows .i64 fs) m 1] 0, .ptr 1 0 0]], 0⟩] :=
    (iRooms.ok N).2 _ _ _ _ (by simp [iRooms.R, g1, hN, hv]; exact g1 ▸ hg)
  intro Fb ρ w cargs S V
  have hlen := S.len
  obtain ⟨b0, b1, b2, b3, rfl⟩ : ∃ b0 b1 b2 b3, ρ = [b0, b1, b2, b3] := by
    match ρ, hlen with
    | [b0, b1, b2, b3], _ => exact ⟨b0, b1, b2, b3, rfl⟩
  have hnd := S.nodup
  simp only [List.nodup_cons, List.mem_cons, List.not_mem_nil, or_false, not_or, List.nodup_nil, and_true, not_false_eq_true] at hnd
  obtain ⟨⟨n01, n02, n03⟩, ⟨n12, n13⟩, n23⟩ := hnd
  have hs : ∀ b, Stb [b0, b1, b2, b3] w b → Stb [b1, b3] w b := fun b ⟨h1, h2, h3⟩ => ⟨h1, fun hm => h2 (by simp only [List.mem_cons, List.not_mem_nil, or_false] at hm ⊢; rcases hm with rfl | rfl <;> simp), h3⟩
  obtain ⟨cs0, e0, w0, k0, B0⟩ := S.blk 0 b0 _ rfl rfl
  obtain ⟨cs1, e1, w1, k1, B1⟩ := S.blk 1 b1 _ rfl rfl
  obtain ⟨cs2, e2, w2, k2, B2⟩ := S.blk 2 b2 _ rfl rfl
  obtain ⟨cs3, e3, w3, k3, B3⟩ := S.blk 3 b3 _ rfl rfl
  obtain ⟨x0, hx0, v0⟩ := B0 0 _ rfl
  obtain ⟨x2, hx2, v2⟩ := B2 0 _ rfl
  obtain ⟨x3, hx3, v3⟩ := B3 0 _ rfl
  obtain ⟨y0, hy0, u0⟩ : ∃ y, cs0[0]? = some y ∧ ∃ (a : Addr) (cap : Nat), y = .slice (some a) m cap ∧ m ≤ cap ∧ a = ⟨b1, 0, none⟩ ∧ m ≤ rm.length ∧ cap ≤ cs1.size := by
    refine ⟨x0, hx0, ?_⟩
    cases v0 with
    | own _ _ _ _ _ a cap h hm =>
      obtain ⟨blk, q1, q2, q3⟩ := h
      simp only [List.getElem?_cons_succ, List.getElem?_cons_zero, Option.some.injEq] at q1
      subst q1
      obtain ⟨b, cs, t, r1, r2, r3, r4, r5⟩ := q3 rfl
      simp only [List.getElem?_cons_succ, List.getElem?_cons_zero, Option.some.injEq] at r1
      subst r1
      rw [w1] at r4
      simp only [Option.some.injEq, Obj.cells.injEq, and_true] at r4
      obtain ⟨rfl, rfl⟩ := r4
      refine ⟨a, cap, rfl, hm, r2, ?_, by omega⟩
      simpa [BC.len, Cont.len, hlen_eq] using r3
  obtain ⟨a, cap, rfl, hm, rfl, hmr, hcap⟩ := u0
  have hx : x0 = .slice (some ⟨b1, 0, none⟩) m cap := by rw [hx0] at hy0; exact Option.some.inj hy0
  have own1 : VR [b1, b3] [⟨.typ (.ints .i64 rm), 0⟩, ⟨.cells [.fn 58 [.rom [.own 0 0 m 0 1] 0, .rom [.ro (.rows .i64 fs) m 1] 0, .ptr 1 0 0]], 0⟩] w (.own 0 0 m 0 1) (.slice (some ⟨b1, 0, none⟩) m cap) :=
    .own 0 0 m 0 1 _ cap ⟨_, rfl, Nat.le_refl _, fun _ => ⟨b1, cs1, e1, rfl, rfl, by simpa [BC.len, Cont.len, hlen_eq] using hmr, w1, by omega⟩⟩ hm
  have ro1 : VR [b1, b3] [⟨.typ (.ints .i64 rm), 0⟩, ⟨.cells [.fn 58 [.rom [.own 0 0 m 0 1] 0, .rom [.ro (.rows .i64 fs) m 1] 0, .ptr 1 0 0]], 0⟩] w (.ro (.rows .i64 fs) m 1) x2 := by
    cases v2 with
    | ro c len z a cap h0 h hm hl => exact .ro _ _ _ a cap h0 (fun p hp => (h p hp).reforb hs) hm hl
  have cell0 : ∀ {b : Nat} {cs : Array Value} {e : TypeId} {x : Value}, w.heap[b]? = some (Obj.cells cs e (0, 0)) → cs[0]? = some x → w.cell? ⟨b, 0, none⟩ = some x := by
    intro b cs e x h1 h2
    simp [World.cell?, h1, h2]
  have stb : ∀ {b : Nat} {cs : Array Value} {e : TypeId}, w.heap[b]? = some (Obj.cells cs e (0, 0)) → b ≠ b1 → b ≠ b3 → b ∈ [b0, b1, b2, b3] → Stb [b1, b3] w b := fun {b cs e} h1 h2 h3 h4 =>
    ⟨(Array.getElem?_eq_some_iff.1 h1).1, by simp [h2, h3], fun hm => (S.forb b hm).2 h4⟩
  have p0 : ∀ c, VR [b0, b1, b2, b3] [⟨.cells [.own 1 0 m 0 1], 0⟩, ⟨.typ (.ints .i64 rm), 0⟩, ⟨.cells [.ro (.rows .i64 fs) m 1], 0⟩, ⟨.cells [.fn 58 [.ptr 0 0 0, .ptr 2 0 0, .ptr 3 0 0]], 0⟩] w (.ptr 0 0 0) c → VR [b1, b3] [⟨.typ (.ints .i64 rm), 0⟩, ⟨.cells [.fn 58 [.rom [.own 0 0 m 0 1] 0, .rom [.ro (.rows .i64 fs) m 1] 0, .ptr 1 0 0]], 0⟩] w (.rom [.own 0 0 m 0 1] 0) c := by
    intro c h
    cases h with
    | ptr _ _ _ a h =>
      obtain ⟨blk, q1, q2, q3⟩ := h
      simp only [List.getElem?_cons_zero, Option.some.injEq] at q1
      subst q1
      obtain ⟨b, r1, rfl⟩ := q3 rfl
      simp only [List.getElem?_cons_zero, Option.some.injEq] at r1
      subst r1
      refine .rom _ 0 _ #[.slice (some ⟨b1, 0, none⟩) m cap] rfl (fun i x hi => ?_) (fun i u hi => ?_)
      · match i, hi with
        | 0, hi =>
          simp only [Nat.add_zero, List.getElem?_toArray, List.getElem?_cons_zero, Option.some.injEq] at hi
          subst hi
          refine ⟨stb w0 n01 n03 (by simp), ?_⟩
          show w.cell? ⟨b0, 0 + 0, none⟩ = _
          exact cell0 w0 hy0
        | i + 1, hi => simp at hi
      · match i, hi with
        | 0, hi => simp only [List.getElem?_cons_zero, Option.some.injEq] at hi; subst hi; exact own1
        | i + 1, hi => simp at hi
  have p2 : ∀ c, VR [b0, b1, b2, b3] [⟨.cells [.own 1 0 m 0 1], 0⟩, ⟨.typ (.ints .i64 rm), 0⟩, ⟨.cells [.ro (.rows .i64 fs) m 1], 0⟩, ⟨.cells [.fn 58 [.ptr 0 0 0, .ptr 2 0 0, .ptr 3 0 0]], 0⟩] w (.ptr 2 0 0) c → VR [b1, b3] [⟨.typ (.ints .i64 rm), 0⟩, ⟨.cells [.fn 58 [.rom [.own 0 0 m 0 1] 0, .rom [.ro (.rows .i64 fs) m 1] 0, .ptr 1 0 0]], 0⟩] w (.rom [.ro (.rows .i64 fs) m 1] 0) c := by
    intro c h
    cases h with
    | ptr _ _ _ a h =>
      obtain ⟨blk, q1, q2, q3⟩ := h
      simp only [List.getElem?_cons_succ, List.getElem?_cons_zero, Option.some.injEq] at q1
      subst q1
      obtain ⟨b, r1, rfl⟩ := q3 rfl
      simp only [List.getElem?_cons_succ, List.getElem?_cons_zero, Option.some.injEq] at r1
      subst r1
      refine .rom _ 0 _ #[x2] rfl (fun i x hi => ?_) (fun i u hi => ?_)
      · match i, hi with
        | 0, hi =>
          simp only [Nat.add_zero, List.getElem?_toArray, List.getElem?_cons_zero, Option.some.injEq] at hi
          subst hi
          refine ⟨stb w2 (fun e => n12 e.symm) n23 (by simp), ?_⟩
          show w.cell? ⟨b2, 0 + 0, none⟩ = _
          exact cell0 w2 hx2
        | i + 1, hi => simp at hi
      · match i, hi with
        | 0, hi => simp only [List.getElem?_cons_zero, Option.some.injEq] at hi; subst hi; exact ro1
        | i + 1, hi => simp at hi
  have p3 : ∀ c, VR [b0, b1, b2, b3] [⟨.cells [.own 1 0 m 0 1], 0⟩, ⟨.typ (.ints .i64 rm), 0⟩, ⟨.cells [.ro (.rows .i64 fs) m 1], 0⟩, ⟨.cells [.fn 58 [.ptr 0 0 0, .ptr 2 0 0, .ptr 3 0 0]], 0⟩] w (.ptr 3 0 0) c → VR [b1, b3] [⟨.typ (.ints .i64 rm), 0⟩, ⟨.cells [.fn 58 [.rom [.own 0 0 m 0 1] 0, .rom [.ro (.rows .i64 fs) m 1] 0, .ptr 1 0 0]], 0⟩] w (.ptr 1 0 0) c := by
    intro c h
    cases h with
    | ptr _ _ _ a h =>
      obtain ⟨blk, q1, q2, q3⟩ := h
      simp only [List.getElem?_cons_succ, List.getElem?_cons_zero, Option.some.injEq] at q1
      subst q1
      obtain ⟨b, r1, rfl⟩ := q3 rfl
      exact .ptr 1 0 0 _ ⟨_, rfl, Nat.le_refl _, fun _ => ⟨b, r1, rfl⟩⟩
  have all3 : ∀ cs : List Value, VRs [b0, b1, b2, b3] [⟨.cells [.own 1 0 m 0 1], 0⟩, ⟨.typ (.ints .i64 rm), 0⟩, ⟨.cells [.ro (.rows .i64 fs) m 1], 0⟩, ⟨.cells [.fn 58 [.ptr 0 0 0, .ptr 2 0 0, .ptr 3 0 0]], 0⟩] w [.ptr 0 0 0, .ptr 2 0 0, .ptr 3 0 0] cs → VRs [b1, b3] [⟨.typ (.ints .i64 rm), 0⟩, ⟨.cells [.fn 58 [.rom [.own 0 0 m 0 1] 0, .rom [.ro (.rows .i64 fs) m 1] 0, .ptr 1 0 0]], 0⟩] w [.rom [.own 0 0 m 0 1] 0, .rom [.ro (.rows .i64 fs) m 1] 0, .ptr 1 0 0] cs := by
    intro cs hh
    obtain ⟨c1, t1, rfl, a1, h1⟩ := hh.inv_cons
    obtain ⟨c2, t2, rfl, a2, h2⟩ := h1.inv_cons
    obtain ⟨c3, t3, rfl, a3, h3⟩ := h2.inv_cons
    obtain rfl := h3.inv_nil
    exact VRs.cons (p0 _ a1) (VRs.cons (p2 _ a2) (VRs.cons (p3 _ a3) (VRs.nil _ _ _)))
  have f3 : VR [b1, b3] [⟨.typ (.ints .i64 rm), 0⟩, ⟨.cells [.fn 58 [.rom [.own 0 0 m 0 1] 0, .rom [.ro (.rows .i64 fs) m 1] 0, .ptr 1 0 0]], 0⟩] w (.fn 58 [.rom [.own 0 0 m 0 1] 0, .rom [.ro (.rows .i64 fs) m 1] 0, .ptr 1 0 0]) x3 := by
    cases v3 with
    | fn f vs cs hl h =>
      have h4 : VRs [b0, b1, b2, b3] [⟨.cells [.own 1 0 m 0 1], 0⟩, ⟨.typ (.ints .i64 rm), 0⟩, ⟨.cells [.ro (.rows .i64 fs) m 1], 0⟩, ⟨.cells [.fn 58 [.ptr 0 0 0, .ptr 2 0 0, .ptr 3 0 0]], 0⟩] w [.ptr 0 0 0, .ptr 2 0 0, .ptr 3 0 0] cs.toList := ⟨by simpa using hl, fun i u x hu hx => by
        have := h i u hu
        have hx' : cs[i]? = some x := by simpa using hx
        rwa [Array.getD_eq_getD_getElem?, hx', Option.getD_some] at this⟩
      obtain ⟨l1, l2⟩ := all3 _ h4
      refine .fn _ _ cs (by simpa using l1) fun i u hu => ?_
      have hi : i < cs.size := by
        have := (List.getElem?_eq_some_iff.1 hu).1
        have l1' : (3 : Nat) = cs.size := by simpa using l1
        have l3 : i < 3 := this
        omega
      have := l2 i u cs[i] hu (by simp [hi])
      simpa [Array.getD_eq_getD_getElem?, hi] using this
  have S1 : Sim [b1, b3] [⟨.typ (.ints .i64 rm), 0⟩, ⟨.cells [.fn 58 [.rom [.own 0 0 m 0 1] 0, .rom [.ro (.rows .i64 fs) m 1] 0, .ptr 1 0 0]], 0⟩] w := by
    refine ⟨rfl, by simp [n13], fun b hb => ⟨(S.forb b hb).1, fun hm => (S.forb b hb).2 (by simp only [List.mem_cons, List.not_mem_nil, or_false] at hm ⊢; rcases hm with rfl | rfl <;> simp)⟩, fun l b blk hlb hb => ?_⟩
    match l, hlb, hb with
    | 0, hlb, hb =>
      simp only [List.getElem?_cons_zero, Option.some.injEq] at hlb hb
      subst hlb hb
      refine ⟨cs1, e1, w1, k1, fun i u hu => ?_⟩
      obtain ⟨x, hx, vx⟩ := B1 i u hu
      simp only [BC.get?, Cont.get?] at hu
      split at hu
      · simp only [Option.some.injEq] at hu
        subst hu
        cases vx
        exact ⟨_, hx, .int _ _⟩
      · cases hu
    | 1, hlb, hb =>
      simp only [List.getElem?_cons_succ, List.getElem?_cons_zero, Option.some.injEq] at hlb hb
      subst hlb hb
      refine ⟨cs3, e3, w3, k3, fun i u hu => ?_⟩
      match i, hu with
      | 0, hu =>
        simp only [BC.get?, nth_eq, List.getElem?_cons_zero, Option.some.injEq] at hu
        subst hu
        exact ⟨x3, hx3, f3⟩
      | i + 1, hu => simp [BC.get?, nth_eq] at hu
    | l + 2, hlb, hb => simp at hlb
  refine (hc [b1, b3] w cargs S1 (all3 _ V)).mono fun e w' ⟨c, he, ρ1, Vc, S1', M1⟩ => ⟨c, he, [b0, b1, b2, b3], ?_, ?_, ?_⟩
  · cases Vc; exact .bool _
  all_goals
    obtain ⟨bk0, m1, m2, m3⟩ := M1.keep 0 _ rfl
    simp only [List.getElem?_cons_zero, Option.some.injEq] at m1
    subst m1
    obtain ⟨m4, m5, m6⟩ := m3 rfl
    obtain ⟨cs1', w1', z1⟩ := m6 b1 cs1 e1 rfl w1
    obtain ⟨bk1, m1, m2, m3⟩ := M1.keep 1 _ rfl
    simp only [List.getElem?_cons_succ, List.getElem?_cons_zero, Option.some.injEq] at m1
    subst m1
    obtain ⟨m7, m8, m9⟩ := m3 rfl
    obtain ⟨cs3', w3', z3⟩ := m9 b3 cs3 e3 rfl w3
    have w0' : w'.heap[b0]? = some (Obj.cells cs0 e0 (0, 0)) := ((M1.frame b0 (Array.getElem?_eq_some_iff.1 w0).1 (by simp [n01, n03])).1).trans w0
    have w2' : w'.heap[b2]? = some (Obj.cells cs2 e2 (0, 0)) := ((M1.frame b2 (Array.getElem?_eq_some_iff.1 w2).1 (by simp [n23]; exact fun e => n12 e.symm)).1).trans w2
    have hrl := rms.ro_len fs N rm
  · refine ⟨rfl, S.nodup, fun b hb => ⟨Nat.lt_of_lt_of_le (S.forb b hb).1 M1.size, (S.forb b hb).2⟩, fun l b blk hlb hb => ?_⟩
    match l, hlb, hb with
    | 0, hlb, hb =>
      simp only [List.getElem?_cons_zero, Option.some.injEq] at hlb hb
      subst hlb hb
      refine ⟨cs0, e0, w0', k0, fun i u hu => ?_⟩
      match i, hu with
      | 0, hu =>
        simp only [BC.get?, nth_eq, List.getElem?_cons_zero, Option.some.injEq] at hu
        subst hu
        exact ⟨_, hy0, .own 1 0 m 0 1 _ cap ⟨_, rfl, Nat.le_refl _, fun _ => ⟨b1, cs1', e1, rfl, rfl, by simp [BC.len, Cont.len, hlen_eq, hrl]; exact hmr, w1', by omega⟩⟩ hm⟩
      | i + 1, hu => simp [BC.get?, nth_eq] at hu
    | 1, hlb, hb =>
      simp only [List.getElem?_cons_succ, List.getElem?_cons_zero, Option.some.injEq] at hlb hb
      subst hlb hb
      obtain ⟨cs, t, q1, q2, q3⟩ := S1'.blk 0 b1 _ rfl m4
      rw [w1'] at q1
      simp only [Option.some.injEq, Obj.cells.injEq, and_true] at q1
      obtain ⟨rfl, rfl⟩ := q1
      refine ⟨cs1', e1, w1', q2, fun i u hu => ?_⟩
      obtain ⟨x, hx, vx⟩ := q3 i u hu
      simp only [BC.get?, Cont.get?] at hu
      split at hu
      · simp only [Option.some.injEq] at hu
        subst hu
        cases vx
        exact ⟨_, hx, .int _ _⟩
      · cases hu
    | 2, hlb, hb =>
      simp only [List.getElem?_cons_succ, List.getElem?_cons_zero, Option.some.injEq] at hlb hb
      subst hlb hb
      refine ⟨cs2, e2, w2', k2, fun i u hu => ?_⟩
      match i, hu with
      | 0, hu =>
        simp only [BC.get?, nth_eq, List.getElem?_cons_zero, Option.some.injEq] at hu
        subst hu
        exact ⟨x2, hx2, .top _⟩
      | i + 1, hu => simp [BC.get?, nth_eq] at hu
    | 3, hlb, hb =>
      simp only [List.getElem?_cons_succ, List.getElem?_cons_zero, Option.some.injEq] at hlb hb
      subst hlb hb
      have hsz : 0 < cs3'.size := by rw [z3]; exact (Array.getElem?_eq_some_iff.1 hx3).1
      refine ⟨cs3', e3, w3', by rw [z3]; exact k3, fun i u hu => ?_⟩
      match i, hu with
      | 0, hu =>
        simp only [BC.get?, nth_eq, List.getElem?_cons_zero, Option.some.injEq] at hu
        subst hu
        exact ⟨cs3'[0], Array.getElem?_eq_getElem hsz, .top _⟩
      | i + 1, hu => simp [BC.get?, nth_eq] at hu
    | l + 4, hlb, hb => simp at hlb
  · refine ⟨M1.os, M1.tape, M1.output, M1.size, fun b hb hn => ⟨(M1.frame b hb fun hm => hn (by simp only [List.mem_cons, List.not_mem_nil, or_false] at hm ⊢; rcases hm with rfl | rfl <;> simp)).1, hn⟩, fun l blk hlb => ?_⟩
    have same : ∀ {b : Nat} {cs0' cs' : Array Value} {e' : TypeId}, w.heap[b]? = some (Obj.cells cs0' e' (0, 0)) → w'.heap[b]? = some (Obj.cells cs' e' (0, 0)) → cs'.size = cs0'.size → ∀ (bb : Nat) (cs : Array Value) (e : TypeId), some b = some bb → w.heap[bb]? = some (Obj.cells cs e (0, 0)) → ∃ cs'', w'.heap[bb]? = some (Obj.cells cs'' e (0, 0)) ∧ cs''.size = cs.size := by
      intro b cs0' cs' e' q1 q2 q3 bb cs e hbb q4
      simp only [Option.some.injEq] at hbb
      subst hbb
      rw [q1] at q4
      simp only [Option.some.injEq, Obj.cells.injEq, and_true] at q4
      obtain ⟨rfl, rfl⟩ := q4
      exact ⟨cs', q2, q3⟩
    match l, hlb with
    | 0, hlb =>
      simp only [List.getElem?_cons_zero, Option.some.injEq] at hlb
      subst hlb
      exact ⟨_, rfl, Nat.le_refl _, fun _ => ⟨rfl, rfl, same w0 w0' rfl⟩⟩
    | 1, hlb =>
      simp only [List.getElem?_cons_succ, List.getElem?_cons_zero, Option.some.injEq] at hlb
      subst hlb
      exact ⟨_, rfl, Nat.le_refl _, fun _ => ⟨rfl, by simp [BC.len, Cont.len, hlen_eq, hrl], same w1 w1' z1⟩⟩
    | 2, hlb =>
      simp only [List.getElem?_cons_succ, List.getElem?_cons_zero, Option.some.injEq] at hlb
      subst hlb
      exact ⟨_, rfl, Nat.le_refl _, fun _ => ⟨rfl, rfl, same w2 w2' rfl⟩⟩
    | 3, hlb =>
      simp only [List.getElem?_cons_succ, List.getElem?_cons_zero, Option.some.injEq] at hlb
      subst hlb
      exact ⟨_, rfl, Nat.le_refl _, fun _ => ⟨rfl, rfl, same w3 w3' z3⟩⟩
    | l + 4, hlb => simp at hlb
end iRoomsP

end Go.Proofs.Ytchebdconomdoaa.Ab
