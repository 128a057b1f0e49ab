/-
  Functions: lists of numbers that are drawn, sums.
-/
import Derived.Test.YtjhofofieiiplaaGreatDoorFnNd
namespace Go.Proofs.YtjhofofieiiplaaGreatDoor.Ab
open Go
set_option linter.unusedVariables false
set_option linter.unusedSimpArgs false
set_option maxRecDepth 100000

namespace dw
/-- One number, a strange one or a plain one. -/
def on.sv (xs : List Int) (b : Bool) (a s : Int) : Nat × Int × Int := bif b then df.sv xs a s else pl.sv xs a s
/-- So many, and where the source stands then. -/
def fs.sv (xs : List Int) (b : Bool) : Nat → Int → Int → List Nat
  | 0, _, _ => []
  | k + 1, a, s => (on.sv xs b a s).1 :: fs.sv xs b k (on.sv xs b a s).2.1 (on.sv xs b a s).2.2
def st.sv (xs : List Int) (b : Bool) : Nat → Int → Int → Int × Int
  | 0, a, s => (a, s)
  | k + 1, a, s => st.sv xs b k (on.sv xs b a s).2.1 (on.sv xs b a s).2.2
theorem on_f (xs : List Int) (a s : Int) : on.sv xs false a s = pl.sv xs a s := by unfold on.sv; exact cond_false _ _
theorem on_t (xs : List Int) (a s : Int) : on.sv xs true a s = df.sv xs a s := by unfold on.sv; exact cond_true _ _
theorem on_in {xs : List Int} (h : r8.bytes.sp xs = true) (b : Bool) (a s : Int) : a ≤ (on.sv xs b a s).2.1 ∧ (on.sv xs b a s).2.1 ≤ a + 12 := by
  unfold on.sv
  have h1 := df_in h a s
  have h2 := pl_in h a s
  cases b
  · rw [cond_false]; omega
  · rw [cond_true]; omega
theorem fs_len (xs : List Int) (b : Bool) : ∀ (k : Nat) (a s : Int), (fs.sv xs b k a s).length = k
  | 0, _, _ => rfl
  | k + 1, a, s => by rw [fs.sv, List.length_cons, fs_len xs b k]
theorem st_in {xs : List Int} (h : r8.bytes.sp xs = true) (b : Bool) : ∀ (k : Nat) (a s : Int), a ≤ (st.sv xs b k a s).1 ∧ (st.sv xs b k a s).1 ≤ a + 12 * k
  | 0, a, s => by unfold st.sv; simp
  | k + 1, a, s => by
    have h1 := on_in h b a s
    have h2 := st_in h b k (on.sv xs b a s).2.1 (on.sv xs b a s).2.2
    rw [st.sv]
    omega
def fl.sv (xs : List Int) (n : Nat) (a s : Int) : List Nat := fs.sv xs ((pk.sv xs 4 a s).1 == 0) n (pk.sv xs 4 a s).2.1 (pk.sv xs 4 a s).2.2
def fe.sv (xs : List Int) (n : Nat) (a s : Int) : Int × Int := st.sv xs ((pk.sv xs 4 a s).1 == 0) n (pk.sv xs 4 a s).2.1 (pk.sv xs 4 a s).2.2
def n.sv (xs : List Int) : Nat := bif (pk.sv xs 2 0 0).1 == 0 then (wd.sv xs (pk.sv xs 2 0 0).2.1 (pk.sv xs 2 0 0).2.2).1 else (df.sv xs (pk.sv xs 2 0 0).2.1 (pk.sv xs 2 0 0).2.2).1
def sm.sv (xs : List Nat) : Nat := xs.foldl (fadd .f32) 0
end dw
namespace l01DrawFloats
def R : List AVal → Heap → Option (Bool × AVal × Heap)
  | [.ptr 0 0 0, .int .i64 n], [⟨.cells [.ro (.ints .u8 xs) m 1, .int .i64 a, .int .u64 s], 0⟩] => some (decide (m = xs.length ∧ m ≤ 2000000 ∧ 0 ≤ a ∧ a ≤ 900000 ∧ 0 ≤ n ∧ n ≤ 1000) && r8.bytes.sp xs, .own 1 0 n.toNat 0 1, [⟨.cells [.ro (.ints .u8 xs) m 1, .int .i64 (dw.fe.sv xs n.toNat a s).1, .int .u64 (dw.fe.sv xs n.toNat a s).2], 0⟩, ⟨.typ (.flts .f32 (dw.fl.sv xs n.toNat a s)), 0⟩])
  | _, _ => none
def hd : Nat → Head := fun _ => ⟨[0, 1, 5, 6], some 1⟩
noncomputable def L (f n : Nat) (s : State) := loopAt Tryz.prog (orcW [⟨53, l01DrawFloat.R⟩, ⟨77, l01DrawPlain.R⟩, ⟨51, bOn.R⟩] []) hd Dr.std 1 f (bodyOf Tryz.f64) 0 [true, true, true, false] (retK Tryz.prog [4] 1 none) n s
theorem start (xs : List Int) (n a s : Int) (f : Nat) :
  runFn Tryz.prog (orcW [⟨53, l01DrawFloat.R⟩, ⟨77, l01DrawPlain.R⟩, ⟨51, bOn.R⟩] []) hd Dr.std none f (bodyOf Tryz.f64) 26 [4] [.ptr 0 0 0, .int .i64 n] [⟨.cells [.ro (.ints .u8 xs) xs.length 1, .int .i64 a, .int .u64 s], 0⟩]
  = (bif true && true then bif decide (xs.length = xs.length ∧ xs.length ≤ (2000000 : Nat) ∧ (0 : Int) ≤ a ∧ a ≤ (999990 : Int) ∧ (1 : Int) ≤ (4 : Int) ∧ (4 : Int) ≤ (65536 : Int)) && r8.bytes.sp xs && (true && (true && true)) then L f f (mkS (26 : Nat) [((0 : Nat), AVal.ptr (0 : Nat) (0 : Nat) (0 : Nat)), ((1 : Nat), AVal.int IntKind.i64 n), ((5 : Nat), AVal.own (1 : Nat) (0 : Nat) (0 : Nat) (0 : Nat) (1 : Nat)), ((6 : Nat), AVal.bool ((dw.pk.sv xs (4 : Int) a s).1 == (0 : Int)))] [{ c := BC.cells [AVal.ro (Cont.ints IntKind.u8 xs) xs.length (1 : Nat), AVal.int IntKind.i64 (dw.pk.sv xs (4 : Int) a s).2.1, AVal.int IntKind.u64 (dw.pk.sv xs (4 : Int) a s).2.2], ver := (0 : Nat) }, { c := BC.typ (Cont.flts FloatKind.f32 (List.replicate (0 : Nat) (0 : Nat))), ver := (0 : Nat) }]) else none else none) := by kernel_rfl
theorem round (xs : List Int) (os : List Nat) (n a s : Int) (b : Bool) (q f m : Nat) :
  L f (m + 1) (mkS 26 [(0, .ptr 0 0 0), (1, .int .i64 n), (5, .own 1 0 q 0 1), (6, .bool b)] [⟨.cells [.ro (.ints .u8 xs) xs.length 1, .int .i64 a, .int .u64 s], 0⟩, ⟨.typ (.flts .f32 os), 0⟩])
  = (bif decide ((0 : Int) < n) then bif b then bif decide (xs.length = xs.length ∧ xs.length ≤ (2000000 : Nat) ∧ (0 : Int) ≤ a ∧ a ≤ (999960 : Int)) && r8.bytes.sp xs && (true && (true && true)) then bif (1 : Nat) == (1 : Nat) && (1 : Nat) == (1 : Nat) && (true && (true && true) && (true && true && (decide (q + (List.take (1 : Nat) (List.drop (0 : Nat) ((List.replicate (1 : Nat) (0 : Nat)).set (0 : Nat) (dw.df.sv xs a s).1))).length ≤ (4611686018427387904 : Nat)) && decide ((q + (List.take (1 : Nat) (List.drop (0 : Nat) ((List.replicate (1 : Nat) (0 : Nat)).set (0 : Nat) (dw.df.sv xs a s).1))).length) * (4 : Nat) ≤ (140737488355328 : Nat))))) then L f m (mkS (26 : Nat) [((0 : Nat), AVal.ptr (0 : Nat) (0 : Nat) (0 : Nat)), ((1 : Nat), AVal.int IntKind.i64 (IntKind.i64.wrap (n - (1 : Int)))), ((5 : Nat), AVal.own (1 : Nat) (0 : Nat) (q + (List.take (1 : Nat) (List.drop (0 : Nat) ((List.replicate (1 : Nat) (0 : Nat)).set (0 : Nat) (dw.df.sv xs a s).1))).length) (0 : Nat) (1 : Nat)), ((6 : Nat), AVal.bool b)] [{ c := BC.cells [AVal.ro (Cont.ints IntKind.u8 xs) xs.length (1 : Nat), AVal.int IntKind.i64 (dw.df.sv xs a s).2.1, AVal.int IntKind.u64 (dw.df.sv xs a s).2.2], ver := (0 : Nat) }, { c := BC.typ (Cont.flts FloatKind.f32 (List.take q os ++ List.take (1 : Nat) (List.drop (0 : Nat) ((List.replicate (1 : Nat) (0 : Nat)).set (0 : Nat) (dw.df.sv xs a s).1)))), ver := (0 : Nat) }]) else none else none else bif decide (xs.length = xs.length ∧ xs.length ≤ (2000000 : Nat) ∧ (0 : Int) ≤ a ∧ a ≤ (999980 : Int)) && r8.bytes.sp xs && (true && (true && true)) then bif (1 : Nat) == (1 : Nat) && (1 : Nat) == (1 : Nat) && (true && (true && true) && (true && true && (decide (q + (List.take (1 : Nat) (List.drop (0 : Nat) ((List.replicate (1 : Nat) (0 : Nat)).set (0 : Nat) (dw.pl.sv xs a s).1))).length ≤ (4611686018427387904 : Nat)) && decide ((q + (List.take (1 : Nat) (List.drop (0 : Nat) ((List.replicate (1 : Nat) (0 : Nat)).set (0 : Nat) (dw.pl.sv xs a s).1))).length) * (4 : Nat) ≤ (140737488355328 : Nat))))) then L f m (mkS (26 : Nat) [((0 : Nat), AVal.ptr (0 : Nat) (0 : Nat) (0 : Nat)), ((1 : Nat), AVal.int IntKind.i64 (IntKind.i64.wrap (n - (1 : Int)))), ((5 : Nat), AVal.own (1 : Nat) (0 : Nat) (q + (List.take (1 : Nat) (List.drop (0 : Nat) ((List.replicate (1 : Nat) (0 : Nat)).set (0 : Nat) (dw.pl.sv xs a s).1))).length) (0 : Nat) (1 : Nat)), ((6 : Nat), AVal.bool b)] [{ c := BC.cells [AVal.ro (Cont.ints IntKind.u8 xs) xs.length (1 : Nat), AVal.int IntKind.i64 (dw.pl.sv xs a s).2.1, AVal.int IntKind.u64 (dw.pl.sv xs a s).2.2], ver := (0 : Nat) }, { c := BC.typ (Cont.flts FloatKind.f32 (List.take q os ++ List.take (1 : Nat) (List.drop (0 : Nat) ((List.replicate (1 : Nat) (0 : Nat)).set (0 : Nat) (dw.pl.sv xs a s).1)))), ver := (0 : Nat) }]) else none else none else some (AVal.own (1 : Nat) (0 : Nat) q (0 : Nat) (1 : Nat), [{ c := BC.cells [AVal.ro (Cont.ints IntKind.u8 xs) xs.length (1 : Nat), AVal.int IntKind.i64 a, AVal.int IntKind.u64 s], ver := (0 : Nat) }, { c := BC.typ (Cont.flts FloatKind.f32 os), ver := (0 : Nat) }])) := by kernel_rfl
theorem loop (xs : List Int) (b : Bool) (f : Nat) (hx : xs.length ≤ 2000000) (hb : r8.bytes.sp xs = true) : ∀ (d n : Nat) (a s : Int) (os : List Nat), d ≤ 1000 → os.length + d ≤ 1000 → 0 ≤ a → a + 12 * d ≤ 950000 → d < n →
    L f n (mkS 26 [(0, .ptr 0 0 0), (1, .int .i64 ((d : Nat) : Int)), (5, .own 1 0 os.length 0 1), (6, .bool b)] [⟨.cells [.ro (.ints .u8 xs) xs.length 1, .int .i64 a, .int .u64 s], 0⟩, ⟨.typ (.flts .f32 os), 0⟩]) = some (.own 1 0 (os.length + d) 0 1, [⟨.cells [.ro (.ints .u8 xs) xs.length 1, .int .i64 (dw.st.sv xs b d a s).1, .int .u64 (dw.st.sv xs b d a s).2], 0⟩, ⟨.typ (.flts .f32 (os ++ dw.fs.sv xs b d a s)), 0⟩]) := by
  intro d
  induction d with
  | zero =>
    intro n a s os h1 h2 h3 h4 hn
    obtain ⟨n, rfl⟩ : ∃ k, n = k + 1 := ⟨n - 1, by omega⟩
    have c : ¬ ((0 : Int) < ((0 : Nat) : Int)) := by omega
    rw [round, decide_eq_false c, cond_false, dw.fs.sv, List.append_nil, dw.st.sv]
    rfl
  | succ d ih =>
    intro n a s os h1 h2 h3 h4 hn
    obtain ⟨n, rfl⟩ : ∃ k, n = k + 1 := ⟨n - 1, by omega⟩
    have o := dw.on_in hb b a s
    have hd := dw.df_in hb a s
    have hp := dw.pl_in hb a s
    have g := ih n (dw.on.sv xs b a s).2.1 (dw.on.sv xs b a s).2.2 (os ++ [(dw.on.sv xs b a s).1]) (by omega) (by rw [List.length_append, List.length_singleton]; omega) (by omega) (by omega) (by omega)
    rw [List.length_append, List.length_singleton, List.append_assoc] at g
    have ht : List.take os.length os = os := List.take_length
    have w : IntKind.i64.wrap (((d + 1 : Nat) : Int) - 1) = ((d : Nat) : Int) := by rw [IntWalk.i64_in _ (by omega)]; omega
    rw [round, dw.fs.sv, dw.st.sv, show os.length + (d + 1) = os.length + 1 + d by omega]
    cases b
    · have e := dw.on_f xs a s
      rw [e] at g ⊢
      simp -implicitDefEqProofs (disch := omega) only [ht, hb, w, hx, take_one, set_one, decide_eq_true, decide_eq_false, IntWalk.i64_in, beqT, beqF, bneT, bneF, nat_succ, ← Int.natCast_mul, ← Int.natCast_add, Int.toNat_natCast, Int.zero_mul, Int.zero_add, Int.add_zero, Nat.zero_add, Nat.add_zero, Nat.zero_mul, List.length_singleton, List.length_append, List.length_nil, List.length_cons, List.take_length, List.drop_zero, List.replicate_zero, List.take_nil, List.nil_append, Nat.reduceBEq, Nat.reduceMul, Nat.reduceLeDiff, eq_self, and_self, true_and, and_true, decide_true, decide_false, Bool.and_self, Bool.or_self, Bool.and_true, Bool.true_and, Bool.and_false, Bool.false_and, Bool.or_true, Bool.true_or, Bool.or_false, Bool.false_or, Bool.not_true, Bool.not_false, cond_true, cond_false]
      rw [g]
      rfl
    · have e := dw.on_t xs a s
      rw [e] at g ⊢
      simp -implicitDefEqProofs (disch := omega) only [ht, hb, w, hx, take_one, set_one, decide_eq_true, decide_eq_false, IntWalk.i64_in, beqT, beqF, bneT, bneF, nat_succ, ← Int.natCast_mul, ← Int.natCast_add, Int.toNat_natCast, Int.zero_mul, Int.zero_add, Int.add_zero, Nat.zero_add, Nat.add_zero, Nat.zero_mul, List.length_singleton, List.length_append, List.length_nil, List.length_cons, List.take_length, List.drop_zero, List.replicate_zero, List.take_nil, List.nil_append, Nat.reduceBEq, Nat.reduceMul, Nat.reduceLeDiff, eq_self, and_self, true_and, and_true, decide_true, decide_false, Bool.and_self, Bool.or_self, Bool.and_true, Bool.true_and, Bool.and_false, Bool.false_and, Bool.or_true, Bool.true_or, Bool.or_false, Bool.false_or, Bool.not_true, Bool.not_false, cond_true, cond_false]
      rw [g]
      rfl
theorem run : ∀ args H v new, R args H = some (true, v, new) → ∃ fuel, runFn Tryz.prog (orcW [⟨53, l01DrawFloat.R⟩, ⟨77, l01DrawPlain.R⟩, ⟨51, bOn.R⟩] []) hd Dr.std none fuel (bodyOf Tryz.f64) 26 [4] args H = some (v, new) := by
  intro args H v new h
  unfold R at h
  split at h
  · rename_i n xs m a s
    simp only [Option.some.injEq, Prod.mk.injEq, Bool.and_eq_true, decide_eq_true_eq] at h
    obtain ⟨⟨⟨rfl, h1, h2, h3, h4, h5⟩, hb⟩, rfl, rfl⟩ := h
    obtain ⟨n, rfl⟩ : ∃ q : Nat, n = q := ⟨n.toNat, by omega⟩
    obtain ⟨F, hF⟩ : ∃ F : Nat, F = 2000 := ⟨2000, rfl⟩
    refine ⟨F, ?_⟩
    have p := dw.pk_in hb (n := 4) (by decide) a s
    have g := loop xs ((dw.pk.sv xs 4 a s).1 == 0) F h1 hb n F (dw.pk.sv xs 4 a s).2.1 (dw.pk.sv xs 4 a s).2.2 [] (by omega) (by simp; omega) (by omega) (by omega) (by omega)
    rw [start, Int.toNat_natCast]
    simp -implicitDefEqProofs (disch := omega) only [hb, h1, take_one, set_one, decide_eq_true, decide_eq_false, IntWalk.i64_in, beqT, beqF, bneT, bneF, nat_succ, ← Int.natCast_mul, ← Int.natCast_add, Int.toNat_natCast, Int.zero_mul, Int.zero_add, Int.add_zero, Nat.zero_add, Nat.add_zero, Nat.zero_mul, List.length_singleton, List.length_append, List.length_nil, List.length_cons, List.take_length, List.drop_zero, List.replicate_zero, List.take_nil, List.nil_append, Nat.reduceBEq, Nat.reduceMul, Nat.reduceLeDiff, eq_self, and_self, true_and, and_true, decide_true, decide_false, Bool.and_self, Bool.or_self, Bool.and_true, Bool.true_and, Bool.and_false, Bool.false_and, Bool.or_true, Bool.true_or, Bool.or_false, Bool.false_or, Bool.not_true, Bool.not_false, cond_true, cond_false]
    rw [List.length_nil, Nat.zero_add, List.nil_append] at g
    exact g
  · cases h
theorem ok : EntWOk Tryz.prog ⟨64, R⟩ :=
  entw_ok mixed (A := (orcW [⟨53, l01DrawFloat.R⟩, ⟨77, l01DrawPlain.R⟩, ⟨51, bOn.R⟩] [])) (orcW_ok (by simp only [List.mem_cons, List.not_mem_nil, or_false, forall_eq_or_imp, forall_eq]; exact ⟨l01DrawFloat.ok, l01DrawPlain.ok, bOn.ok⟩) (by simp)) Tryz.func64 (by kernel_rfl) (by kernel_rfl) (n := 26) (ts := [4]) (hd := hd) (dr := Dr.std) (cut := none) (by kernel_rfl) (by kernel_rfl) (by kernel_rfl) run
end l01DrawFloats

namespace B10Number
def R : List AVal → Option (Bool × AVal × List Blk)
  | [.ro (.ints .u8 xs) m 1] => some (decide (m = xs.length ∧ m ≤ 2000000) && r8.bytes.sp xs, .flt .f32 (dw.n.sv xs), [])
  | _ => none
theorem go (xs : List Int) :
  runFn Tryz.prog (orcW [⟨53, l01DrawFloat.R⟩, ⟨39, bPk.R⟩, ⟨51, bOn.R⟩] [⟨38, l00From.R⟩, ⟨52, l01From.R⟩]) hd0 Dr.std none 0 (bodyOf Tryz.f19) 19 [2] [.ro (.ints .u8 xs) xs.length 1] []
  = (bif true && (true && true || true && (false && true && true)) then bif decide (xs.length = xs.length ∧ xs.length ≤ (2000000 : Nat) ∧ (0 : Int) ≤ (0 : Int) ∧ (0 : Int) ≤ (999990 : Int) ∧ (1 : Int) ≤ (2 : Int) ∧ (2 : Int) ≤ (65536 : Int)) && r8.bytes.sp xs && (true && (true && true)) then bif (dw.pk.sv xs (2 : Int) (0 : Int) (0 : Int)).1 == (0 : Int) then bif decide (xs.length = xs.length ∧ xs.length ≤ (2000000 : Nat) ∧ (0 : Int) ≤ (dw.pk.sv xs (2 : Int) (0 : Int) (0 : Int)).2.1 ∧ (dw.pk.sv xs (2 : Int) (0 : Int) (0 : Int)).2.1 ≤ (999990 : Int) ∧ (1 : Int) ≤ (65536 : Int) ∧ (65536 : Int) ≤ (65536 : Int)) && r8.bytes.sp xs && (true && (true && true)) then bif decide (xs.length = xs.length ∧ xs.length ≤ (2000000 : Nat) ∧ (0 : Int) ≤ (dw.pk.sv xs (65536 : Int) (dw.pk.sv xs (2 : Int) (0 : Int) (0 : Int)).2.1 (dw.pk.sv xs (2 : Int) (0 : Int) (0 : Int)).2.2).2.1 ∧ (dw.pk.sv xs (65536 : Int) (dw.pk.sv xs (2 : Int) (0 : Int) (0 : Int)).2.1 (dw.pk.sv xs (2 : Int) (0 : Int) (0 : Int)).2.2).2.1 ≤ (999990 : Int) ∧ (1 : Int) ≤ (65536 : Int) ∧ (65536 : Int) ≤ (65536 : Int)) && r8.bytes.sp xs && (true && (true && true)) then bif decide ((0 : Int) ≤ IntKind.i64.wrap (IntKind.i64.wrap ((dw.pk.sv xs (65536 : Int) (dw.pk.sv xs (2 : Int) (0 : Int) (0 : Int)).2.1 (dw.pk.sv xs (2 : Int) (0 : Int) (0 : Int)).2.2).1 * (65536 : Int)) + (dw.pk.sv xs (65536 : Int) (dw.pk.sv xs (65536 : Int) (dw.pk.sv xs (2 : Int) (0 : Int) (0 : Int)).2.1 (dw.pk.sv xs (2 : Int) (0 : Int) (0 : Int)).2.2).2.1 (dw.pk.sv xs (65536 : Int) (dw.pk.sv xs (2 : Int) (0 : Int) (0 : Int)).2.1 (dw.pk.sv xs (2 : Int) (0 : Int) (0 : Int)).2.2).2.2).1) ∧ IntKind.i64.wrap (IntKind.i64.wrap ((dw.pk.sv xs (65536 : Int) (dw.pk.sv xs (2 : Int) (0 : Int) (0 : Int)).2.1 (dw.pk.sv xs (2 : Int) (0 : Int) (0 : Int)).2.2).1 * (65536 : Int)) + (dw.pk.sv xs (65536 : Int) (dw.pk.sv xs (65536 : Int) (dw.pk.sv xs (2 : Int) (0 : Int) (0 : Int)).2.1 (dw.pk.sv xs (2 : Int) (0 : Int) (0 : Int)).2.2).2.1 (dw.pk.sv xs (65536 : Int) (dw.pk.sv xs (2 : Int) (0 : Int) (0 : Int)).2.1 (dw.pk.sv xs (2 : Int) (0 : Int) (0 : Int)).2.2).2.2).1) ≤ (4294967295 : Int)) && (true && true || true && true) then some (AVal.flt FloatKind.f32 (IntKind.i64.wrap (IntKind.i64.wrap ((dw.pk.sv xs (65536 : Int) (dw.pk.sv xs (2 : Int) (0 : Int) (0 : Int)).2.1 (dw.pk.sv xs (2 : Int) (0 : Int) (0 : Int)).2.2).1 * (65536 : Int)) + (dw.pk.sv xs (65536 : Int) (dw.pk.sv xs (65536 : Int) (dw.pk.sv xs (2 : Int) (0 : Int) (0 : Int)).2.1 (dw.pk.sv xs (2 : Int) (0 : Int) (0 : Int)).2.2).2.1 (dw.pk.sv xs (65536 : Int) (dw.pk.sv xs (2 : Int) (0 : Int) (0 : Int)).2.1 (dw.pk.sv xs (2 : Int) (0 : Int) (0 : Int)).2.2).2.2).1)).toNat, [{ c := BC.cells [AVal.ro (Cont.ints IntKind.u8 xs) xs.length (1 : Nat), AVal.int IntKind.i64 (dw.pk.sv xs (65536 : Int) (dw.pk.sv xs (65536 : Int) (dw.pk.sv xs (2 : Int) (0 : Int) (0 : Int)).2.1 (dw.pk.sv xs (2 : Int) (0 : Int) (0 : Int)).2.2).2.1 (dw.pk.sv xs (65536 : Int) (dw.pk.sv xs (2 : Int) (0 : Int) (0 : Int)).2.1 (dw.pk.sv xs (2 : Int) (0 : Int) (0 : Int)).2.2).2.2).2.1, AVal.int IntKind.u64 (dw.pk.sv xs (65536 : Int) (dw.pk.sv xs (65536 : Int) (dw.pk.sv xs (2 : Int) (0 : Int) (0 : Int)).2.1 (dw.pk.sv xs (2 : Int) (0 : Int) (0 : Int)).2.2).2.1 (dw.pk.sv xs (65536 : Int) (dw.pk.sv xs (2 : Int) (0 : Int) (0 : Int)).2.1 (dw.pk.sv xs (2 : Int) (0 : Int) (0 : Int)).2.2).2.2).2.2], ver := (0 : Nat) }]) else none else none else none else bif decide (xs.length = xs.length ∧ xs.length ≤ (2000000 : Nat) ∧ (0 : Int) ≤ (dw.pk.sv xs (2 : Int) (0 : Int) (0 : Int)).2.1 ∧ (dw.pk.sv xs (2 : Int) (0 : Int) (0 : Int)).2.1 ≤ (999960 : Int)) && r8.bytes.sp xs && (true && (true && true)) then some (AVal.flt FloatKind.f32 (dw.df.sv xs (dw.pk.sv xs (2 : Int) (0 : Int) (0 : Int)).2.1 (dw.pk.sv xs (2 : Int) (0 : Int) (0 : Int)).2.2).1, [{ c := BC.cells [AVal.ro (Cont.ints IntKind.u8 xs) xs.length (1 : Nat), AVal.int IntKind.i64 (dw.df.sv xs (dw.pk.sv xs (2 : Int) (0 : Int) (0 : Int)).2.1 (dw.pk.sv xs (2 : Int) (0 : Int) (0 : Int)).2.2).2.1, AVal.int IntKind.u64 (dw.df.sv xs (dw.pk.sv xs (2 : Int) (0 : Int) (0 : Int)).2.1 (dw.pk.sv xs (2 : Int) (0 : Int) (0 : Int)).2.2).2.2], ver := (0 : Nat) }]) else none else none else none) := by kernel_rfl
theorem run : ∀ args v new, R args = some (true, v, new) → ∃ fuel, regc [] (runFn Tryz.prog (orcW [⟨53, l01DrawFloat.R⟩, ⟨39, bPk.R⟩, ⟨51, bOn.R⟩] [⟨38, l00From.R⟩, ⟨52, l01From.R⟩]) hd0 Dr.std none fuel (bodyOf Tryz.f19) 19 [2] args []) = some (v, new) := by
  intro args v new h
  unfold R at h
  split at h
  · rename_i xs m
    simp only [Option.some.injEq, Prod.mk.injEq, Bool.and_eq_true, decide_eq_true_eq] at h
    obtain ⟨⟨⟨rfl, h1⟩, hb⟩, rfl, rfl⟩ := h
    refine ⟨0, ?_⟩
    have p2 := dw.pk_in hb (n := 2) (by decide) 0 0
    obtain ⟨q, hq⟩ : ∃ q, q = dw.pk.sv xs 2 0 0 := ⟨_, rfl⟩
    rw [← hq] at p2
    have p6 := dw.pk_in hb (n := 65536) (by decide) q.2.1 q.2.2
    have p7 := dw.pk_in hb (n := 65536) (by decide) (dw.pk.sv xs 65536 q.2.1 q.2.2).2.1 (dw.pk.sv xs 65536 q.2.1 q.2.2).2.2
    rw [go]
    unfold dw.n.sv
    rw [← hq]
    unfold dw.wd.sv
    simp -implicitDefEqProofs (disch := omega) only [hb, h1, take_one, set_one, decide_eq_true, decide_eq_false, IntWalk.i64_in, beqT, beqF, bneT, bneF, nat_succ, ← Int.natCast_mul, ← Int.natCast_add, Int.toNat_natCast, Int.zero_mul, Int.zero_add, Int.add_zero, Nat.zero_add, Nat.add_zero, Nat.zero_mul, List.length_singleton, List.length_append, List.length_nil, List.length_cons, List.take_length, List.drop_zero, List.replicate_zero, List.take_nil, List.nil_append, Nat.reduceBEq, Nat.reduceMul, Nat.reduceLeDiff, eq_self, and_self, true_and, and_true, decide_true, decide_false, Bool.and_self, Bool.or_self, Bool.and_true, Bool.true_and, Bool.and_false, Bool.false_and, Bool.or_true, Bool.true_or, Bool.or_false, Bool.false_or, Bool.not_true, Bool.not_false, cond_true, cond_false]
    cases q.1 == 0 <;> rfl
  · cases h
theorem ok : EntOk Tryz.prog ⟨19, R⟩ :=
  ent_okAG (ks := []) mixed (A := (orcW [⟨53, l01DrawFloat.R⟩, ⟨39, bPk.R⟩, ⟨51, bOn.R⟩] [⟨38, l00From.R⟩, ⟨52, l01From.R⟩])) (orcW_ok (by simp only [List.mem_cons, List.not_mem_nil, or_false, forall_eq_or_imp, forall_eq]; exact ⟨l01DrawFloat.ok, bPk.ok, bOn.ok⟩) (by simp only [List.mem_cons, List.not_mem_nil, or_false, forall_eq_or_imp, forall_eq]; exact ⟨l00From.ok, l01From.ok⟩)) Tryz.func19 (by kernel_rfl) (by kernel_rfl) (n := 19) (ts := [2]) (hd := hd0) (dr := Dr.std) (cut := none) (by kernel_rfl) (by kernel_rfl) (by kernel_rfl) run
end B10Number

namespace B10Numbers
def R : List AVal → Option (Bool × AVal × List Blk)
  | [.ro (.ints .u8 xs) m 1, .int .i64 n] => some (decide (m = xs.length ∧ m ≤ 2000000 ∧ 0 ≤ n ∧ n ≤ 1000) && r8.bytes.sp xs, .own 0 0 n.toNat 0 1, [⟨.typ (.flts .f32 (dw.fl.sv xs n.toNat 0 0)), 0⟩])
  | _ => none
theorem go (xs : List Int) (n : Nat) :
  runFn Tryz.prog (orcW [⟨64, l01DrawFloats.R⟩] [⟨38, l00From.R⟩]) hd0 Dr.std none 0 (bodyOf Tryz.f29) 11 [4] [.ro (.ints .u8 xs) xs.length 1, .int .i64 ((n : Nat) : Int)] []
  = (bif true && (true && true || true && (false && true && true)) then bif decide (xs.length = xs.length ∧ xs.length ≤ (2000000 : Nat) ∧ (0 : Int) ≤ (0 : Int) ∧ (0 : Int) ≤ (900000 : Int) ∧ (0 : Int) ≤ (↑n : Int) ∧ (↑n : Int) ≤ (1000 : Int)) && r8.bytes.sp xs && (true && (true && true)) then some (AVal.own ((1 : Nat) + (0 : Nat)) (0 : Nat) (↑n : Int).toNat (0 : Nat) (1 : Nat), [{ c := BC.cells [AVal.ro (Cont.ints IntKind.u8 xs) xs.length (1 : Nat), AVal.int IntKind.i64 (dw.fe.sv xs (↑n : Int).toNat (0 : Int) (0 : Int)).1, AVal.int IntKind.u64 (dw.fe.sv xs (↑n : Int).toNat (0 : Int) (0 : Int)).2], ver := (0 : Nat) }, { c := BC.typ (Cont.flts FloatKind.f32 (dw.fl.sv xs (↑n : Int).toNat (0 : Int) (0 : Int))), ver := (0 : Nat) }]) else none else none) := by kernel_rfl
theorem run : ∀ args v new, R args = some (true, v, new) → ∃ fuel, regc [1] (runFn Tryz.prog (orcW [⟨64, l01DrawFloats.R⟩] [⟨38, l00From.R⟩]) hd0 Dr.std none fuel (bodyOf Tryz.f29) 11 [4] args []) = some (v, new) := by
  intro args v new h
  unfold R at h
  split at h
  · rename_i xs m n
    simp only [Option.some.injEq, Prod.mk.injEq, Bool.and_eq_true, decide_eq_true_eq] at h
    obtain ⟨⟨⟨rfl, h1, h2, h3⟩, hb⟩, rfl, rfl⟩ := h
    obtain ⟨n, rfl⟩ : ∃ q : Nat, n = q := ⟨n.toNat, by omega⟩
    refine ⟨0, ?_⟩
    rw [go]
    simp -implicitDefEqProofs (disch := omega) only [hb, h1, take_one, set_one, decide_eq_true, decide_eq_false, IntWalk.i64_in, beqT, beqF, bneT, bneF, nat_succ, ← Int.natCast_mul, ← Int.natCast_add, Int.toNat_natCast, Int.zero_mul, Int.zero_add, Int.add_zero, Nat.zero_add, Nat.add_zero, Nat.zero_mul, List.length_singleton, List.length_append, List.length_nil, List.length_cons, List.take_length, List.drop_zero, List.replicate_zero, List.take_nil, List.nil_append, Nat.reduceBEq, Nat.reduceMul, Nat.reduceLeDiff, eq_self, and_self, true_and, and_true, decide_true, decide_false, Bool.and_self, Bool.or_self, Bool.and_true, Bool.true_and, Bool.and_false, Bool.false_and, Bool.or_true, Bool.true_or, Bool.or_false, Bool.false_or, Bool.not_true, Bool.not_false, cond_true, cond_false]
    rfl
  · cases h
theorem ok : EntOk Tryz.prog ⟨29, R⟩ :=
  ent_okAG (ks := [1]) mixed (A := (orcW [⟨64, l01DrawFloats.R⟩] [⟨38, l00From.R⟩])) (orcW_ok (by simp only [List.mem_cons, List.not_mem_nil, or_false, forall_eq_or_imp, forall_eq]; exact l01DrawFloats.ok) (by simp only [List.mem_cons, List.not_mem_nil, or_false, forall_eq_or_imp, forall_eq]; exact l00From.ok)) Tryz.func29 (by kernel_rfl) (by kernel_rfl) (n := 11) (ts := [4]) (hd := hd0) (dr := Dr.std) (cut := none) (by kernel_rfl) (by kernel_rfl) (by kernel_rfl) run
end B10Numbers

namespace SumNumbers
def R : List AVal → Option (Bool × AVal × List Blk)
  | [.ro (.flts .f32 xs) m 1] => some (decide (m = xs.length ∧ m ≤ 256), .tup [.flt .f32 (dw.sm.sv xs), .bool true], [])
  | _ => none
def hd : Nat → Head := fun _ => ⟨[4, 10, 11, 12], none⟩
noncomputable def L (f n : Nat) (s : State) := loopAt Tryz.prog (orc []) hd Dr.std 0 f (bodyOf Tryz.f30) 0 [true, true, true, false, true] (retK Tryz.prog [2, 3] 0 none) n s
theorem start (xs : List Nat) (m : Nat) (f : Nat) :
  runFn Tryz.prog (orc []) hd Dr.std none f (bodyOf Tryz.f30) 21 [2, 3] [.ro (.flts .f32 xs) m 1] []
  = (bif decide ((256 : Int) < (↑m : Int)) then some (AVal.tup [AVal.flt FloatKind.f32 (0 : Nat), AVal.bool false], []) else L f f (mkS (21 : Nat) [((4 : Nat), AVal.flt FloatKind.f32 (0 : Nat)), ((10 : Nat), AVal.ro (Cont.flts FloatKind.f32 xs) m (1 : Nat)), ((11 : Nat), AVal.int IntKind.i64 (↑m : Int)), ((12 : Nat), AVal.int IntKind.i64 (0 : Int))] [])) := by kernel_rfl
theorem round (xs : List Nat) (m : Nat) (i : Int) (v f n : Nat) :
  L f (n + 1) (mkS 21 [(4, .flt .f32 v), (10, .ro (.flts .f32 xs) m 1), (11, .int .i64 ((m : Nat) : Int)), (12, .int .i64 i)] [])
  = (bif decide (i < (↑m : Int)) then bif true && (decide ((0 : Int) ≤ i) && decide (i < (↑m : Int))) then bif decide (i.toNat < xs.length) then L f n (mkS (21 : Nat) [((4 : Nat), AVal.flt FloatKind.f32 (fadd FloatKind.f32 v (gn xs i.toNat))), ((10 : Nat), AVal.ro (Cont.flts FloatKind.f32 xs) m (1 : Nat)), ((11 : Nat), AVal.int IntKind.i64 (↑m : Int)), ((12 : Nat), AVal.int IntKind.i64 (IntKind.i64.wrap (i + (1 : Int))))] []) else none else none else some (AVal.tup [AVal.flt FloatKind.f32 v, AVal.bool true], [])) := by kernel_rfl
theorem loop (xs : List Nat) (f : Nat) (hl : xs.length ≤ 256) : ∀ (d n i v : Nat), i + d = xs.length → d < n →
    L f n (mkS 21 [(4, .flt .f32 v), (10, .ro (.flts .f32 xs) xs.length 1), (11, .int .i64 ((xs.length : Nat) : Int)), (12, .int .i64 ((i : Nat) : Int))] []) = some (.tup [.flt .f32 ((xs.drop i).foldl (fadd .f32) v), .bool true], []) := by
  intro d
  induction d with
  | zero =>
    intro n i v hi hn
    obtain ⟨n, rfl⟩ : ∃ k, n = k + 1 := ⟨n - 1, by omega⟩
    have c1 : ¬ (((i : Nat) : Int) < ((xs.length : Nat) : Int)) := by omega
    rw [round, List.drop_eq_nil_of_le (by omega), decide_eq_false c1, cond_false]
    rfl
  | succ d ih =>
    intro n i v hi hn
    obtain ⟨n, rfl⟩ : ∃ k, n = k + 1 := ⟨n - 1, by omega⟩
    have hlt : i < xs.length := by omega
    have hg : gn xs i = xs[i] := by simp [gn, hlt]
    have g := ih n (i + 1) (fadd .f32 v (gn xs i)) (by omega) (by omega)
    rw [List.drop_eq_getElem_cons hlt, List.foldl_cons, ← hg, round]
    simp -implicitDefEqProofs (disch := omega) only [take_one, set_one, decide_eq_true, decide_eq_false, IntWalk.i64_in, beqT, beqF, bneT, bneF, nat_succ, ← Int.natCast_mul, ← Int.natCast_add, Int.toNat_natCast, Int.zero_mul, Int.zero_add, Int.add_zero, Nat.zero_add, Nat.add_zero, Nat.zero_mul, List.length_singleton, List.length_append, List.length_nil, List.length_cons, List.take_length, List.drop_zero, List.replicate_zero, List.take_nil, List.nil_append, Nat.reduceBEq, Nat.reduceMul, Nat.reduceLeDiff, eq_self, and_self, true_and, and_true, decide_true, decide_false, Bool.and_self, Bool.or_self, Bool.and_true, Bool.true_and, Bool.and_false, Bool.false_and, Bool.or_true, Bool.true_or, Bool.or_false, Bool.false_or, Bool.not_true, Bool.not_false, cond_true, cond_false]
    exact g
theorem run : ∀ args v new, R args = some (true, v, new) → ∃ fuel, runFn Tryz.prog (orc []) hd Dr.std none fuel (bodyOf Tryz.f30) 21 [2, 3] args [] = some (v, new) := by
  intro args v new h
  unfold R at h
  split at h
  · rename_i xs m
    simp only [Option.some.injEq, Prod.mk.injEq, decide_eq_true_eq] at h
    obtain ⟨⟨rfl, h1⟩, rfl, rfl⟩ := h
    obtain ⟨F, hF⟩ : ∃ F : Nat, F = 1000 := ⟨1000, rfl⟩
    refine ⟨F, ?_⟩
    have g := loop xs F h1 xs.length F 0 0 (by omega) (by omega)
    have c : ¬ ((256 : Int) < ((xs.length : Nat) : Int)) := by omega
    rw [start, decide_eq_false c, cond_false]
    exact g
  · cases h
theorem ok : EntOk Tryz.prog ⟨30, R⟩ :=
  ent_okA mixed (A := (orc [])) (orc_ok (by simp)) Tryz.func30 (by kernel_rfl) (by kernel_rfl) (n := 21) (ts := [2, 3]) (hd := hd) (dr := Dr.std) (cut := none) (by kernel_rfl) (by kernel_rfl) (by kernel_rfl) run
end SumNumbers

end Go.Proofs.YtjhofofieiiplaaGreatDoor.Ab
